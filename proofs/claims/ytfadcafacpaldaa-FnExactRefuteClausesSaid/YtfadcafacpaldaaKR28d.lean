/- The proof of FnExactRefuteClauses, part 4 of 4. Conditions: none. -/
import Derived.Test.YtfadcafacpaldaaKR28c
import Derived.Test.YtfadcafacpaldaaRows
import Derived.ProofKit
import Derived.Lib.SmallJoins
/- The rows' step: opening the arguments; from a law's contract to the given statement. Conditions: none. -/
namespace Go.Vc
open Go.ChangeShapes Go.WideShapes Go.ChangeAt Go.RowKit Go.Joins
section
variable {H : Type} {enc : TypeId × Value → H} {P : Program} {w : World} {base : Nat} {spare : Nat → Bool} {held : Bool}
theorem sl_of_ints {k : IntKind} {a : Addr} {len cap : Nat} {zs : List Int} (hl : len ≤ cap) (hm : cap ≤ maxLen) (hz : len ≤ zs.length) (hcell : ∀ i, i < zs.length → w.cell? (a.add i) = some (.int k (zs.getD i 0))) :
    Sl w (.slice (some a) len cap) ((zs.take len).map (.int k)) := by
  have hlen : ((zs.take len).map (Value.int k)).length = len := by simp; omega
  refine ⟨some a, cap, by rw [hlen], by rw [hlen]; exact hl, by simpa [maxLen] using hm, ?_⟩
  cases len with
  | zero => left; simp
  | succ len =>
    right
    obtain ⟨b, off, spot⟩ := a
    have hspot : spot = none := by simpa [Addr.add] using World.cell?_spot (hcell 0 (by omega))
    subst hspot
    refine ⟨b, off, rfl, fun i hi => ?_⟩
    rw [hlen] at hi
    have h1 := hcell i (by omega)
    have h2 : (⟨b, off, none⟩ : Addr).add i = ⟨b, off + i, none⟩ := by
      simp only [Addr.add]; split
      · rename_i e; simp
      · rfl
    rw [h2] at h1
    rw [h1, List.getElem?_map, List.getElem?_take, if_pos hi, List.getElem?_eq_getElem (by omega)]
    simp [List.getD_eq_getElem?_getD, List.getElem?_eq_getElem (show i < zs.length by omega)]
/-- A slice of int64, as a cell of a struct or as an argument. -/
theorem open_si {t e : TypeId} {n : Nat} {v : Value} {x : DataW H × List MemPlace} (ht : P.underlying t = some (.slice e)) (he : P.underlying e = some (.int .i64)) (hc : P.cellsOf e = 1) (h : DataW.trod enc P w base (fun _ => true) held n t [v] = some x) : ∃ l, SlI w v l := by
  rcases open_ints ht he hc h with ⟨hcs, _⟩ | ⟨a, len, cap, zs, hcs, _, hl, hm, hz, _, hcell, _⟩
  · cases hcs
    exact ⟨[], Sl.nil w⟩
  · cases hcs
    exact ⟨zs.take len, sl_of_ints hl hm (by rw [hz]; simpa using hl) hcell⟩
theorem trod_true {t : TypeId} (ht : P.underlying t = some .bool) (b : Bool) : DataW.Trod enc P w base spare held t (.bool b) (.lit (.bool b)) [] := ⟨1, by simp [DataW.trod, ht, Value.cells]⟩
end
end Go.Vc

/- The rows' step: opening an argument that is a slice of slices of int64. Conditions: none. -/
namespace Go.Vc
open Go.ChangeShapes Go.WideShapes Go.ChangeAt Go.RowKit Go.Joins
theorem list_ofQ {α : Type} {Q : Nat → α → Prop} : ∀ n, (∀ i, i < n → ∃ q, Q i q) → ∃ l : List α, l.length = n ∧ ∀ i q, l[i]? = some q → Q i q
  | 0, _ => ⟨[], rfl, fun i q h => by simp at h⟩
  | n + 1, h => by
    obtain ⟨l, hl, hq⟩ := list_ofQ n fun i hi => h i (by omega)
    obtain ⟨q, hq1⟩ := h n (by omega)
    refine ⟨l ++ [q], by simp [hl], fun i q' hi => ?_⟩
    rcases Nat.lt_or_ge i n with h1 | h1
    · rw [List.getElem?_append_left (by omega)] at hi
      exact hq i q' hi
    · have hlt := (List.getElem?_eq_some_iff.1 hi).1
      rw [List.length_append, List.length_singleton] at hlt
      obtain rfl : i = n := by omega
      rw [List.getElem?_append_right (by omega), hl, Nat.sub_self] at hi
      simp at hi
      subst hi; exact hq1
section
variable {H : Type} {enc : TypeId × Value → H} {P : Program} {w : World} {base : Nat} {held : Bool}
theorem open_ss {t e ei : TypeId} {n : Nat} {v : Value} {x : DataW H × List MemPlace} (ht : P.underlying t = some (.slice e)) (hC : P.cellsOf e = 1) (hs : P.underlying e = some (.slice ei)) (he : P.underlying ei = some (.int .i64)) (hc : P.cellsOf ei = 1) (h : DataW.trod enc P w base (fun _ => true) held n t [v] = some x) :
    ∃ ps : List VL, Sl w v (ps.map Prod.fst) ∧ ∀ p ∈ ps, SlI w p.1 p.2 := by
  rcases DataW.trod_slice ht h with ⟨hcs, _⟩ | ⟨a, len, cap, elems, rest, m, _, hcs, _, _, hl, hm, hlen, hel, _, _⟩
  · cases hcs
    exact ⟨[], Sl.nil w, fun p hp => by cases hp⟩
  · cases hcs
    have each : ∀ i, i < len → ∃ q : VL, w.cell? (a.add i) = some q.1 ∧ SlI w q.1 q.2 := by
      intro i hi
      have hb := hel i hi
      rw [hC, List.getElem?_eq_getElem (by omega), Option.bind_eq_some_iff] at hb
      obtain ⟨cs, hcs, hy⟩ := hb
      obtain ⟨_, hcl, hcell⟩ := World.cells?_some hcs
      obtain ⟨c0, rfl⟩ : ∃ c0, cs = [c0] := by
        match cs, hcl with
        | [c0], _ => exact ⟨c0, rfl⟩
      obtain ⟨l, hl⟩ := open_si hs he hc hy
      refine ⟨(c0, l), ?_, hl⟩
      have := hcell 0 (by omega)
      have e0 : ∀ b : Addr, b.add 0 = b := fun b => by simp [Addr.add]
      rw [e0, Nat.mul_one] at this
      simpa using this
    obtain ⟨ps, hpl, hps⟩ := list_ofQ len each
    refine ⟨ps, ⟨some a, cap, by rw [List.length_map, hpl], by rw [List.length_map]; omega, by simpa [maxLen] using hm, ?_⟩, fun p hp => ?_⟩
    · cases len with
      | zero => exact .inl (by rw [List.length_eq_zero_iff.1 hpl]; rfl)
      | succ len =>
        right
        obtain ⟨b, off, spot⟩ := a
        have hspot : spot = none := by
          have hq := (hps 0 _ (List.getElem?_eq_getElem (by omega))).1
          simpa [Addr.add] using World.cell?_spot hq
        subst hspot
        refine ⟨b, off, rfl, fun i hi => ?_⟩
        rw [List.length_map] at hi
        have hq := (hps i _ (List.getElem?_eq_getElem hi)).1
        have ea : (⟨b, off, none⟩ : Addr).add i = ⟨b, off + i, none⟩ := by
          simp only [Addr.add]; split
          · rename_i e; simp
          · rfl
        rw [ea] at hq
        rw [hq, List.getElem?_map, List.getElem?_eq_getElem hi]
        rfl
    · obtain ⟨i, hi, rfl⟩ := List.getElem_of_mem hp
      exact (hps i _ (List.getElem?_eq_getElem hi)).2
end
end Go.Vc

/- The given statement on FnExactRefuteClauses: for every input the law returns true and leaves its arguments as they were. Conditions: none. -/
namespace Go.Proofs.Ytfadcafacpaldaa.R28
open Go.ChangeShapes Go.WideShapes Go.ChangeAt Go.RowKit Go.Joins Go.Vc
theorem own : ownKnob Try.prog.godebug = none := by kernel_rfl
theorem laidOut : laidOutB Try.prog = true := by kernel_rfl
set_option maxRecDepth 100000 in
theorem lifted (os : Os) (started : os.Started) (H : Type) (enc : TypeId × Value → H) :
    ReturnsInHanded {} Try.checked os 3 .any (Rows.fnExactRefuteClausesSpec.pre6 enc Try.prog Try.f3 Rows.fnExactRefuteClausesRow.domain false) (Rows.fnExactRefuteClausesSpec.post enc Try.prog Try.f3 false true false false) := by
  refine returnsInHanded_of_change (C := Try.checked) own started (by kernel_rfl) Try.func3
    (ChangeSpec.witness6 (enc := enc) (C := Try.checked) false ⟨#[], #[.slice none 0 0], []⟩ 8 (by kernel_rfl) (by kernel_rfl) (by kernel_rfl) (by kernel_rfl)) ?_
  intro W base args ds gs before hval0 hW _ _
  have hval : ∀ (j : Nat) t v, Try.f3.params[j]? = some t → args[j]? = some v → Value.okWide Try.prog W .any base t v := hval0
  have hW' := hW
  obtain ⟨p, q, hA0, hV, rfl, _, _⟩ := hW
  have hA : DataW.TrodAll enc Try.prog W 0 (fun _ => true) true Try.f3.params.toList args.toList ds p := hA0
  rw [Try.params3] at hA hval
  obtain ⟨v0, d0, rfl, rfl, h0⟩ := trodAll_one hA
  obtain ⟨rfl, rfl⟩ := trodVars_none hV
  clear hA0 hval0
  simp only [List.append_nil] at hW'
  have hlt : ∀ x ∈ p, x.block < W.heap.size := fun x hx => by simpa using hW'.lt x hx
  have hargs0 : ∀ (W' : World), Ext W W' → DataW.Trod enc Try.prog W' 0 (fun b => decide (b < W.heap.size)) true 22 v0 d0 p :=
    fun W' hn => Below.trod laidOut (by kernel_rfl) (of_decide_eq_true (by kernel_rfl)) h0 hn (fun x hx => hlt x (by simp [hx]))
  obtain ⟨a0, len0, cap0, rfl⟩ := okWide_slice Try.underlying22 (hval 0 22 v0 rfl rfl)
  obtain ⟨m0, hm0⟩ := id h0
  obtain ⟨l0, hs0⟩ := open_ss Try.underlying22 (by kernel_rfl) Try.underlying33 Try.underlying2 (by kernel_rfl) hm0
  refine (ok_laws_FnExactRefuteClauses hs0 ).2.mono fun e W' he => ?_
  obtain ⟨_, rfl, rfl, hx⟩ := he
  exact ⟨_, rfl, _, _, _, [], _, [], hW', trodAll_mk1 (trod_true Try.underlying4 true), trodAll_mk1 (hargs0 _ hx), rfl, hx.frame _, fun h => by cases h⟩
theorem proved : Rows.FnExactRefuteClausesSaid :=
  OpenClaim.holds_of_wide 3 Try.f3 rfl rfl rfl rfl rfl rfl rfl ⟨rfl, rfl, rfl, rfl, rfl⟩ rfl rfl rfl rfl rfl (by kernel_rfl) Try.func3 (by kernel_rfl)
    (of_decide_eq_true (by kernel_rfl)) (by unfold Func.isWrapper; rw [if_neg (of_decide_eq_false (by kernel_rfl))]; exact ⟨rfl, rfl⟩)
    (fun os started H enc _ => lifted os started H enc)
end Go.Proofs.Ytfadcafacpaldaa.R28
