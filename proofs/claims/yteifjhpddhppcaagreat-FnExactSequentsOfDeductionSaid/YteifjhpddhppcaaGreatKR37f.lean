/- The proof of FnExactSequentsOfDeductionSaid, part 6 of 6. Conditions: none. -/
import Derived.Test.YteifjhpddhppcaaGreatKR37e
import Derived.Test.YteifjhpddhppcaaGreatRows
import Derived.ProofKit
import Derived.Lib.SmallJoins
import Derived.Deep.Strs
import Derived.Deep.Fields
/- The rows' step: opening the arguments; from a law's contract to the given statement. Conditions: none. -/
namespace Go.Vc
open Go.ChangeShapes Go.WideShapes Go.ChangeAt Go.RowKit Go.Joins
section
variable {H : Type} {enc : TypeId × Value → H} {P : Program} {w : World} {base : Nat} {spare : Nat → Bool} {held : Bool}
theorem sl_of_ints {k : IntKind} {a : Addr} {len cap : Nat} {zs : List Int} (hl : len ≤ cap) (hm : cap ≤ maxLen) (hz : len ≤ zs.length) (hcell : ∀ i, i < zs.length → w.cell? (a.add i) = some (.int k (zs.getD i 0))) :
    Sl w (.slice (some a) len cap) ((zs.take len).map (.int k)) := by
  have hlen : ((zs.take len).map (Value.int k)).length = len := by simp; omega
  refine ⟨some a, cap, by rw [hlen], by rw [hlen]; exact hl, by simpa [maxLen] using hm, ?_⟩
  cases len with
  | zero => left; simp
  | succ len =>
    right
    obtain ⟨b, off, spot⟩ := a
    have hspot : spot = none := by simpa [Addr.add] using World.cell?_spot (hcell 0 (by omega))
    subst hspot
    refine ⟨b, off, rfl, fun i hi => ?_⟩
    rw [hlen] at hi
    have h1 := hcell i (by omega)
    have h2 : (⟨b, off, none⟩ : Addr).add i = ⟨b, off + i, none⟩ := by
      simp only [Addr.add]; split
      · rename_i e; simp
      · rfl
    rw [h2] at h1
    rw [h1, List.getElem?_map, List.getElem?_take, if_pos hi, List.getElem?_eq_getElem (by omega)]
    simp [List.getD_eq_getElem?_getD, List.getElem?_eq_getElem (show i < zs.length by omega)]
/-- A slice of int64, as a cell of a struct or as an argument. -/
theorem open_si {t e : TypeId} {n : Nat} {v : Value} {x : DataW H × List MemPlace} (ht : P.underlying t = some (.slice e)) (he : P.underlying e = some (.int .i64)) (hc : P.cellsOf e = 1) (h : DataW.trod enc P w base (fun _ => true) held n t [v] = some x) : ∃ l, SlI w v l := by
  rcases open_ints ht he hc h with ⟨hcs, _⟩ | ⟨a, len, cap, zs, hcs, _, hl, hm, hz, _, hcell, _⟩
  · cases hcs
    exact ⟨[], Sl.nil w⟩
  · cases hcs
    exact ⟨zs.take len, sl_of_ints hl hm (by rw [hz]; simpa using hl) hcell⟩
theorem trod_true {t : TypeId} (ht : P.underlying t = some .bool) (b : Bool) : DataW.Trod enc P w base spare held t (.bool b) (.lit (.bool b)) [] := ⟨1, by simp [DataW.trod, ht, Value.cells]⟩
end
end Go.Vc

/- The rows' step: opening arguments that are slices of strings and slices of items. Conditions: none. -/
namespace Go.Vc
open Go.ChangeShapes Go.WideShapes Go.ChangeAt Go.RowKit Go.Joins Go.Deep
theorem list_of' {α : Type} {Q : Nat → α → Prop} : ∀ n, (∀ i, i < n → ∃ q, Q i q) → ∃ l : List α, l.length = n ∧ ∀ i q, l[i]? = some q → Q i q
  | 0, _ => ⟨[], rfl, fun i q h => by simp at h⟩
  | n + 1, h => by
    obtain ⟨l, hl, hq⟩ := list_of' n fun i hi => h i (by omega)
    obtain ⟨q, hq1⟩ := h n (by omega)
    refine ⟨l ++ [q], by simp [hl], fun i q' hi => ?_⟩
    rcases Nat.lt_or_ge i n with h1 | h1
    · rw [List.getElem?_append_left (by omega)] at hi
      exact hq i q' hi
    · have hlt := (List.getElem?_eq_some_iff.1 hi).1
      rw [List.length_append, List.length_singleton] at hlt
      obtain rfl : i = n := by omega
      rw [List.getElem?_append_right (by omega), hl, Nat.sub_self] at hi
      simp at hi
      subst hi; exact hq1
section
variable {H : Type} {enc : TypeId × Value → H} {P : Program} {w : World} {base : Nat} {held : Bool}
theorem str_of {s : ByteArray} : Value.string s = sv s.data.toList := by simp [sv]
theorem len_of {s : ByteArray} (h : s.size ≤ maxLen) : s.data.toList.length ≤ 9223372036854775807 := by
  have e : s.data.toList.length = s.size := by rw [Array.length_toList]; rfl
  unfold maxLen at h
  omega
/-- A slice of strings. -/
theorem open_st {t e : TypeId} {n : Nat} {v : Value} {x : DataW H × List MemPlace} (ht : P.underlying t = some (.slice e)) (he : P.underlying e = some .string) (hc : P.cellsOf e = 1) (h : DataW.trod enc P w base (fun _ => true) held n t [v] = some x) : ∃ L : List Str, SlT w v L ∧ ∀ s ∈ L, s.length ≤ 9223372036854775807 := by
  rcases open_strs ht he hc h with ⟨hcs, _⟩ | ⟨a, len, cap, m, Sx, hcs, _, hl, hm, hmm, _, hcell⟩
  · cases hcs
    exact ⟨[], Sl.nil w, fun s hs => by cases hs⟩
  · cases hcs
    have hmc : m = cap := by simpa using hmm
    subst hmc
    have hLl : ((List.range len).map fun i => (Sx i).data.toList).length = len := by simp
    refine ⟨(List.range len).map fun i => (Sx i).data.toList, ⟨some a, m, by rw [strs_len, hLl], by rw [strs_len, hLl]; exact hl, by simpa [maxLen] using hm, ?_⟩, fun s hs => ?_⟩
    · rw [strs_len, hLl]
      cases len with
      | zero => exact .inl (by simp [strs])
      | succ len =>
        right
        obtain ⟨b, off, spot⟩ := a
        have hspot : spot = none := by simpa [Addr.add] using World.cell?_spot (hcell 0 (by omega)).1
        subst hspot
        refine ⟨b, off, rfl, fun i hi => ?_⟩
        have h1 := (hcell i (by omega)).1
        rw [addr_add] at h1
        rw [h1]
        simp [strs, hi, str_of]
    · obtain ⟨i, hi, rfl⟩ := List.mem_map.1 hs
      have := (hcell i (by have := List.mem_range.1 hi; omega)).2
      exact len_of this
end
end Go.Vc

/- The rows' step: opening an argument that is a slice of deductions' steps. Conditions: none. -/
namespace Go.Vc
open Go.ChangeShapes Go.WideShapes Go.ChangeAt Go.RowKit Go.Joins Go.Deep
section
variable {H : Type} {enc : TypeId × Value → H} {P : Program} {w : World} {base : Nat} {held : Bool}
/-- A slice of structs of an int64, a slice of int64, a slice of strings, a string and an int64. -/
theorem open_dd {t e ei es : TypeId} {f0 f1 f2 f3 f4 : Field} {n : Nat} {v : Value} {x : DataW H × List MemPlace} (ht : P.underlying t = some (.slice e)) (hs : P.underlying e = some (.struct #[f0, f1, f2, f3, f4])) (hone : Go.Deep.oneCellFields P #[f0, f1, f2, f3, f4] = true) (hC : P.cellsOf e = 5)
    (h0 : P.underlying f0.type = some (.int .i64)) (h1 : P.underlying f1.type = some (.slice ei)) (hei : P.underlying ei = some (.int .i64)) (hci : P.cellsOf ei = 1) (h2 : P.underlying f2.type = some (.slice es)) (hes : P.underlying es = some .string) (hce : P.cellsOf es = 1) (h3 : P.underlying f3.type = some .string) (h4 : P.underlying f4.type = some (.int .i64))
    (h : DataW.trod enc P w base (fun _ => true) held n t [v] = some x) : ∃ R : List DV, RdD w v R ∧ ∀ y ∈ R, (∀ s ∈ y.d.asm, s.length ≤ 9223372036854775807) ∧ y.d.con.length ≤ 9223372036854775807 := by
  rcases DataW.trod_slice ht h with ⟨hcs, _⟩ | ⟨a, len, cap, elems, rest, m, _, hcs', _, _, hl, hm, hlen, hel, _, _⟩
  · cases hcs
    exact ⟨[], ⟨⟨rfl, none, 0, rfl, Nat.le_refl _, by omega, .inl rfl⟩, (fun y hy => by cases hy), (fun y hy => by cases hy)⟩, (fun y hy => by cases hy)⟩
  · cases hcs'
    have each : ∀ i, i < len → ∃ q : DV, (∀ k, k < 5 → w.cell? ((a.add (i * 5)).add k) = q.cs[k]?) ∧ SlI w q.vp q.d.prem ∧ SlT w q.vl q.d.asm ∧ (∀ s ∈ q.d.asm, s.length ≤ 9223372036854775807) ∧ q.d.con.length ≤ 9223372036854775807 := by
      intro i hi
      have hb := hel i hi
      rw [hC, List.getElem?_eq_getElem (by omega), Option.bind_eq_some_iff] at hb
      obtain ⟨cs, hcs, hy⟩ := hb
      obtain ⟨_, hcl, hcell⟩ := World.cells?_some hcs
      obtain ⟨c0, c1, c2, c3, c4, rfl⟩ : ∃ c0 c1 c2 c3 c4, cs = [c0, c1, c2, c3, c4] := by
        match cs, hcl with
        | [c0, c1, c2, c3, c4], _ => exact ⟨c0, c1, c2, c3, c4, rfl⟩
      obtain ⟨ys, m', _, _, _, hyl, hf⟩ := DataW.trod_struct hs hy
      obtain ⟨y0, y1, y2, y3, y4, rfl⟩ : ∃ y0 y1 y2 y3 y4, ys = [y0, y1, y2, y3, y4] := by
        match ys, hyl with
        | [y0, y1, y2, y3, y4], _ => exact ⟨y0, y1, y2, y3, y4, rfl⟩
      obtain ⟨o0, k0⟩ := hone_of hone 0 f0 rfl
      obtain ⟨o1, k1⟩ := hone_of hone 1 f1 rfl
      obtain ⟨o2, k2⟩ := hone_of hone 2 f2 rfl
      obtain ⟨o3, k3⟩ := hone_of hone 3 f3 rfl
      obtain ⟨o4, k4⟩ := hone_of hone 4 f4 rfl
      have g0 : DataW.trod enc P w base (fun _ => true) held m' f0.type [c0] = some y0 := by simpa [o0, k0] using hf 0 f0 rfl
      have g1 : DataW.trod enc P w base (fun _ => true) held m' f1.type [c1] = some y1 := by simpa [o1, k1] using hf 1 f1 rfl
      have g2 : DataW.trod enc P w base (fun _ => true) held m' f2.type [c2] = some y2 := by simpa [o2, k2] using hf 2 f2 rfl
      have g3 : DataW.trod enc P w base (fun _ => true) held m' f3.type [c3] = some y3 := by simpa [o3, k3] using hf 3 f3 rfl
      have g4 : DataW.trod enc P w base (fun _ => true) held m' f4.type [c4] = some y4 := by simpa [o4, k4] using hf 4 f4 rfl
      obtain ⟨z0, e0, _, _⟩ := DataW.trod_int h0 g0
      obtain ⟨l1, hl1⟩ := open_si h1 hei hci g1
      obtain ⟨l2, hl2, hb2⟩ := open_st h2 hes hce g2
      obtain ⟨s3, e3, _, b3⟩ := DataW.trod_string h3 g3
      obtain ⟨z4, e4, _, _⟩ := DataW.trod_int h4 g4
      simp at e0 e3 e4
      subst e0
      subst e3
      subst e4
      refine ⟨⟨⟨z0, l1, l2, s3.data.toList, z4⟩, c1, c2⟩, fun k hk => ?_, hl1, hl2, hb2, len_of b3⟩
      rw [hcell k (by simpa using hk)]
      rcases k with _ | _ | _ | _ | _ | k
      · rfl
      · rfl
      · rfl
      · show some (Value.string s3) = some (sv s3.data.toList)
        rw [str_of]
      · rfl
      · omega
    obtain ⟨L, hLl, hL⟩ := list_of' len each
    refine ⟨L, ⟨⟨cellsD_len L, some a, cap, by rw [hLl], by omega, by simpa [maxLen] using hm, ?_⟩, fun y hy => ?_, fun y hy => ?_⟩, fun y hy => ?_⟩
    · cases len with
      | zero => exact .inl hLl
      | succ len =>
        right
        obtain ⟨b, off, spot⟩ := a
        have hspot : spot = none := by
          have hq := (hL 0 _ (List.getElem?_eq_getElem (by omega))).1 0 (by decide)
          simpa [Addr.add] using World.cell?_spot hq
        subst hspot
        refine ⟨b, off, rfl, fun k hk => ?_⟩
        obtain ⟨i, f, rfl, hf⟩ : ∃ i f, k = i * 5 + f ∧ f < 5 := ⟨k / 5, k % 5, by omega, by omega⟩
        have hi : i < L.length := by omega
        have q0 := (hL i _ (List.getElem?_eq_getElem hi)).1 f hf
        rw [addr_add, addr_add] at q0
        rw [cellsD_at hi f hf, gt_eq hi, ← q0, Nat.add_assoc]
    · obtain ⟨i, hi, rfl⟩ := List.getElem_of_mem hy
      exact (hL i _ (List.getElem?_eq_getElem hi)).2.1
    · obtain ⟨i, hi, rfl⟩ := List.getElem_of_mem hy
      exact (hL i _ (List.getElem?_eq_getElem hi)).2.2.1
    · obtain ⟨i, hi, rfl⟩ := List.getElem_of_mem hy
      exact (hL i _ (List.getElem?_eq_getElem hi)).2.2.2
end
end Go.Vc

/- The given statement on FnExactSequentsOfDeduction: for every input the law returns true and leaves its arguments as they were. Conditions: none. -/
namespace Go.Proofs.YteifjhpddhppcaaGreat.R37
open Go.ChangeShapes Go.WideShapes Go.ChangeAt Go.RowKit Go.Joins Go.Vc
theorem own : ownKnob Tryz.prog.godebug = none := by kernel_rfl
theorem laidOut : laidOutB Tryz.prog = true := by kernel_rfl
set_option maxRecDepth 100000 in
theorem lifted (os : Os) (started : os.Started) (H : Type) (enc : TypeId × Value → H) :
    ReturnsInHanded {} Tryz.checked os 3 .any (Rows.fnExactSequentsOfDeductionSpec.pre6 enc Tryz.prog Tryz.f3 Rows.fnExactSequentsOfDeductionRow.domain false) (Rows.fnExactSequentsOfDeductionSpec.post enc Tryz.prog Tryz.f3 false true false false) := by
  refine returnsInHanded_of_change (C := Tryz.checked) own started (by kernel_rfl) Tryz.func3
    (ChangeSpec.witness6 (enc := enc) (C := Tryz.checked) false ⟨#[], #[.slice none 0 0], []⟩ 8 (by kernel_rfl) (by kernel_rfl) (by kernel_rfl) (by kernel_rfl)) ?_
  intro W base args ds gs before hval0 hW _ _
  have hval : ∀ (j : Nat) t v, Tryz.f3.params[j]? = some t → args[j]? = some v → Value.okWide Tryz.prog W .any base t v := hval0
  have hW' := hW
  obtain ⟨p, q, hA0, hV, rfl, _, _⟩ := hW
  have hA : DataW.TrodAll enc Tryz.prog W 0 (fun _ => true) true Tryz.f3.params.toList args.toList ds p := hA0
  rw [Tryz.params3] at hA hval
  obtain ⟨v0, d0, rfl, rfl, h0⟩ := trodAll_one hA
  obtain ⟨rfl, rfl⟩ := trodVars_none hV
  clear hA0 hval0
  simp only [List.append_nil] at hW'
  have hlt : ∀ x ∈ p, x.block < W.heap.size := fun x hx => by simpa using hW'.lt x hx
  have hargs0 : ∀ (W' : World), Ext W W' → DataW.Trod enc Tryz.prog W' 0 (fun b => decide (b < W.heap.size)) true 22 v0 d0 p :=
    fun W' hn => Below.trod laidOut (by kernel_rfl) (of_decide_eq_true (by kernel_rfl)) h0 hn (fun x hx => hlt x (by simp [hx]))
  obtain ⟨a0, len0, cap0, rfl⟩ := okWide_slice Tryz.underlying22 (hval 0 22 v0 rfl rfl)
  obtain ⟨m0, hm0⟩ := id h0
  obtain ⟨l0, hs0, hb0⟩ := open_dd Tryz.underlying22 Tryz.underlying38 (by kernel_rfl) (by kernel_rfl) Tryz.underlying2 Tryz.underlying35 Tryz.underlying2 (by kernel_rfl) Tryz.underlying36 Tryz.underlying9 (by kernel_rfl) Tryz.underlying9 Tryz.underlying2 hm0
  refine (ok_laws_FnExactSequentsOfDeduction hs0 hb0 ).2.mono fun e W' he => ?_
  obtain ⟨_, rfl, rfl, hx⟩ := he
  exact ⟨_, rfl, _, _, _, [], _, [], hW', trodAll_mk1 (trod_true Tryz.underlying4 true), trodAll_mk1 (hargs0 _ hx), rfl, hx.frame _, fun h => by cases h⟩
theorem proved : Rows.FnExactSequentsOfDeductionSaid :=
  OpenClaim.holds_of_wide 3 Tryz.f3 rfl rfl rfl rfl rfl rfl rfl ⟨rfl, rfl, rfl, rfl, rfl⟩ rfl rfl rfl rfl rfl (by kernel_rfl) Tryz.func3 (by kernel_rfl)
    (of_decide_eq_true (by kernel_rfl)) (by unfold Func.isWrapper; rw [if_neg (of_decide_eq_false (by kernel_rfl))]; exact ⟨rfl, rfl⟩)
    (fun os started H enc _ => lifted os started H enc)
end Go.Proofs.YteifjhpddhppcaaGreat.R37
