/- The rows' step: opening an argument that is a slice of structs of an int64 and a slice of int64. Conditions: none. -/
import Derived.Test.YtoolpnkcmlebkaaGreatRk
import Derived.Test.YtoolpnkcmlebkaaGreatC30
namespace Go.Vc
open Go.ChangeShapes Go.WideShapes Go.ChangeAt Go.RowKit Go.Joins Go.Deep
theorem list_of {α : Type} {Q : Nat → α → Prop} : ∀ n, (∀ i, i < n → ∃ q, Q i q) → ∃ l : List α, l.length = n ∧ ∀ i q, l[i]? = some q → Q i q
  | 0, _ => ⟨[], rfl, fun i q h => by simp at h⟩
  | n + 1, h => by
    obtain ⟨l, hl, hq⟩ := list_of n fun i hi => h i (by omega)
    obtain ⟨q, hq1⟩ := h n (by omega)
    refine ⟨l ++ [q], by simp [hl], fun i q' hi => ?_⟩
    rcases Nat.lt_or_ge i n with h1 | h1
    · rw [List.getElem?_append_left (by omega)] at hi
      exact hq i q' hi
    · have hlt := (List.getElem?_eq_some_iff.1 hi).1
      rw [List.length_append, List.length_singleton] at hlt
      obtain rfl : i = n := by omega
      rw [List.getElem?_append_right (by omega), hl, Nat.sub_self] at hi
      simp at hi
      subst hi; exact hq1
section
variable {H : Type} {enc : TypeId × Value → H} {P : Program} {w : World} {base : Nat} {held : Bool}
theorem open_sp {t e ei : TypeId} {f0 f1 : Field} {n : Nat} {v : Value} {x : DataW H × List MemPlace} (ht : P.underlying t = some (.slice e)) (hs : P.underlying e = some (.struct #[f0, f1])) (hone : Go.Deep.oneCellFields P #[f0, f1] = true) (hC : P.cellsOf e = 2)
    (h0 : P.underlying f0.type = some (.int .i64)) (h1 : P.underlying f1.type = some (.slice ei)) (he : P.underlying ei = some (.int .i64)) (hc : P.cellsOf ei = 1) (h : DataW.trod enc P w base (fun _ => true) held n t [v] = some x) : ∃ ps, SlP w v ps := by
  rcases DataW.trod_slice ht h with ⟨hcs, _⟩ | ⟨a, len, cap, elems, rest, m, _, hcs, _, _, hl, hm, hlen, hel, _, _⟩
  · cases hcs
    exact ⟨[], none, 0, rfl, Nat.le_refl _, by omega, .inl rfl⟩
  · cases hcs
    have each : ∀ i, i < len → ∃ q : Int × List Int, ∃ u, w.cell? ((a.add (i * 2)).add 0) = some (.int .i64 q.1) ∧ w.cell? ((a.add (i * 2)).add 1) = some u ∧ SlI w u q.2 := by
      intro i hi
      have hb := hel i hi
      rw [hC, List.getElem?_eq_getElem (by omega), Option.bind_eq_some_iff] at hb
      obtain ⟨cs, hcs, hy⟩ := hb
      obtain ⟨_, hcl, hcell⟩ := World.cells?_some hcs
      obtain ⟨c0, c1, rfl⟩ : ∃ c0 c1, cs = [c0, c1] := by
        match cs, hcl with
        | [c0, c1], _ => exact ⟨c0, c1, rfl⟩
      obtain ⟨y0, y1, m', _, _, g0, g1⟩ := trod_struct2 hs hy
      obtain ⟨o0, k0⟩ := hone_of hone 0 f0 rfl
      obtain ⟨o1, k1⟩ := hone_of hone 1 f1 rfl
      have g0' : DataW.trod enc P w base (fun _ => true) held m' f0.type [c0] = some y0 := by simpa [o0, k0] using g0
      have g1' : DataW.trod enc P w base (fun _ => true) held m' f1.type [c1] = some y1 := by simpa [o1, k1] using g1
      obtain ⟨z, e0, _, _⟩ := DataW.trod_int h0 g0'
      simp at e0
      subst e0
      obtain ⟨l, hl⟩ := open_si h1 he hc g1'
      refine ⟨(z, l), c1, ?_, ?_, hl⟩
      · simpa using hcell 0 (by omega)
      · simpa using hcell 1 (by omega)
    obtain ⟨ps, hpl, hps⟩ := list_of len each
    refine ⟨ps, some a, cap, by rw [hpl], by omega, by simpa [maxLen] using hm, ?_⟩
    cases len with
    | zero => exact .inl (List.length_eq_zero_iff.1 hpl)
    | succ len =>
      right
      obtain ⟨b, off, spot⟩ := a
      have hspot : spot = none := by
        have hq := hps 0 _ (List.getElem?_eq_getElem (by omega))
        obtain ⟨u, q0, _, _⟩ := hq
        simpa [Addr.add] using World.cell?_spot q0
      subst hspot
      refine ⟨b, off, rfl, fun i n l hi => ?_⟩
      obtain ⟨u, q0, q1, q2⟩ := hps i _ hi
      have ea : ∀ j, (⟨b, off, none⟩ : Addr).add j = ⟨b, off + j, none⟩ := fun j => by
        simp only [Addr.add]; split
        · rename_i e; simp
        · rfl
      have ea2 : ∀ j j', (⟨b, off + j, none⟩ : Addr).add j' = ⟨b, off + j + j', none⟩ := fun j j' => by
        simp only [Addr.add]; split
        · rename_i e; simp
        · rfl
      rw [ea, ea2, Nat.add_zero, Nat.mul_comm] at q0
      rw [ea, ea2, Nat.mul_comm] at q1
      exact ⟨u, q0, q1, q2⟩
end
end Go.Vc
