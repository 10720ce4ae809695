/- The proof of FnExactSequentsOfDeductionSaid, part 3 of 6. Conditions: none. -/
import Derived.Test.YteifjhpddhppcaaGreatKR37b
import Derived.Test.YteifjhpddhppcaaGreatRows
import Derived.Shelf.Strings.Search2
import Derived.Shelf.Strconv.Itoa3
import Derived.Lib.Builder
import Derived.Lib.AppendStr
import Derived.Lib.UnsafeStr
import Derived.Lib.IndexLaws
import Derived.WalkKit
import Derived.Laws.Externs
import Derived.Laws.BytesString
import Derived.Laws.StructEq
/- Contracts: slices.Concat and slices.Grow; formulas as lists of nodes. Conditions: none. -/
namespace Go.Vc
section
variable {P : Program} {w : World}
/-- 'append(nil, make([]T, n)...)'. -/
theorem iAppZ {k n bytes : Nat} {t ti ty e : TypeId} {z : Value} {K : Value → World → Prop} (ht : P.underlying t = some (.slice e)) (hti : P.underlying ti = some (.int .i64)) (hi : (P.info? e).map (fun i => (i.zero, i.size, i.bytes)) = some (some z, k, bytes)) (hz : z.cells.size = k)
    (h0 : 0 < n) (hb : n * bytes ≤ 140737488355328) (hm : n ≤ 9223372036854775807)
    (h : ∀ b c w' cs, n ≤ c → c ≤ 9223372036854775807 → cs.length = c * k → Ext w w' → b = w.heap.size → Blk e w' b cs → K (.slice (some ⟨b, 0, none⟩) n c) w') : xOp P (Builtin.append_ #[t, ti] ty #[.slice none 0 0, .int .i64 (n : Int)]) w K := by
  obtain ⟨i, hi', h3⟩ := Option.map_eq_some_iff.1 hi
  clear hi
  simp only [Prod.mk.injEq] at h3
  obtain ⟨hz0, hsz, hby⟩ := h3
  subst hsz
  subst hby
  have hn : n ≠ 0 := by omega
  have hw : IntKind.i64.wrap (n : Int) = (n : Int) := IntWalk.i64_in _ (by omega)
  have h63' : ¬ (9223372036854775807 < (n : Int)) := by omega
  have h48 : ¬ ((281474976710656 : Int) < (n : Int) * (i.bytes : Int)) := by
    have : (n : Int) * (i.bytes : Int) = ((n * i.bytes : Nat) : Int) := by simp
    rw [this]; omega
  have h48' : ¬ (281474976710656 < Builtin.nextslicecap n 0 * i.bytes) := by rw [nextslicecap_zero h0]; omega
  have hneg : ¬ ((n : Int) < 0) := by omega
  have hge := grownCap_ge w n 0 e
  have hcm := grownCap_le_maxLen w n 0 e (by simpa [maxLen] using hm)
  have hrun : (Builtin.append_ #[t, ti] ty #[.slice none 0 0, .int .i64 (n : Int)]).run P w =
      .ok (.slice (some ⟨w.heap.size, 0, none⟩) n (grownCap w n 0 e)) (w.drew.alloc (.cells ((if n * i.size = 0 then #[] else Builtin.zeroCells z.cells n) ++ Builtin.zeroCells z.cells (grownCap w n 0 e - n)) e)) := by
    by_cases hk : n * i.size = 0
    · simp [Builtin.append_, run_underlying ht, run_underlying hti, sizeOf, typeInfo, zeroValue, hi', hz0, asInt, asIntOf, hw, hneg, hn, h63', h48, h48', hk, Question.forced, run_firstCells_none, newRow, grownCap]
    · simp [Builtin.append_, run_underlying ht, run_underlying hti, sizeOf, typeInfo, zeroValue, hi', hz0, asInt, asIntOf, hw, hneg, hn, h63', h48, h48', hk, Question.forced, run_firstCells_none, newRow, grownCap]
  refine ⟨_, _, hrun, ?_⟩
  have hB := Blk.new w.drew ((if n * i.size = 0 then #[] else Builtin.zeroCells z.cells n) ++ Builtin.zeroCells z.cells (grownCap w n 0 e - n)) e
  refine h _ _ _ _ hge (by simpa [maxLen] using hcm) ?_ ((Ext.drew w).trans (Ext.alloc _ _)) rfl hB
  rw [Array.length_toList, Array.size_append, size_zeroCells, hz]
  by_cases hk : n * i.size = 0
  · rw [if_pos hk]
    have : i.size = 0 := by
      rcases Nat.mul_eq_zero.1 hk with h | h
      · omega
      · exact h
    rw [this]; simp
  · rw [if_neg hk, size_zeroCells, hz, ← Nat.add_mul]
    congr 1; omega
theorem iCapL {t ty : TypeId} {e : TypeId} {a : Option Addr} {n c : Nat} {K : Value → Prop} (ht : P.underlying t = some (.slice e)) (h : K (.int .i64 (c : Int))) : xR P w (Builtin.cap_ #[t] ty #[.slice a n c]) K :=
  ⟨_, fun w' _ => by simp [Builtin.cap_, run_underlying ht, goInt], h⟩
theorem sum_take_succ (l : List Nat) {i : Nat} (h : i < l.length) : (l.take (i + 1)).sum = (l.take i).sum + l[i] := by
  rw [List.take_succ_eq_append_getElem h, List.sum_append]; simp
theorem sum_take_le (l : List Nat) (i : Nat) : (l.take i).sum ≤ l.sum := by
  have := congrArg List.sum (List.take_append_drop i l)
  rw [List.sum_append] at this; omega
end
end Go.Vc
namespace Go.Proofs.YteifjhpddhppcaaGreat
open Go.Vc
abbrev kk_Simpl_Node_impl_Node : Nat := 2
abbrev ts_Simpl_Node_impl_Node := t_Simpl_Node
abbrev te_Simpl_Node_impl_Node := t_impl_Node
theorem uu_Simpl_Node_impl_Node : Tryz.prog.underlying ts_Simpl_Node_impl_Node = some (.slice te_Simpl_Node_impl_Node) := u_Simpl_Node
theorem ii_Simpl_Node_impl_Node : (Tryz.prog.info? te_Simpl_Node_impl_Node).map (fun i => (i.zero, i.size, i.bytes)) = some (some (.agg #[.int .i64 0, .int .i64 0]), kk_Simpl_Node_impl_Node, 16) := i_Simpl_Node
abbrev kk_Sstring_string : Nat := 1
abbrev ts_Sstring_string := t_Sstring
abbrev te_Sstring_string := t_string
theorem uu_Sstring_string : Tryz.prog.underlying ts_Sstring_string = some (.slice te_Sstring_string) := u_Sstring
theorem ii_Sstring_string : (Tryz.prog.info? te_Sstring_string).map (fun i => (i.zero, i.size, i.bytes)) = some (some (.string ⟨#[]⟩), kk_Sstring_string, 16) := i_Sstring
theorem ok_Grow_Simpl_Node_impl_Node (n : Nat) (hn : n ≤ 1099511627776) (w : World) : Cal Tryz.prog f_slices_Grow_Simpl_Node_impl_Node #[.slice none 0 0, .int .i64 (n : Int)] w fun r w' => Ext w w' ∧ OwK kk_Simpl_Node_impl_Node w.heap.size te_Simpl_Node_impl_Node w' r 0 [] := by
  apply c_slices_Grow_Simpl_Node_impl_Node; unfold S_slices_Grow_Simpl_Node_impl_Node
  ((with_reducible refine iLt ?_; refine iJn ?_))
  refine iCndP (fun h => by omega) (fun _ => ?_)
  intro _
  refine iCapL (e := te_Simpl_Node_impl_Node) uu_Simpl_Node_impl_Node ?_
  ((with_reducible refine iLenL ?_); refine iSub (by omega) ?_; refine iSub (by omega) ?_; (with_reducible refine iLt ?_))
  refine iCndP (fun h => ?_) (fun _ => ⟨Ext.refl w, OwK.nil _ _ _ _⟩)
  refine iCapL (e := te_Simpl_Node_impl_Node) uu_Simpl_Node_impl_Node ?_
  refine ⟨none, 0, 0, 0, 0, rfl, ⟨_, rfl⟩, rfl, Nat.le_refl _, Nat.le_refl _, ?_⟩
  have e1 : (n : Int) - (((0 : Nat) : Int) - ((0 : Nat) : Int)) = (n : Int) := by omega
  rw [e1]
  refine iAppZ (k := kk_Simpl_Node_impl_Node) uu_Simpl_Node_impl_Node (by kernel_rfl) ii_Simpl_Node_impl_Node rfl (by omega) (by omega) (by omega) fun b c w' cs hnc hcm hcl hX hb hB => ?_
  ((with_reducible refine iLenL ?_))
  refine ⟨some ⟨b, 0, none⟩, n, c, 0, 0, rfl, ⟨_, rfl⟩, rfl, Nat.le_refl _, Nat.zero_le _, ?_⟩
  rw [if_neg (by omega)]
  refine ⟨hX, ?_⟩
  have e2 : (some (⟨b, 0, none⟩ : Addr)).map (·.add (0 * kk_Simpl_Node_impl_Node)) = some ⟨b, 0, none⟩ := by simp [Addr.add]
  rw [e2]
  exact ⟨rfl, .inr ⟨b, c, cs.toArray, rfl, by omega, hB, Nat.zero_le _, hcm, by simpa using hcl, by simp⟩⟩
theorem ok_Concat_Simpl_Node_impl_Node {v : Value} {w : World} {vs : List Value} {ps : List (Nat × List Value)} (hs : Sl w v vs) (hl : vs.length = ps.length) (hp : ∀ (i : Nat) (h1 : i < vs.length) (h2 : i < ps.length), SlK kk_Simpl_Node_impl_Node w vs[i] ps[i].1 ps[i].2) (hc : ∀ p ∈ ps, ∀ u ∈ p.2, isCell u = true) (hb : (ps.map Prod.fst).sum ≤ 1099511627776) :
    Cal Tryz.prog f_slices_Concat_Simpl_Node_impl_Node #[v] w fun r w' => Ext w w' ∧ OwK kk_Simpl_Node_impl_Node w.heap.size te_Simpl_Node_impl_Node w' r (ps.map Prod.fst).sum (ps.flatMap Prod.snd) := by
  apply c_slices_Concat_Simpl_Node_impl_Node; unfold S_slices_Concat_Simpl_Node_impl_Node
  have hlen := hs.len
  have hpl : (ps.map Prod.fst).length = ps.length := List.length_map _
  refine iLenS hs ?_
  refine iLp (fun s : Nat × Nat => [.int .i64 (s.1 : Int), .int .i64 (s.2 : Int)]) (fun s w' => s.2 ≤ vs.length ∧ w' = w ∧ s.1 = ((ps.map Prod.fst).take s.2).sum) (fun s => vs.length - s.2) (0, 0) rfl ⟨Nat.zero_le _, rfl, rfl⟩ ?_
  rintro ⟨m, i⟩ w2 Kn ⟨hi, rfl, hm⟩ hKn
  have hi : i ≤ vs.length := hi
  have hm : m = ((ps.map Prod.fst).take i).sum := hm
  have hmle := sum_take_le (ps.map Prod.fst) i
  (intro _; (try simp only [gx]); (with_reducible refine iLt ?_))
  refine iCndP (fun h1 => ?_) (fun h1 => ?_)
  · have hi1 : i < vs.length := by omega
    have hsi := hp i hi1 (by omega)
    have hst := sum_take_succ (ps.map Prod.fst) (i := i) (by omega)
    rw [List.getElem_map] at hst
    have hmle1 := sum_take_le (ps.map Prod.fst) (i + 1)
    refine iIa hs (by omega) (by omega) fun p hpc => ?_
    rw [Int.toNat_natCast, List.getElem?_eq_getElem hi1] at hpc
    refine iLd hpc ?_
    refine iLenK hsi ?_
    (refine iAdd (by omega) ?_; (with_reducible refine iLt ?_))
    refine iCndP (fun h2 => by omega) (fun _ => ?_)
    (refine iAdd (by omega) ?_)
    have e1 : (m : Int) + ((ps[i].1 : Nat) : Int) = ((m + ps[i].1 : Nat) : Int) := by omega
    rw [e1]
    exact hKn (m + ps[i].1, i + 1) _ ⟨by show i + 1 ≤ _; omega, rfl, by show m + ps[i].1 = ((ps.map Prod.fst).take (i + 1)).sum; omega⟩ (by show vs.length - (i + 1) < vs.length - i; omega)
  · have e : i = vs.length := by omega
    have hm2 : m = (ps.map Prod.fst).sum := by rw [hm, List.take_of_length_le (by omega)]
    refine iCall ((ok_Grow_Simpl_Node_impl_Node m (by omega) w2).mono ?_)
    rintro r w4 ⟨h4, ho4⟩
    refine iLenS hs ?_
    refine iLp (fun s : Value × Nat => [s.1, .int .i64 (s.2 : Int)]) (fun s w' => s.2 ≤ vs.length ∧ Ext w2 w' ∧ OwK kk_Simpl_Node_impl_Node w2.heap.size te_Simpl_Node_impl_Node w' s.1 ((ps.map Prod.fst).take s.2).sum ((ps.take s.2).flatMap Prod.snd)) (fun s => vs.length - s.2) (r, 0) rfl ⟨Nat.zero_le _, h4, ho4⟩ ?_
    rintro ⟨z, j⟩ w6 Kn6 ⟨hj, h6, ho6⟩ hKn6
    have hj : j ≤ vs.length := hj
    have ho6 : OwK kk_Simpl_Node_impl_Node w2.heap.size te_Simpl_Node_impl_Node w6 z ((ps.map Prod.fst).take j).sum ((ps.take j).flatMap Prod.snd) := ho6
    (intro _; (try simp only [gx]); (with_reducible refine iLt ?_))
    refine iCndP (fun h7 => ?_) (fun h7 => ?_)
    · have hj1 : j < vs.length := by omega
      have hsj := (hp j hj1 (by omega)).ext h6
      have hst := sum_take_succ (ps.map Prod.fst) (i := j) (by omega)
      rw [List.getElem_map] at hst
      have hmle1 := sum_take_le (ps.map Prod.fst) (j + 1)
      have hs6 := hs.ext h6
      refine iIa hs6 (by omega) (by omega) fun p hpc => ?_
      rw [Int.toNat_natCast, List.getElem?_eq_getElem hj1] at hpc
      refine iLd hpc ?_
      refine iAppK uu_Simpl_Node_impl_Node ii_Simpl_Node_impl_Node rfl (by decide) ho6 hsj (hc _ (List.getElem_mem _)) (by omega) (by omega) h6.size fun v' w8 ho8 hg8 _ => ?_
      (refine iAdd (by omega) ?_)
      have ef : (ps.take (j + 1)).flatMap Prod.snd = (ps.take j).flatMap Prod.snd ++ ps[j].2 := by
        rw [List.take_succ_eq_append_getElem (by omega), List.flatMap_append]; simp
      rw [← hst, ← ef] at ho8
      exact hKn6 (v', j + 1) _ ⟨by show j + 1 ≤ _; omega, h6.grown hg8 (fun c hc => (ho6.blk c hc).1), ho8⟩ (by show vs.length - (j + 1) < vs.length - j; omega)
    · have e : j = vs.length := by omega
      rw [List.take_of_length_le (by omega), List.take_of_length_le (by omega)] at ho6
      exact ⟨h6, ho6⟩
theorem ok_Grow_Sstring_string (n : Nat) (hn : n ≤ 1099511627776) (w : World) : Cal Tryz.prog f_slices_Grow_Sstring_string #[.slice none 0 0, .int .i64 (n : Int)] w fun r w' => Ext w w' ∧ OwK kk_Sstring_string w.heap.size te_Sstring_string w' r 0 [] := by
  apply c_slices_Grow_Sstring_string; unfold S_slices_Grow_Sstring_string
  ((with_reducible refine iLt ?_; refine iJn ?_))
  refine iCndP (fun h => by omega) (fun _ => ?_)
  intro _
  refine iCapL (e := te_Sstring_string) uu_Sstring_string ?_
  ((with_reducible refine iLenL ?_); refine iSub (by omega) ?_; refine iSub (by omega) ?_; (with_reducible refine iLt ?_))
  refine iCndP (fun h => ?_) (fun _ => ⟨Ext.refl w, OwK.nil _ _ _ _⟩)
  refine iCapL (e := te_Sstring_string) uu_Sstring_string ?_
  refine ⟨none, 0, 0, 0, 0, rfl, ⟨_, rfl⟩, rfl, Nat.le_refl _, Nat.le_refl _, ?_⟩
  have e1 : (n : Int) - (((0 : Nat) : Int) - ((0 : Nat) : Int)) = (n : Int) := by omega
  rw [e1]
  refine iAppZ (k := kk_Sstring_string) uu_Sstring_string (by kernel_rfl) ii_Sstring_string rfl (by omega) (by omega) (by omega) fun b c w' cs hnc hcm hcl hX hb hB => ?_
  ((with_reducible refine iLenL ?_))
  refine ⟨some ⟨b, 0, none⟩, n, c, 0, 0, rfl, ⟨_, rfl⟩, rfl, Nat.le_refl _, Nat.zero_le _, ?_⟩
  rw [if_neg (by omega)]
  refine ⟨hX, ?_⟩
  have e2 : (some (⟨b, 0, none⟩ : Addr)).map (·.add (0 * kk_Sstring_string)) = some ⟨b, 0, none⟩ := by simp [Addr.add]
  rw [e2]
  exact ⟨rfl, .inr ⟨b, c, cs.toArray, rfl, by omega, hB, Nat.zero_le _, hcm, by simpa using hcl, by simp⟩⟩
theorem ok_Concat_Sstring_string {v : Value} {w : World} {vs : List Value} {ps : List (Nat × List Value)} (hs : Sl w v vs) (hl : vs.length = ps.length) (hp : ∀ (i : Nat) (h1 : i < vs.length) (h2 : i < ps.length), SlK kk_Sstring_string w vs[i] ps[i].1 ps[i].2) (hc : ∀ p ∈ ps, ∀ u ∈ p.2, isCell u = true) (hb : (ps.map Prod.fst).sum ≤ 1099511627776) :
    Cal Tryz.prog f_slices_Concat_Sstring_string #[v] w fun r w' => Ext w w' ∧ OwK kk_Sstring_string w.heap.size te_Sstring_string w' r (ps.map Prod.fst).sum (ps.flatMap Prod.snd) := by
  apply c_slices_Concat_Sstring_string; unfold S_slices_Concat_Sstring_string
  have hlen := hs.len
  have hpl : (ps.map Prod.fst).length = ps.length := List.length_map _
  refine iLenS hs ?_
  refine iLp (fun s : Nat × Nat => [.int .i64 (s.1 : Int), .int .i64 (s.2 : Int)]) (fun s w' => s.2 ≤ vs.length ∧ w' = w ∧ s.1 = ((ps.map Prod.fst).take s.2).sum) (fun s => vs.length - s.2) (0, 0) rfl ⟨Nat.zero_le _, rfl, rfl⟩ ?_
  rintro ⟨m, i⟩ w2 Kn ⟨hi, rfl, hm⟩ hKn
  have hi : i ≤ vs.length := hi
  have hm : m = ((ps.map Prod.fst).take i).sum := hm
  have hmle := sum_take_le (ps.map Prod.fst) i
  (intro _; (try simp only [gx]); (with_reducible refine iLt ?_))
  refine iCndP (fun h1 => ?_) (fun h1 => ?_)
  · have hi1 : i < vs.length := by omega
    have hsi := hp i hi1 (by omega)
    have hst := sum_take_succ (ps.map Prod.fst) (i := i) (by omega)
    rw [List.getElem_map] at hst
    have hmle1 := sum_take_le (ps.map Prod.fst) (i + 1)
    refine iIa hs (by omega) (by omega) fun p hpc => ?_
    rw [Int.toNat_natCast, List.getElem?_eq_getElem hi1] at hpc
    refine iLd hpc ?_
    refine iLenK hsi ?_
    (refine iAdd (by omega) ?_; (with_reducible refine iLt ?_))
    refine iCndP (fun h2 => by omega) (fun _ => ?_)
    (refine iAdd (by omega) ?_)
    have e1 : (m : Int) + ((ps[i].1 : Nat) : Int) = ((m + ps[i].1 : Nat) : Int) := by omega
    rw [e1]
    exact hKn (m + ps[i].1, i + 1) _ ⟨by show i + 1 ≤ _; omega, rfl, by show m + ps[i].1 = ((ps.map Prod.fst).take (i + 1)).sum; omega⟩ (by show vs.length - (i + 1) < vs.length - i; omega)
  · have e : i = vs.length := by omega
    have hm2 : m = (ps.map Prod.fst).sum := by rw [hm, List.take_of_length_le (by omega)]
    refine iCall ((ok_Grow_Sstring_string m (by omega) w2).mono ?_)
    rintro r w4 ⟨h4, ho4⟩
    refine iLenS hs ?_
    refine iLp (fun s : Value × Nat => [s.1, .int .i64 (s.2 : Int)]) (fun s w' => s.2 ≤ vs.length ∧ Ext w2 w' ∧ OwK kk_Sstring_string w2.heap.size te_Sstring_string w' s.1 ((ps.map Prod.fst).take s.2).sum ((ps.take s.2).flatMap Prod.snd)) (fun s => vs.length - s.2) (r, 0) rfl ⟨Nat.zero_le _, h4, ho4⟩ ?_
    rintro ⟨z, j⟩ w6 Kn6 ⟨hj, h6, ho6⟩ hKn6
    have hj : j ≤ vs.length := hj
    have ho6 : OwK kk_Sstring_string w2.heap.size te_Sstring_string w6 z ((ps.map Prod.fst).take j).sum ((ps.take j).flatMap Prod.snd) := ho6
    (intro _; (try simp only [gx]); (with_reducible refine iLt ?_))
    refine iCndP (fun h7 => ?_) (fun h7 => ?_)
    · have hj1 : j < vs.length := by omega
      have hsj := (hp j hj1 (by omega)).ext h6
      have hst := sum_take_succ (ps.map Prod.fst) (i := j) (by omega)
      rw [List.getElem_map] at hst
      have hmle1 := sum_take_le (ps.map Prod.fst) (j + 1)
      have hs6 := hs.ext h6
      refine iIa hs6 (by omega) (by omega) fun p hpc => ?_
      rw [Int.toNat_natCast, List.getElem?_eq_getElem hj1] at hpc
      refine iLd hpc ?_
      refine iAppK uu_Sstring_string ii_Sstring_string rfl (by decide) ho6 hsj (hc _ (List.getElem_mem _)) (by omega) (by omega) h6.size fun v' w8 ho8 hg8 _ => ?_
      (refine iAdd (by omega) ?_)
      have ef : (ps.take (j + 1)).flatMap Prod.snd = (ps.take j).flatMap Prod.snd ++ ps[j].2 := by
        rw [List.take_succ_eq_append_getElem (by omega), List.flatMap_append]; simp
      rw [← hst, ← ef] at ho8
      exact hKn6 (v', j + 1) _ ⟨by show j + 1 ≤ _; omega, h6.grown hg8 (fun c hc => (ho6.blk c hc).1), ho8⟩ (by show vs.length - (j + 1) < vs.length - j; omega)
    · have e : j = vs.length := by omega
      rw [List.take_of_length_le (by omega), List.take_of_length_le (by omega)] at ho6
      exact ⟨h6, ho6⟩
end Go.Proofs.YteifjhpddhppcaaGreat

/- Plain maths: the text of a formula, read again, is the formula. No program in sight. Conditions: none. -/
namespace Go.Vc
def Fm.eqb : Fm → Fm → Bool
  | .var v, .var u => v == u
  | .fls, .fls => true
  | .and a b, .and c d => eqb a c && eqb b d
  | .or a b, .or c d => eqb a c && eqb b d
  | .imp a b, .imp c d => eqb a c && eqb b d
  | .box a, .box c => eqb a c
  | .dia a, .dia c => eqb a c
  | _, _ => false
theorem Fm.eqb_iff : ∀ a b : Fm, Fm.eqb a b = true ↔ a = b := by
  intro a
  induction a with
  | var v => intro b; cases b <;> simp [Fm.eqb]
  | fls => intro b; cases b <;> simp [Fm.eqb]
  | and x y hx hy => intro b; cases b <;> simp [Fm.eqb, hx, hy]
  | or x y hx hy => intro b; cases b <;> simp [Fm.eqb, hx, hy]
  | imp x y hx hy => intro b; cases b <;> simp [Fm.eqb, hx, hy]
  | box x hx => intro b; cases b <;> simp [Fm.eqb, hx]
  | dia x hx => intro b; cases b <;> simp [Fm.eqb, hx]
instance : DecidableEq Fm := fun a b => decidable_of_iff _ (Fm.eqb_iff a b)
def Fm.own : Fm → Nat
  | .imp _ b => if b = .fls then 3 else 0
  | .or _ _ => 1
  | .and _ _ => 2
  | _ => 3
def par (b : Bool) (s : Str) : Str := if b then 40 :: (s ++ [41]) else s
/-- The text of a formula, without parentheses around it. -/
def Fm.body : Fm → Str
  | .var v => [vl v]
  | .fls => [70]
  | .and a b => par (decide (a.own < 2)) a.body ++ 38 :: par (decide (b.own < 3)) b.body
  | .or a b => par (decide (a.own < 1)) a.body ++ 124 :: par (decide (b.own < 2)) b.body
  | .imp a b => if b = .fls then (if a = .fls then [84] else 126 :: par (decide (a.own < 3)) a.body) else par (decide (a.own < 1)) a.body ++ 62 :: b.body
  | .box a => 91 :: 93 :: par (decide (a.own < 3)) a.body
  | .dia a => 60 :: 62 :: par (decide (a.own < 3)) a.body
/-- The text at a level. -/
def Fm.txt (lv : Nat) (a : Fm) : Str := par (decide (a.own < lv)) a.body
/-- Reading with fuel enough. -/
def rdL (lv : Nat) (a : Fm) (s : RSt) : Fm × RSt := prs (8 * s.1.length + fl lv) lv a s
theorem prs_rdL {n lv : Nat} {a : Fm} {s : RSt} (h : 8 * s.1.length + fl lv ≤ n) : prs n lv a s = rdL lv a s := prs_fuel (Nat.le_refl _) h
theorem rdL0 (a : Fm) (s : RSt) : rdL 0 a s = if tk 62 (rdL 1 .fls s).2 then (.imp (rdL 1 .fls s).1 (rdL 0 .fls (nx (rdL 1 .fls s).2)).1, (rdL 0 .fls (nx (rdL 1 .fls s).2)).2) else rdL 1 .fls s := by
  have e1 : prs (8 * s.1.length + 3) 1 .fls s = rdL 1 .fls s := prs_rdL (Nat.le_refl _)
  have hs : (rdL 1 .fls s).2.1.length ≤ s.1.length := (prs_suf _ 1 .fls s).length_le
  show prs (8 * s.1.length + 3 + 1) 0 a s = _
  rw [prs, e1]
  split
  · rename_i h
    have := nx_len h
    rw [prs_rdL (lv := 0) (by show _ + 4 ≤ _; omega)]
  · rfl
theorem rdL1 (a : Fm) (s : RSt) : rdL 1 a s = rdL 4 (rdL 2 .fls s).1 (rdL 2 .fls s).2 := by
  have e1 : prs (8 * s.1.length + 2) 2 .fls s = rdL 2 .fls s := prs_rdL (Nat.le_refl _)
  have hs : (rdL 2 .fls s).2.1.length ≤ s.1.length := (prs_suf _ 2 .fls s).length_le
  show prs (8 * s.1.length + 2 + 1) 1 a s = _
  rw [prs, e1, prs_rdL (lv := 4) (by show _ + 1 ≤ _; omega)]
theorem rdL2 (a : Fm) (s : RSt) : rdL 2 a s = rdL 5 (rdL 3 .fls s).1 (rdL 3 .fls s).2 := by
  have e1 : prs (8 * s.1.length + 1) 3 .fls s = rdL 3 .fls s := prs_rdL (Nat.le_refl _)
  have hs : (rdL 3 .fls s).2.1.length ≤ s.1.length := (prs_suf _ 3 .fls s).length_le
  show prs (8 * s.1.length + 1 + 1) 2 a s = _
  rw [prs, e1, prs_rdL (lv := 5) (by show _ + 1 ≤ _; omega)]
theorem rdL4 (a : Fm) (s : RSt) : rdL 4 a s = if tk 124 s then rdL 4 (.or a (rdL 2 .fls (nx s)).1) (rdL 2 .fls (nx s)).2 else (a, s) := by
  show prs (8 * s.1.length + 1) 4 a s = _
  rw [prs]
  split
  · rename_i h
    have := nx_len h
    have hs : (rdL 2 .fls (nx s)).2.1.length ≤ (nx s).1.length := (prs_suf _ 2 .fls _).length_le
    rw [prs_rdL (lv := 2) (by show _ + 2 ≤ _; omega), prs_rdL (lv := 4) (by show _ + 1 ≤ _; omega)]
  · rfl
theorem rdL5 (a : Fm) (s : RSt) : rdL 5 a s = if tk 38 s then rdL 5 (.and a (rdL 3 .fls (nx s)).1) (rdL 3 .fls (nx s)).2 else (a, s) := by
  show prs (8 * s.1.length + 1) (0 + 5) a s = _
  rw [prs_5]
  split
  · rename_i h
    have := nx_len h
    have hs : (rdL 3 .fls (nx s)).2.1.length ≤ (nx s).1.length := (prs_suf _ 3 .fls _).length_le
    rw [prs_rdL (lv := 3) (by show _ + 1 ≤ _; omega), prs_rdL (lv := 5) (by show _ + 1 ≤ _; omega)]
  · rfl
theorem rdL3 {Q : Fm × RSt → Prop} {a : Fm} {s : RSt} (h1 : tk 126 s = true → Q (.imp (rdL 3 .fls (nx s)).1 .fls, (rdL 3 .fls (nx s)).2))
    (h2 : tk 91 s = true → Q (.box (rdL 3 .fls (ndd 93 (nx s))).1, (rdL 3 .fls (ndd 93 (nx s))).2)) (h3 : tk 60 s = true → Q (.dia (rdL 3 .fls (ndd 62 (nx s))).1, (rdL 3 .fls (ndd 62 (nx s))).2))
    (h4 : tk 70 s = true → Q (.fls, nx s)) (h5 : tk 84 s = true → Q (.imp .fls .fls, nx s)) (h6 : tk 40 s = true → Q ((rdL 0 .fls (nx s)).1, ndd 41 (rdL 0 .fls (nx s)).2))
    (h7 : ∀ v, v < 6 → tk (vl v) s = true → Q (.var v, nx s)) (h8 : tk 126 s = false → tk 91 s = false → tk 60 s = false → tk 70 s = false → tk 84 s = false → tk 40 s = false → (∀ v, v < 6 → tk (vl v) s = false) → Q (.fls, (s.1, true))) : Q (rdL 3 a s) := by
  have key : ∀ c, tk c s = true → prs (8 * s.1.length) 3 .fls (nx s) = rdL 3 .fls (nx s) ∧ prs (8 * s.1.length) 0 .fls (nx s) = rdL 0 .fls (nx s) ∧ ∀ d, prs (8 * s.1.length) 3 .fls (ndd d (nx s)) = rdL 3 .fls (ndd d (nx s)) := fun c hc => by
    have := nx_len hc
    refine ⟨prs_rdL (by show _ + 1 ≤ _; omega), prs_rdL (by show _ + 4 ≤ _; omega), fun d => prs_rdL ?_⟩
    have := ndd_len d (nx s)
    show _ + 1 ≤ _; omega
  show Q (prs (8 * s.1.length + 1) 3 a s)
  refine prs_3 (fun h => ?_) (fun h => ?_) (fun h => ?_) h4 h5 (fun h => ?_) h7 h8
  · rw [(key _ h).1]; exact h1 h
  · rw [(key _ h).2.2]; exact h2 h
  · rw [(key _ h).2.2]; exact h3 h
  · rw [(key _ h).2.1]; exact h6 h
theorem rdL3_no {a : Fm} (c : UInt8) (l : Str) (r : Fm × RSt) (h1 : c = 126 → (.imp (rdL 3 .fls (l, false)).1 .fls, (rdL 3 .fls (l, false)).2) = r)
    (h2 : c = 91 → (.box (rdL 3 .fls (ndd 93 (l, false))).1, (rdL 3 .fls (ndd 93 (l, false))).2) = r) (h3 : c = 60 → (.dia (rdL 3 .fls (ndd 62 (l, false))).1, (rdL 3 .fls (ndd 62 (l, false))).2) = r)
    (h4 : c = 70 → (.fls, (l, false)) = r) (h5 : c = 84 → (.imp .fls .fls, (l, false)) = r) (h6 : c = 40 → ((rdL 0 .fls (l, false)).1, ndd 41 (rdL 0 .fls (l, false)).2) = r)
    (h7 : ∀ v, v < 6 → c = vl v → (.var v, (l, false)) = r) (h8 : c ≠ 126 → c ≠ 91 → c ≠ 60 → c ≠ 70 → c ≠ 84 → c ≠ 40 → (∀ v, v < 6 → c ≠ vl v) → False) : rdL 3 a (c :: l, false) = r := by
  have e : ∀ d, tk d (c :: l, false) = true ↔ c = d := fun d => by simp [tk]
  have e' : ∀ d, tk d (c :: l, false) = false ↔ c ≠ d := fun d => by simp [tk]
  refine rdL3 (Q := fun x => x = r) (fun h => h1 ((e _).1 h)) (fun h => h2 ((e _).1 h)) (fun h => h3 ((e _).1 h)) (fun h => h4 ((e _).1 h)) (fun h => h5 ((e _).1 h)) (fun h => h6 ((e _).1 h)) (fun v hv h => h7 v hv ((e _).1 h)) fun a1 a2 a3 a4 a5 a6 a7 => (h8 ((e' _).1 a1) ((e' _).1 a2) ((e' _).1 a3) ((e' _).1 a4) ((e' _).1 a5) ((e' _).1 a6) fun v hv => (e' _).1 (a7 v hv)).elim
theorem vl_ne {v : Nat} (hv : v < 6) {d : UInt8} (h : d.toNat < 112) : vl v ≠ d := by
  have : v = 0 ∨ v = 1 ∨ v = 2 ∨ v = 3 ∨ v = 4 ∨ v = 5 := by omega
  intro e
  subst e
  rcases this with rfl | rfl | rfl | rfl | rfl | rfl <;> exact absurd h (by decide)
theorem rdL3_at (a : Fm) (l : Str) : rdL 3 a (126 :: l, false) = (.imp (rdL 3 .fls (l, false)).1 .fls, (rdL 3 .fls (l, false)).2) ∧ rdL 3 a (91 :: l, false) = (.box (rdL 3 .fls (ndd 93 (l, false))).1, (rdL 3 .fls (ndd 93 (l, false))).2) ∧
    rdL 3 a (60 :: l, false) = (.dia (rdL 3 .fls (ndd 62 (l, false))).1, (rdL 3 .fls (ndd 62 (l, false))).2) ∧ rdL 3 a (70 :: l, false) = (.fls, (l, false)) ∧ rdL 3 a (84 :: l, false) = (.imp .fls .fls, (l, false)) ∧
    rdL 3 a (40 :: l, false) = ((rdL 0 .fls (l, false)).1, ndd 41 (rdL 0 .fls (l, false)).2) ∧ ∀ v, v < 6 → rdL 3 a (vl v :: l, false) = (.var v, (l, false)) := by
  have no : ∀ {v : Nat} {d : UInt8} {Q : Prop}, v < 6 → d.toNat < 112 → d = vl v → Q := fun hv hd e => absurd e.symm (vl_ne hv hd)
  refine ⟨?_, ?_, ?_, ?_, ?_, ?_, fun v hv => ?_⟩
  · exact rdL3_no _ _ _ (fun _ => rfl) (fun h => absurd h (by decide)) (fun h => absurd h (by decide)) (fun h => absurd h (by decide)) (fun h => absurd h (by decide)) (fun h => absurd h (by decide)) (fun v hv h => by
      have : v = 0 ∨ v = 1 ∨ v = 2 ∨ v = 3 ∨ v = 4 ∨ v = 5 := by omega
      rcases this with rfl | rfl | rfl | rfl | rfl | rfl <;> exact absurd h (by decide)) (fun h _ _ _ _ _ _ => h rfl)
  · exact rdL3_no _ _ _ (fun h => absurd h (by decide)) (fun _ => rfl) (fun h => absurd h (by decide)) (fun h => absurd h (by decide)) (fun h => absurd h (by decide)) (fun h => absurd h (by decide)) (fun v hv h => no hv (by decide) h) (fun _ h _ _ _ _ _ => h rfl)
  · exact rdL3_no _ _ _ (fun h => absurd h (by decide)) (fun h => absurd h (by decide)) (fun _ => rfl) (fun h => absurd h (by decide)) (fun h => absurd h (by decide)) (fun h => absurd h (by decide)) (fun v hv h => no hv (by decide) h) (fun _ _ h _ _ _ _ => h rfl)
  · exact rdL3_no _ _ _ (fun h => absurd h (by decide)) (fun h => absurd h (by decide)) (fun h => absurd h (by decide)) (fun _ => rfl) (fun h => absurd h (by decide)) (fun h => absurd h (by decide)) (fun v hv h => no hv (by decide) h) (fun _ _ _ h _ _ _ => h rfl)
  · exact rdL3_no _ _ _ (fun h => absurd h (by decide)) (fun h => absurd h (by decide)) (fun h => absurd h (by decide)) (fun h => absurd h (by decide)) (fun _ => rfl) (fun h => absurd h (by decide)) (fun v hv h => no hv (by decide) h) (fun _ _ _ _ h _ _ => h rfl)
  · exact rdL3_no _ _ _ (fun h => absurd h (by decide)) (fun h => absurd h (by decide)) (fun h => absurd h (by decide)) (fun h => absurd h (by decide)) (fun h => absurd h (by decide)) (fun _ => rfl) (fun v hv h => no hv (by decide) h) (fun _ _ _ _ _ h _ => h rfl)
  · have h126 : vl v ≠ 126 := by
      have : v = 0 ∨ v = 1 ∨ v = 2 ∨ v = 3 ∨ v = 4 ∨ v = 5 := by omega
      rcases this with rfl | rfl | rfl | rfl | rfl | rfl <;> decide
    refine rdL3_no _ _ _ (fun h => absurd h h126) (fun h => absurd h (vl_ne hv (by decide))) (fun h => absurd h (vl_ne hv (by decide))) (fun h => absurd h (vl_ne hv (by decide))) (fun h => absurd h (vl_ne hv (by decide))) (fun h => absurd h (vl_ne hv (by decide))) (fun u hu h => ?_) (fun _ _ _ _ _ _ h => h v hv rfl)
    have e : v = u := by
      have h1 : v = 0 ∨ v = 1 ∨ v = 2 ∨ v = 3 ∨ v = 4 ∨ v = 5 := by omega
      have h2 : u = 0 ∨ u = 1 ∨ u = 2 ∨ u = 3 ∨ u = 4 ∨ u = 5 := by omega
      rcases h1 with rfl | rfl | rfl | rfl | rfl | rfl <;> rcases h2 with rfl | rfl | rfl | rfl | rfl | rfl <;> first | rfl | exact absurd h (by decide)
    rw [e]
/-! ### The text read again -/
theorem tk_at (c : UInt8) (l : Str) : tk c (c :: l, false) = true := by simp [tk]
theorem tk_no {c d : UInt8} {l : Str} {b : Bool} (h : d ≠ c) : tk c (d :: l, b) = false := by simp [tk, h]
theorem nx_at (c : UInt8) (l : Str) (b : Bool) : nx (c :: l, b) = (l, false) := rfl
theorem ndd_at (c : UInt8) (l : Str) : ndd c (c :: l, false) = (l, false) := by simp [ndd, tk_at, nx_at]
/-- The text s is read as a at level 3, 2, 1, 0, whatever may follow there. -/
def Ra (a : Fm) (s : Str) : Prop := ∀ post, rdL 3 .fls (s ++ post, false) = (a, (post, false))
def Rb (a : Fm) (s : Str) : Prop := ∀ post, rdL 2 .fls (s ++ post, false) = rdL 5 a (post, false)
def Rc (a : Fm) (s : Str) : Prop := ∀ post, tk 38 (post, false) = false → rdL 1 .fls (s ++ post, false) = rdL 4 a (post, false)
def Rd (a : Fm) (s : Str) : Prop := ∀ post, tk 38 (post, false) = false → tk 124 (post, false) = false → tk 62 (post, false) = false → rdL 0 .fls (s ++ post, false) = (a, (post, false))
theorem lp5_end {a : Fm} {post : Str} (h : tk 38 (post, false) = false) : rdL 5 a (post, false) = (a, (post, false)) := by rw [rdL5, h]; rfl
theorem lp4_end {a : Fm} {post : Str} (h : tk 124 (post, false) = false) : rdL 4 a (post, false) = (a, (post, false)) := by rw [rdL4, h]; rfl
theorem Ra.b {a : Fm} {s : Str} (h : Ra a s) : Rb a s := fun post => by rw [rdL2, h post]
theorem Rb.c {a : Fm} {s : Str} (h : Rb a s) : Rc a s := fun post h1 => by rw [rdL1, h post, lp5_end h1]
theorem Rc.d {a : Fm} {s : Str} (h : Rc a s) : Rd a s := fun post h1 h2 h3 => by rw [rdL0, h post h1, lp4_end h2, h3]; rfl
theorem Rd.par {a : Fm} {s : Str} (h : Rd a s) : Ra a (40 :: (s ++ [41])) := fun post => by
  have e : (40 :: (s ++ [41])) ++ post = 40 :: (s ++ 41 :: post) := by simp
  rw [e, (rdL3_at _ _).2.2.2.2.2.1]
  rw [h (41 :: post) (tk_no (by decide)) (tk_no (by decide)) (tk_no (by decide)), ndd_at]
structure Rall (a : Fm) : Prop where
  three : Ra a (a.txt 3)
  two : Rb a (a.txt 2)
  one : Rc a (a.txt 1)
  zero : Rd a (a.txt 0)
theorem txt_own {a : Fm} {lv : Nat} (h : lv ≤ a.own) : a.txt lv = a.body := by unfold Fm.txt par; rw [decide_eq_false (by omega)]; rfl
theorem txt_par {a : Fm} {lv : Nat} (h : a.own < lv) : a.txt lv = 40 :: (a.body ++ [41]) := by unfold Fm.txt par; rw [decide_eq_true h]; rfl
theorem Rall.of3 {a : Fm} (ho : a.own = 3) (h : Ra a a.body) : Rall a := by
  refine ⟨?_, ?_, ?_, ?_⟩
  · rw [txt_own (by omega)]; exact h
  · rw [txt_own (by omega)]; exact h.b
  · rw [txt_own (by omega)]; exact h.b.c
  · rw [txt_own (by omega)]; exact h.b.c.d
theorem Rall.of2 {a : Fm} (ho : a.own = 2) (h : Rb a a.body) : Rall a := by
  refine ⟨?_, ?_, ?_, ?_⟩
  · rw [txt_par (by omega)]; exact h.c.d.par
  · rw [txt_own (by omega)]; exact h
  · rw [txt_own (by omega)]; exact h.c
  · rw [txt_own (by omega)]; exact h.c.d
theorem Rall.of1 {a : Fm} (ho : a.own = 1) (h : Rc a a.body) : Rall a := by
  refine ⟨?_, ?_, ?_, ?_⟩
  · rw [txt_par (by omega)]; exact h.d.par
  · rw [txt_par (by omega)]; exact h.d.par.b
  · rw [txt_own (by omega)]; exact h
  · rw [txt_own (by omega)]; exact h.d
theorem Rall.of0 {a : Fm} (ho : a.own = 0) (h : Rd a a.body) : Rall a := by
  refine ⟨?_, ?_, ?_, ?_⟩
  · rw [txt_par (by omega)]; exact h.par
  · rw [txt_par (by omega)]; exact h.par.b
  · rw [txt_par (by omega)]; exact h.par.b.c
  · rw [txt_own (by omega)]; exact h
theorem rall : ∀ a : Fm, a.good → Rall a
  | .var v, h => by
    refine Rall.of3 rfl fun post => ?_
    have h : v < 6 := h
    exact (rdL3_at _ _).2.2.2.2.2.2 v h
  | .fls, _ => by
    refine Rall.of3 rfl fun post => ?_
    exact (rdL3_at _ _).2.2.2.1
  | .and a b, h => by
    refine Rall.of2 rfl fun post => ?_
    have e : (Fm.and a b).body ++ post = a.txt 2 ++ (38 :: (b.txt 3 ++ post)) := by simp [Fm.body, Fm.txt]
    rw [e, (rall a h.1).two, rdL5, tk_at, nx_at, if_pos rfl, (rall b h.2).three]
  | .or a b, h => by
    refine Rall.of1 rfl fun post hp => ?_
    have e : (Fm.or a b).body ++ post = a.txt 1 ++ (124 :: (b.txt 2 ++ post)) := by simp [Fm.body, Fm.txt]
    rw [e, (rall a h.1).one _ (tk_no (by decide)), rdL4, tk_at, nx_at, if_pos rfl, (rall b h.2).two, lp5_end hp]
  | .imp a b, h => by
    by_cases hb : b = .fls
    · subst hb
      refine Rall.of3 rfl fun post => ?_
      by_cases ha : a = .fls
      · subst ha
        exact (rdL3_at _ _).2.2.2.2.1
      · have e : (Fm.imp a .fls).body ++ post = 126 :: (a.txt 3 ++ post) := by simp [Fm.body, Fm.txt, ha]
        rw [e, (rdL3_at _ _).1, (rall a h.1).three]
    · refine Rall.of0 (by simp [Fm.own, hb]) fun post h1 h2 h3 => ?_
      have e : (Fm.imp a b).body ++ post = a.txt 1 ++ (62 :: (b.txt 0 ++ post)) := by rw [txt_own (a := b) (Nat.zero_le _)]; simp [Fm.body, Fm.txt, hb]
      rw [e, rdL0, (rall a h.1).one _ (tk_no (by decide)), lp4_end (tk_no (by decide)), tk_at, nx_at, if_pos rfl, (rall b h.2).zero _ h1 h2 h3]
  | .box a, h => by
    refine Rall.of3 rfl fun post => ?_
    have e : (Fm.box a).body ++ post = 91 :: 93 :: (a.txt 3 ++ post) := by simp [Fm.body, Fm.txt]
    rw [e, (rdL3_at _ _).2.1, ndd_at, (rall a h).three]
  | .dia a, h => by
    refine Rall.of3 rfl fun post => ?_
    have e : (Fm.dia a).body ++ post = 60 :: 62 :: (a.txt 3 ++ post) := by simp [Fm.body, Fm.txt]
    rw [e, (rdL3_at _ _).2.2.1, ndd_at, (rall a h).three]
/-- The text of a formula says the formula. -/
theorem rd_text {a : Fm} (h : a.good) : rd a.body = (a, ([], false)) := by
  have := (rall a h).zero [] (by simp [tk]) (by simp [tk]) (by simp [tk])
  rw [List.append_nil, txt_own (Nat.zero_le _)] at this
  exact this
end Go.Vc

/- Contracts: formulas as lists of nodes, and the reader of texts, in the program and the reference. Conditions: none. -/
namespace Go.Vc
theorem iBsA3 {w : World} {e : TypeId} {z0 z1 a b c d x y : Value} {K : Value → World → Prop}
    (h : ∀ q w', q = w.heap.size ∧ w'.heap.size = q + 1 → Ext w w' → Blk e w' q [a, b, c, d, x, y] → K (.slice (some ⟨q, 0, none⟩) 3 3) w') :
    xBs e (Value.cells (.agg #[z0, z1])) 2 3 [(0, .agg #[a, b]), (1, .agg #[c, d]), (2, .agg #[x, y])] w K := by
  refine ⟨#[a, b, c, d, x, y], ?_, h _ _ ⟨rfl, by simp⟩ (Ext.alloc w _) (Blk.new w #[a, b, c, d, x, y] e)⟩
  simp [Instr.fill, Value.cells, show Array.range 6 = #[0, 1, 2, 3, 4, 5] from rfl]
theorem iBuild2 {x y a b : Value} {K : Value → Prop} (ha : isCell a = true) (hb : isCell b = true) (h : K (.agg #[a, b])) : xBuild #[x, y] #[(0, 1), (1, 1)] [(0, a), (1, b)] K :=
  iBuild (cs := #[a, b]) (by simp [Instr.fill, isCell_cells ha, isCell_cells hb]) h
theorem iBuild1 {x y a : Value} {K : Value → Prop} (ha : isCell a = true) (h : K (.agg #[a, y])) : xBuild #[x, y] #[(0, 1), (1, 1)] [(0, a)] K :=
  iBuild (cs := #[a, y]) (by simp [Instr.fill, isCell_cells ha]) h
/-- A reader of the text t: what is left for it, and whether it is bad. -/
def RdS (e : TypeId) (b : Nat) (t : Str) (s : RSt) (w : World) : Prop := ∃ k, k ≤ t.length ∧ s.1 = t.drop k ∧ Blk e w b [sv t, .int .i64 (k : Int), .bool s.2]
theorem RdS.lt {e : TypeId} {b : Nat} {t : Str} {s : RSt} {w : World} (h : RdS e b t s w) : b < w.heap.size := by obtain ⟨_, _, _, h⟩ := h; exact h.lt
theorem RdS.ext {e : TypeId} {b : Nat} {t : Str} {s : RSt} {w w' : World} (h : RdS e b t s w) (he : Ext w w') : RdS e b t s w' := by obtain ⟨k, h1, h2, h3⟩ := h; exact ⟨k, h1, h2, h3.ext he⟩
theorem RdS.len {e : TypeId} {b : Nat} {t : Str} {s : RSt} {w : World} (h : RdS e b t s w) : s.1.length ≤ t.length := by obtain ⟨_, _, h, _⟩ := h; rw [h, List.length_drop]; omega
theorem tk_at_place {t : Str} {k : Nat} {c : UInt8} {bad : Bool} (hk : k < t.length) : tk c (t.drop k, bad) = (!bad && decide (t.getD k 0 = c)) := by
  simp only [tk, List.head?_drop, List.getElem?_eq_getElem hk, Option.some.injEq]
  congr 2
  simp [List.getD_eq_getElem?_getD, hk]
theorem tk_over {t : Str} {k : Nat} {c : UInt8} {bad : Bool} (hk : t.length ≤ k) : tk c (t.drop k, bad) = false := by
  simp [tk, List.drop_of_length_le hk]
theorem u8_eq (a c : UInt8) : (((a.toNat : Nat) : Int) = ((c.toNat : Nat) : Int)) ↔ a = c := by
  constructor
  · intro h; exact UInt8.toNat_inj.1 (by omega)
  · rintro rfl; rfl
theorem rdL_size (lv : Nat) (a : Fm) (s : RSt) : (rdL lv a s).1.size + 3 * (rdL lv a s).2.1.length ≤ a.size + 3 * s.1.length := prs_size _ _ _ _
theorem rdL_len (lv : Nat) (a : Fm) (s : RSt) : (rdL lv a s).2.1.length ≤ s.1.length := (prs_suf _ _ _ _).length_le
end Go.Vc
namespace Go.Proofs.YteifjhpddhppcaaGreat
open Go.Vc
/-- A formula in a row of the call's own. -/
abbrev FmW (lo : Nat) (w : World) (v : Value) (a : Fm) : Prop := OwK 2 lo t_impl_Node w v a.size a.cells
/-- A formula to be read. -/
abbrev FmS (w : World) (v : Value) (a : Fm) : Prop := SlK 2 w v a.size a.cells
theorem node_one {w w' : World} {b : Nat} {x y : Value} (hb : b = w.heap.size ∧ w'.heap.size = b + 1) (hB : Blk t_impl_Node w' b [x, y]) : OwK 2 w.heap.size t_impl_Node w' (.slice (some ⟨b, 0, none⟩) 1 1) 1 [x, y] := OwK.ofBlk hB (by omega) rfl (by omega)
theorem ok_impl_falsum (w : World) : Cal Tryz.prog f_impl_falsum #[] w fun v w' => Ext w w' ∧ FmW w.heap.size w' v .fls := by
  apply c_impl_falsum; unfold S_impl_falsum
  refine iBuild2 rfl rfl ?_
  refine iBsA fun b w1 hb h1 hB => ⟨h1, node_one hb hB⟩
theorem ok_impl_truth (w : World) : Cal Tryz.prog f_impl_truth #[] w fun v w' => Ext w w' ∧ FmW w.heap.size w' v (.imp .fls .fls) := by
  apply c_impl_truth; unfold S_impl_truth
  refine iBuild2 rfl rfl ?_
  refine iBuild2 rfl rfl ?_
  refine iBuild2 rfl rfl ?_
  refine iBsA3 fun b w1 hb h1 hB => ⟨h1, OwK.ofBlk hB (by omega) rfl (by decide)⟩
theorem ok_impl_variable (v : Nat) (w : World) : Cal Tryz.prog f_impl_variable #[.int .i64 (v : Int)] w fun r w' => Ext w w' ∧ FmW w.heap.size w' r (.var v) := by
  apply c_impl_variable; unfold S_impl_variable
  refine iBuild2 rfl rfl ?_
  refine iBsA fun b w1 hb h1 hB => ⟨h1, node_one hb hB⟩
theorem ok_impl_join {a b c : Fm} {k : Nat} (hc : c.cells = nd k 0 ++ a.cells ++ b.cells) (hs : c.size = 1 + a.size + b.size) {va vb : Value} {w : World} (ha : FmS w va a) (hb : FmS w vb b) (hsz : c.size ≤ 1099511627776) :
    Cal Tryz.prog f_impl_join #[.int .i64 (k : Int), va, vb] w fun r w' => Ext w w' ∧ FmW w.heap.size w' r c := by
  apply c_impl_join; unfold S_impl_join
  have hca : isCell va = true := by obtain ⟨_, _, _, h, _⟩ := ha; rw [h]; rfl
  have hcb : isCell vb = true := by obtain ⟨_, _, _, h, _⟩ := hb; rw [h]; rfl
  refine iBuild2 rfl rfl ?_
  refine iBsA fun q w1 hq h1 hB => ?_
  refine iBs3 rfl rfl hca hcb fun q2 w2 hq2 h2 hB2 => ?_
  have hx := (node_one hq hB).sl
  refine iCall ((ok_Concat_Simpl_Node_impl_Node (ps := [(1, nd k 0), (a.size, a.cells), (b.size, b.cells)]) (Sl.ofBlk (n := 3) hB2 rfl (by decide)) rfl (fun i h1' h2' => ?_) (fun p hp u hu => ?_) ?_).mono ?_)
  · match i, h1' with
    | 0, _ => exact hx.ext h2
    | 1, _ => exact (ha.ext h1).ext h2
    | 2, _ => exact (hb.ext h1).ext h2
  · simp only [List.mem_cons, List.not_mem_nil, or_false] at hp
    rcases hp with rfl | rfl | rfl
    · simp only [nd, List.mem_cons, List.not_mem_nil, or_false] at hu
      rcases hu with rfl | rfl <;> rfl
    · exact a.cells_cell _ hu
    · exact b.cells_cell _ hu
  · simp; omega
  · rintro r w3 ⟨h3, ho⟩
    refine ⟨h1.trans (h2.trans h3), ?_⟩
    have ho := ho.mono (h1.trans h2).size
    have e1 : ([(1, nd k 0), (a.size, a.cells), (b.size, b.cells)].map Prod.fst).sum = c.size := by simp [hs]; omega
    have e2 : [(1, nd k 0), (a.size, a.cells), (b.size, b.cells)].flatMap Prod.snd = c.cells := by simp [hc]
    rw [e1, e2] at ho
    exact ho
theorem ok_impl_prefix {a c : Fm} {k : Nat} (hc : c.cells = nd k 0 ++ a.cells) (hs : c.size = 1 + a.size) {va : Value} {w : World} (ha : FmS w va a) (hsz : c.size ≤ 1099511627776) :
    Cal Tryz.prog f_impl_prefix #[.int .i64 (k : Int), va] w fun r w' => Ext w w' ∧ FmW w.heap.size w' r c := by
  apply c_impl_prefix; unfold S_impl_prefix
  have hca : isCell va = true := by obtain ⟨_, _, _, h, _⟩ := ha; rw [h]; rfl
  refine iBuild2 rfl rfl ?_
  refine iBsA fun q w1 hq h1 hB => ?_
  refine iBs2 rfl rfl hca fun q2 w2 hq2 h2 hB2 => ?_
  have hx := (node_one hq hB).sl
  refine iCall ((ok_Concat_Simpl_Node_impl_Node (ps := [(1, nd k 0), (a.size, a.cells)]) (Sl.ofBlk (n := 2) hB2 rfl (by decide)) rfl (fun i h1' h2' => ?_) (fun p hp u hu => ?_) ?_).mono ?_)
  · match i, h1' with
    | 0, _ => exact hx.ext h2
    | 1, _ => exact (ha.ext h1).ext h2
  · simp only [List.mem_cons, List.not_mem_nil, or_false] at hp
    rcases hp with rfl | rfl
    · simp only [nd, List.mem_cons, List.not_mem_nil, or_false] at hu
      rcases hu with rfl | rfl <;> rfl
    · exact a.cells_cell _ hu
  · simp; omega
  · rintro r w3 ⟨h3, ho⟩
    refine ⟨h1.trans (h2.trans h3), ?_⟩
    have ho := ho.mono (h1.trans h2).size
    have e1 : ([(1, nd k 0), (a.size, a.cells)].map Prod.fst).sum = c.size := by simp [hs]
    have e2 : [(1, nd k 0), (a.size, a.cells)].flatMap Prod.snd = c.cells := by simp [hc]
    rw [e1, e2] at ho
    exact ho
theorem ok_impl_negation {a : Fm} {va : Value} {w : World} (ha : FmS w va a) (hsz : a.size ≤ 1099511627) : Cal Tryz.prog f_impl_negation #[va] w fun r w' => Ext w w' ∧ FmW w.heap.size w' r (.imp a .fls) := by
  apply c_impl_negation; unfold S_impl_negation
  refine iCall ((ok_impl_falsum w).mono ?_)
  rintro u w1 ⟨h1, ho⟩
  refine iCall ((ok_impl_join (c := .imp a .fls) (k := 4) rfl rfl (ha.ext h1) ho.sl (by show 1 + a.size + 1 ≤ _; omega)).mono ?_)
  rintro r w2 ⟨h2, hr⟩
  exact ⟨h1.trans h2, hr.mono h1.size⟩
theorem ok_spec_l02False (w : World) : Cal Tryz.prog f_spec_l02False #[] w fun v w' => Ext w w' ∧ FmW w.heap.size w' v .fls := by
  apply c_spec_l02False; unfold S_spec_l02False
  refine iBuild1 rfl ?_
  refine iBsA fun b w1 hb h1 hB => ⟨h1, node_one hb hB⟩
theorem ok_spec_l02Var (v : Nat) (w : World) : Cal Tryz.prog f_spec_l02Var #[.int .i64 (v : Int)] w fun r w' => Ext w w' ∧ FmW w.heap.size w' r (.var v) := by
  apply c_spec_l02Var; unfold S_spec_l02Var
  refine iBuild2 rfl rfl ?_
  refine iBsA fun b w1 hb h1 hB => ⟨h1, node_one hb hB⟩
theorem ok_spec_l02Pair {a b c : Fm} {k : Nat} (hc : c.cells = nd k 0 ++ a.cells ++ b.cells) (hs : c.size = 1 + a.size + b.size) {va vb : Value} {w : World} (ha : FmS w va a) (hb : FmS w vb b) (hsz : c.size ≤ 1099511627776) :
    Cal Tryz.prog f_spec_l02Pair #[.int .i64 (k : Int), va, vb] w fun r w' => Ext w w' ∧ FmW w.heap.size w' r c := by
  apply c_spec_l02Pair; unfold S_spec_l02Pair
  refine iBuild1 rfl ?_
  refine iBsA fun q w1 hq h1 hB => ?_
  refine iAppK u_Simpl_Node i_Simpl_Node rfl (by omega) (node_one hq hB) (ha.ext h1) a.cells_cell (by omega) (by omega) h1.size fun v2 w2 ho2 hg2 _ => ?_
  have hX2 := h1.grown hg2 (fun c hc => ((node_one hq hB).blk c hc).1)
  refine iAppK u_Simpl_Node i_Simpl_Node rfl (by omega) ho2 (hb.ext hX2) b.cells_cell (by omega) (by omega) hX2.size fun v3 w3 ho3 hg3 _ => ?_
  refine ⟨hX2.grown hg3 (fun c hc => (ho2.blk c hc).1), ?_⟩
  unfold FmW
  rw [hs, hc]
  exact ho3
theorem ok_spec_l02Pre {a c : Fm} {k : Nat} (hc : c.cells = nd k 0 ++ a.cells) (hs : c.size = 1 + a.size) {va : Value} {w : World} (ha : FmS w va a) (hsz : c.size ≤ 1099511627776) :
    Cal Tryz.prog f_spec_l02Pre #[.int .i64 (k : Int), va] w fun r w' => Ext w w' ∧ FmW w.heap.size w' r c := by
  apply c_spec_l02Pre; unfold S_spec_l02Pre
  refine iBuild1 rfl ?_
  refine iBsA fun q w1 hq h1 hB => ?_
  refine iAppK u_Simpl_Node i_Simpl_Node rfl (by omega) (node_one hq hB) (ha.ext h1) a.cells_cell (by omega) (by omega) h1.size fun v2 w2 ho2 hg2 _ => ?_
  refine ⟨h1.grown hg2 (fun c hc => ((node_one hq hB).blk c hc).1), ?_⟩
  unfold FmW
  rw [hs, hc]
  exact ho2
theorem ok_spec_l02Not {a : Fm} {va : Value} {w : World} (ha : FmS w va a) (hsz : a.size ≤ 1099511627) : Cal Tryz.prog f_spec_l02Not #[va] w fun r w' => Ext w w' ∧ FmW w.heap.size w' r (.imp a .fls) := by
  apply c_spec_l02Not; unfold S_spec_l02Not
  refine iCall ((ok_spec_l02False w).mono ?_)
  rintro u w1 ⟨h1, ho⟩
  refine iCall ((ok_spec_l02Pair (c := .imp a .fls) (k := 4) rfl rfl (ha.ext h1) ho.sl (by show 1 + a.size + 1 ≤ _; omega)).mono ?_)
  rintro r w2 ⟨h2, hr⟩
  exact ⟨h1.trans h2, hr.mono h1.size⟩
theorem ok_spec_l02True (w : World) : Cal Tryz.prog f_spec_l02True #[] w fun r w' => Ext w w' ∧ FmW w.heap.size w' r (.imp .fls .fls) := by
  apply c_spec_l02True; unfold S_spec_l02True
  refine iCall ((ok_spec_l02False w).mono ?_)
  rintro u w1 ⟨h1, ho⟩
  refine iCall ((ok_spec_l02Not ho.sl (by decide)).mono ?_)
  rintro r w2 ⟨h2, hr⟩
  exact ⟨h1.trans h2, hr.mono h1.size⟩
/-- What taking a byte does. -/
abbrev TakeQ (e : TypeId) (b : Nat) (t : Str) (s : RSt) (w : World) (c : UInt8) (v : Value) (w' : World) : Prop := v = .bool (tk c s) ∧ RdS e b t (if tk c s then nx s else s) w' ∧ Ch (fun x => x = b) w w'
theorem take_end {e : TypeId} {b k : Nat} {t : Str} {bad : Bool} {c : UInt8} {w w2 : World} (hB : Blk e w b [sv t, .int .i64 (k : Int), .bool bad]) (h2 : Ext w w2) (h : tk c (t.drop k, bad) = true) : TakeQ e b t (t.drop k, bad) w c (.bool true) (w2.setCell ⟨b, 1, none⟩ (.int .i64 ((k : Int) + 1))) := by
  have hk : k < t.length := by
    rcases Nat.lt_or_ge k t.length with h' | h'
    · exact h'
    · rw [tk_over h'] at h; cases h
  have hbad := tk_bad h
  have hbad : bad = false := hbad
  subst hbad
  refine ⟨by rw [h], ?_, (h2.ch (S := fun x => x = b)).trans ((Upd.setCell w2 b 1 _).ch (S := fun x => x = b) rfl) (fun _ h => .inl h)⟩
  rw [if_pos h]
  refine ⟨k + 1, hk, by simp [nx, List.tail_drop], ?_⟩
  have := (hB.ext h2).set 1 (.int .i64 ((k : Int) + 1))
  show Blk e _ b [sv t, .int .i64 ((k + 1 : Nat) : Int), .bool false]
  simpa using this
theorem ok_impl_reader_take {e : TypeId} {b : Nat} {t : Str} {s : RSt} {w : World} (c : UInt8) {z : Int} (hz : z = ((c.toNat : Nat) : Int)) (ht : t.length ≤ 1099511627776) (h : RdS e b t s w) :
    Cal Tryz.prog f_impl_reader_take #[.pointer (some ⟨b, 0, none⟩), .int .u8 z] w (TakeQ e b t s w c) := by
  apply c_impl_reader_take; unfold S_impl_reader_take
  obtain ⟨k, hk, hs, hB⟩ := h
  obtain ⟨s1, bad⟩ := s
  have hs : s1 = t.drop k := hs
  have hB : Blk e w b [sv t, .int .i64 (k : Int), .bool bad] := hB
  subst hs
  subst hz
  refine iJnX (fun xs w' => xs = [.bool !tk c (t.drop k, bad)] ∧ Ext w w') (fun J hJ => ?_) ?_
  · ((with_reducible refine iNil ?_; refine iFa ?_); refine iLdB (by assumption) (by first | rfl | simp) ?_)
    cases bad
    · refine iCndF rfl ?_
      ((with_reducible refine iNil ?_; refine iFa ?_); refine iLdB (by assumption) (by first | rfl | simp) ?_; (with_reducible refine iNil ?_; refine iFa ?_); refine iLdB (by assumption) (by first | rfl | simp) ?_)
      refine iLenT ?_
      ((with_reducible refine iLe ?_))
      refine iCndP (fun h1 => ?_) (fun h1 => ?_)
      · intro w4 h4
        exact hJ _ _ ⟨by rw [tk_over (by omega)]; rfl, h4⟩
      · ((with_reducible refine iNil ?_; refine iFa ?_); refine iLdB (by assumption) (by first | rfl | simp) ?_; (with_reducible refine iNil ?_; refine iFa ?_); refine iLdB (by assumption) (by first | rfl | simp) ?_)
        refine iIs (by omega) ?_
        ((with_reducible refine iNe ?_))
        intro w5 h5
        refine hJ _ _ ⟨?_, h5⟩
        rw [tk_at_place (by omega), Bool.not_false, Bool.true_and, ← decide_not]
        congr 2
        exact decide_eq_decide.2 (not_congr (u8_eq _ _))
    · refine iCndT rfl ?_
      intro w3 h3
      exact hJ _ _ ⟨by simp [tk], h3⟩
  rintro _ w2 ⟨rfl, h2⟩
  intro _
  cases hk2 : tk c (t.drop k, bad)
  · refine iCndT rfl ⟨by rw [hk2], ?_, h2.ch⟩
    rw [hk2, if_neg (by decide)]
    exact ⟨k, hk, rfl, hB.ext h2⟩
  · refine iCndF rfl ?_
    have hB2 := hB.ext h2
    have hfin := take_end hB h2 hk2
    ((with_reducible refine iNil ?_; refine iFa ?_); refine iLdB (by assumption) (by first | rfl | simp) ?_; refine iAdd (by omega) ?_; (with_reducible refine iNil ?_; refine iFa ?_))
    refine iStB hB2 (by simp) rfl fun _ => ?_
    exact hfin
theorem ok_spec_l02Take {e : TypeId} {b : Nat} {t : Str} {s : RSt} {w : World} (c : UInt8) {z : Int} (hz : z = ((c.toNat : Nat) : Int)) (ht : t.length ≤ 1099511627776) (h : RdS e b t s w) :
    Cal Tryz.prog f_spec_l02Take #[.pointer (some ⟨b, 0, none⟩), .int .u8 z] w (TakeQ e b t s w c) := by
  apply c_spec_l02Take; unfold S_spec_l02Take
  obtain ⟨k, hk, hs, hB⟩ := h
  obtain ⟨s1, bad⟩ := s
  have hs : s1 = t.drop k := hs
  have hB : Blk e w b [sv t, .int .i64 (k : Int), .bool bad] := hB
  subst hs
  subst hz
  refine iJnX (fun xs w' => xs = [.bool (tk c (t.drop k, bad))] ∧ Ext w w') (fun J hJ => ?_) ?_
  · ((with_reducible refine iNil ?_; refine iFa ?_); refine iLdB (by assumption) (by first | rfl | simp) ?_; (with_reducible refine iNot ?_))
    cases bad
    · refine iCndT rfl ?_
      ((with_reducible refine iNil ?_; refine iFa ?_); refine iLdB (by assumption) (by first | rfl | simp) ?_; (with_reducible refine iNil ?_; refine iFa ?_); refine iLdB (by assumption) (by first | rfl | simp) ?_)
      refine iLenT ?_
      ((with_reducible refine iLt ?_))
      refine iCndP (fun h1 => ?_) (fun h1 => ?_)
      · ((with_reducible refine iNil ?_; refine iFa ?_); refine iLdB (by assumption) (by first | rfl | simp) ?_; (with_reducible refine iNil ?_; refine iFa ?_); refine iLdB (by assumption) (by first | rfl | simp) ?_)
        refine iIs (by omega) ?_
        ((with_reducible refine iEq ?_))
        intro w5 h5
        refine hJ _ _ ⟨?_, h5⟩
        rw [tk_at_place (by omega), Bool.not_false, Bool.true_and]
        congr 2
        exact decide_eq_decide.2 (u8_eq _ _)
      · intro w4 h4
        exact hJ _ _ ⟨by rw [tk_over (by omega)], h4⟩
    · refine iCndF rfl ?_
      intro w3 h3
      exact hJ _ _ ⟨by simp [tk], h3⟩
  rintro _ w2 ⟨rfl, h2⟩
  intro _
  cases hk2 : tk c (t.drop k, bad)
  · refine iCndF rfl ⟨by rw [hk2], ?_, h2.ch⟩
    rw [hk2, if_neg (by decide)]
    exact ⟨k, hk, rfl, hB.ext h2⟩
  · refine iCndT rfl ?_
    have hB2 := hB.ext h2
    have hfin := take_end hB h2 hk2
    ((with_reducible refine iNil ?_; refine iFa ?_); refine iLdB (by assumption) (by first | rfl | simp) ?_; refine iAdd (by omega) ?_; (with_reducible refine iNil ?_; refine iFa ?_))
    refine iStB hB2 (by simp) rfl fun _ => ?_
    exact hfin
theorem RdS.bad {e : TypeId} {b : Nat} {t : Str} {s : RSt} {w : World} (h : RdS e b t s w) : RdS e b t (s.1, true) (w.setCell ⟨b, 2, none⟩ (.bool true)) := by
  obtain ⟨k, h1, h2, h3⟩ := h
  refine ⟨k, h1, h2, ?_⟩
  have := h3.set 2 (.bool true)
  simpa using this
theorem ok_impl_reader_need {e : TypeId} {b : Nat} {t : Str} {s : RSt} {w : World} (c : UInt8) {z : Int} (hz : z = ((c.toNat : Nat) : Int)) (ht : t.length ≤ 1099511627776) (h : RdS e b t s w) :
    Cal Tryz.prog f_impl_reader_need #[.pointer (some ⟨b, 0, none⟩), .int .u8 z] w fun _ w' => RdS e b t (ndd c s) w' ∧ Ch (fun x => x = b) w w' := by
  apply c_impl_reader_need; unfold S_impl_reader_need
  refine iCall ((ok_impl_reader_take c hz ht h).mono ?_)
  rintro _ w1 ⟨rfl, h1, hc1⟩
  unfold ndd
  refine iNot ?_
  cases hk : tk c s
  · rw [hk, if_neg (by decide)] at h1
    refine iCndT rfl ?_
    obtain ⟨k, _, _, hB⟩ := id h1
    ((with_reducible refine iNil ?_; refine iFa ?_))
    refine iStB hB (by simp) rfl fun _ => ?_
    exact ⟨RdS.bad h1, hc1.trans ((Upd.setCell w1 b 2 _).ch (S := fun x => x = b) rfl) (fun _ h => .inl h)⟩
  · rw [hk, if_pos rfl] at h1
    exact iCndF rfl ⟨h1, hc1⟩
theorem ok_spec_l02Need {e : TypeId} {b : Nat} {t : Str} {s : RSt} {w : World} (c : UInt8) {z : Int} (hz : z = ((c.toNat : Nat) : Int)) (ht : t.length ≤ 1099511627776) (h : RdS e b t s w) :
    Cal Tryz.prog f_spec_l02Need #[.pointer (some ⟨b, 0, none⟩), .int .u8 z] w fun _ w' => RdS e b t (ndd c s) w' ∧ Ch (fun x => x = b) w w' := by
  apply c_spec_l02Need; unfold S_spec_l02Need
  refine iCall ((ok_spec_l02Take c hz ht h).mono ?_)
  rintro _ w1 ⟨rfl, h1, hc1⟩
  unfold ndd
  refine iNot ?_
  cases hk : tk c s
  · rw [hk, if_neg (by decide)] at h1
    refine iCndT rfl ?_
    obtain ⟨k, _, _, hB⟩ := id h1
    ((with_reducible refine iNil ?_; refine iFa ?_))
    refine iStB hB (by simp) rfl fun _ => ?_
    exact ⟨RdS.bad h1, hc1.trans ((Upd.setCell w1 b 2 _).ch (S := fun x => x = b) rfl) (fun _ h => .inl h)⟩
  · rw [hk, if_pos rfl] at h1
    exact iCndF rfl ⟨h1, hc1⟩
end Go.Proofs.YteifjhpddhppcaaGreat

/- Contracts: the readers of formulas in the program and the reference say what the grammar says. Conditions: none. -/
namespace Go.Vc
theorem fl0 : fl 0 = 4 := rfl
theorem fl1 : fl 1 = 3 := rfl
theorem fl2 : fl 2 = 2 := rfl
theorem fl3 : fl 3 = 1 := rfl
theorem vl_nat : ∀ v, v < 6 → (vl v).toNat = 112 + v
  | 0, _ => rfl
  | 1, _ => rfl
  | 2, _ => rfl
  | 3, _ => rfl
  | 4, _ => rfl
  | 5, _ => rfl
  | v + 6, h => by omega
theorem vl_inj {v u : Nat} (hv : v < 6) (hu : u < 6) (h : vl v = vl u) : v = u := by
  have := congrArg UInt8.toNat h
  rw [vl_nat v hv, vl_nat u hu] at this; omega
theorem vl_other {v : Nat} (hv : v < 6) {d : UInt8} (h : d.toNat < 112 ∨ 117 < d.toNat) : vl v ≠ d := by
  rintro rfl
  rw [vl_nat v hv] at h; omega
/-- What reading at a level does. -/
abbrev ReadQ (e : TypeId) (b : Nat) (t : Str) (nodeT : TypeId) (r : Fm × RSt) (w : World) (v : Value) (w' : World) : Prop := RdS e b t r.2 w' ∧ Ch (fun x => x = b) w w' ∧ OwK 2 w.heap.size nodeT w' v r.1.size r.1.cells
theorem rdS_ne {e : TypeId} {b : Nat} {t : Str} {s : RSt} {w w1 : World} {lo : Nat} {e' : TypeId} {v : Value} {n : Nat} {xs : List Value} (h : RdS e b t s w) (ho : OwK 2 lo e' w1 v n xs) (hlo : w.heap.size ≤ lo) : ∀ c, v.ownBlock = some c → ¬ c = b := fun c hc hb => by
  have := (ho.blk c hc).1; have := h.lt; omega
end Go.Vc
namespace Go.Proofs.YteifjhpddhppcaaGreat
open Go.Vc
/-- A function reads at level lv, for texts that need no more than m. -/
def Rds (f : FuncId) (lv m : Nat) : Prop := ∀ (e : TypeId) (b : Nat) (t : Str) (s : RSt) (w : World), t.length ≤ 4194304 → RdS e b t s w → 8 * s.1.length + fl lv ≤ m → Cal Tryz.prog f #[.pointer (some ⟨b, 0, none⟩)] w (ReadQ e b t t_impl_Node (rdL lv .fls s) w)
theorem rd_impl_reader_imply {m : Nat} (hor : Rds f_impl_reader_or 1 m) (him : Rds f_impl_reader_imply 0 m) : Rds f_impl_reader_imply 0 (m + 1) := by
  intro e b t s w ht h hm
  rw [fl0] at hm
  apply c_impl_reader_imply; unfold S_impl_reader_imply
  refine iCall ((hor e b t s w ht h (by rw [fl1]; omega)).mono ?_)
  rintro v w1 ⟨h1, hc1, ho1⟩
  have hlen := rdL_len 1 .fls s
  have hz := rdL_size 1 .fls s
  have htl := h.len
  rw [rdL0]
  refine iCall ((ok_impl_reader_take 62 (by decide) (by omega) h1).mono ?_)
  rintro _ w2 ⟨rfl, h2, hc2⟩
  have ho2 := ho1.ch hc2 (rdS_ne h ho1 (Nat.le_refl _))
  cases hk : tk 62 (rdL 1 .fls s).2
  · rw [hk, if_neg (by decide)] at h2
    exact iCndF rfl ⟨h2, ch_self hc1 hc2, ho2⟩
  · rw [hk, if_pos rfl] at h2
    have hnx := nx_len hk
    rw [if_pos rfl]
    refine iCndT rfl ?_
    refine iCall ((him e b t _ w2 ht h2 (by rw [fl0]; omega)).mono ?_)
    rintro v3 w3 ⟨h3, hc3, ho3⟩
    have hz3 := rdL_size 0 .fls (nx (rdL 1 .fls s).2)
    have hf : Fm.fls.size = 1 := rfl
    have ho23 := ho2.ch hc3 (rdS_ne h ho2 (Nat.le_refl _))
    have hsz : (Fm.imp (rdL 1 .fls s).1 (rdL 0 .fls (nx (rdL 1 .fls s).2)).1).size ≤ 1099511627776 := by
      show 1 + _ + _ ≤ _; omega
    refine iCall ((ok_impl_join (c := .imp (rdL 1 .fls s).1 (rdL 0 .fls (nx (rdL 1 .fls s).2)).1) (k := 4) rfl rfl ho23.sl ho3.sl hsz).mono ?_)
    rintro v4 w4 ⟨h4, ho4⟩
    have hcc := ch_self hc1 (ch_self hc2 hc3)
    exact ⟨h3.ext h4, ch_ext hcc h4, ho4.mono hcc.size⟩
theorem rd_spec_l02Imply {m : Nat} (hor : Rds f_spec_l02Or 1 m) (him : Rds f_spec_l02Imply 0 m) : Rds f_spec_l02Imply 0 (m + 1) := by
  intro e b t s w ht h hm
  rw [fl0] at hm
  apply c_spec_l02Imply; unfold S_spec_l02Imply
  refine iCall ((hor e b t s w ht h (by rw [fl1]; omega)).mono ?_)
  rintro v w1 ⟨h1, hc1, ho1⟩
  have hlen := rdL_len 1 .fls s
  have hz := rdL_size 1 .fls s
  have htl := h.len
  rw [rdL0]
  refine iCall ((ok_spec_l02Take 62 (by decide) (by omega) h1).mono ?_)
  rintro _ w2 ⟨rfl, h2, hc2⟩
  have ho2 := ho1.ch hc2 (rdS_ne h ho1 (Nat.le_refl _))
  cases hk : tk 62 (rdL 1 .fls s).2
  · rw [hk, if_neg (by decide)] at h2
    exact iCndF rfl ⟨h2, ch_self hc1 hc2, ho2⟩
  · rw [hk, if_pos rfl] at h2
    have hnx := nx_len hk
    rw [if_pos rfl]
    refine iCndT rfl ?_
    refine iCall ((him e b t _ w2 ht h2 (by rw [fl0]; omega)).mono ?_)
    rintro v3 w3 ⟨h3, hc3, ho3⟩
    have hz3 := rdL_size 0 .fls (nx (rdL 1 .fls s).2)
    have hf : Fm.fls.size = 1 := rfl
    have ho23 := ho2.ch hc3 (rdS_ne h ho2 (Nat.le_refl _))
    have hsz : (Fm.imp (rdL 1 .fls s).1 (rdL 0 .fls (nx (rdL 1 .fls s).2)).1).size ≤ 1099511627776 := by
      show 1 + _ + _ ≤ _; omega
    refine iCall ((ok_spec_l02Pair (c := .imp (rdL 1 .fls s).1 (rdL 0 .fls (nx (rdL 1 .fls s).2)).1) (k := 4) rfl rfl ho23.sl ho3.sl hsz).mono ?_)
    rintro v4 w4 ⟨h4, ho4⟩
    have hcc := ch_self hc1 (ch_self hc2 hc3)
    exact ⟨h3.ext h4, ch_ext hcc h4, ho4.mono hcc.size⟩
theorem rd_impl_reader_or {m : Nat} (hsub : Rds f_impl_reader_and 2 m) : Rds f_impl_reader_or 1 (m + 1) := by
  intro e b t s w ht h hm
  rw [fl1] at hm
  apply c_impl_reader_or; unfold S_impl_reader_or
  refine iCall ((hsub e b t s w ht h (by rw [fl2]; omega)).mono ?_)
  rintro v w1 ⟨h1, hc1, ho1⟩
  have hlen := rdL_len 2 .fls s
  have hz := rdL_size 2 .fls s
  have htl := h.len
  have hf : Fm.fls.size = 1 := rfl
  rw [rdL1]
  refine iLp (fun q : Value × Fm × RSt => [q.1]) (fun q w' => RdS e b t q.2.2 w' ∧ Ch (fun x => x = b) w w' ∧ OwK 2 w.heap.size t_impl_Node w' q.1 q.2.1.size q.2.1.cells ∧ rdL 4 q.2.1 q.2.2 = rdL 4 (rdL 2 .fls s).1 (rdL 2 .fls s).2 ∧ q.2.2.1.length ≤ s.1.length ∧ q.2.1.size + 3 * q.2.2.1.length ≤ 1 + 3 * s.1.length) (fun q => q.2.2.1.length) (v, rdL 2 .fls s) rfl
    ⟨h1, hc1, ho1, rfl, hlen, by show (rdL 2 .fls s).1.size + 3 * (rdL 2 .fls s).2.1.length ≤ _; omega⟩ ?_
  rintro ⟨v, a, q⟩ w3 Kn ⟨h3, hc3, ho3, hq, hql, hqs⟩ hKn
  have h3 : RdS e b t q w3 := h3
  have ho3 : OwK 2 w.heap.size t_impl_Node w3 v a.size a.cells := ho3
  have hq : rdL 4 a q = _ := hq
  have hql : q.1.length ≤ s.1.length := hql
  have hqs : a.size + 3 * q.1.length ≤ 1 + 3 * s.1.length := hqs
  intro _
  refine iCall ((ok_impl_reader_take 124 (by decide) (by omega) h3).mono ?_)
  rintro _ w4 ⟨rfl, h4, hc4⟩
  have ho4 := ho3.ch hc4 (rdS_ne h ho3 (Nat.le_refl _))
  rw [← hq, rdL4]
  cases hk : tk 124 q
  · rw [hk, if_neg (by decide)] at h4
    rw [if_neg (by decide)]
    exact iCndF rfl ⟨h4, ch_self hc3 hc4, ho4⟩
  · rw [hk, if_pos rfl] at h4
    have hnx := nx_len hk
    rw [if_pos rfl]
    refine iCndT rfl ?_
    refine iCall ((hsub e b t _ w4 ht h4 (by rw [fl2]; omega)).mono ?_)
    rintro v5 w5 ⟨h5, hc5, ho5⟩
    have hz5 := rdL_size 2 .fls (nx q)
    have hl5 := rdL_len 2 .fls (nx q)
    have ho45 := ho4.ch hc5 (rdS_ne h ho4 (Nat.le_refl _))
    have hsz : (Fm.or a (rdL 2 .fls (nx q)).1).size ≤ 1099511627776 := by
      show 1 + _ + _ ≤ _; omega
    refine iCall ((ok_impl_join (c := .or a (rdL 2 .fls (nx q)).1) (k := 3) rfl rfl ho45.sl ho5.sl hsz).mono ?_)
    rintro v6 w6 ⟨h6, ho6⟩
    have hcc := ch_self hc3 (ch_self hc4 hc5)
    have e1 : rdL 4 (rdL 2 .fls s).1 (rdL 2 .fls s).2 = rdL 4 (.or a (rdL 2 .fls (nx q)).1) (rdL 2 .fls (nx q)).2 := by rw [← hq, rdL4, if_pos hk]
    refine hKn (v6, .or a (rdL 2 .fls (nx q)).1, (rdL 2 .fls (nx q)).2) _ ⟨h5.ext h6, ch_ext hcc h6, ho6.mono hcc.size, e1.symm, by show (rdL 2 .fls (nx q)).2.1.length ≤ _; omega, ?_⟩ (by show (rdL 2 .fls (nx q)).2.1.length < q.1.length; omega)
    show 1 + a.size + (rdL 2 .fls (nx q)).1.size + 3 * (rdL 2 .fls (nx q)).2.1.length ≤ _
    omega
theorem rd_impl_reader_and {m : Nat} (hsub : Rds f_impl_reader_prefix 3 m) : Rds f_impl_reader_and 2 (m + 1) := by
  intro e b t s w ht h hm
  rw [fl2] at hm
  apply c_impl_reader_and; unfold S_impl_reader_and
  refine iCall ((hsub e b t s w ht h (by rw [fl3]; omega)).mono ?_)
  rintro v w1 ⟨h1, hc1, ho1⟩
  have hlen := rdL_len 3 .fls s
  have hz := rdL_size 3 .fls s
  have htl := h.len
  have hf : Fm.fls.size = 1 := rfl
  rw [rdL2]
  refine iLp (fun q : Value × Fm × RSt => [q.1]) (fun q w' => RdS e b t q.2.2 w' ∧ Ch (fun x => x = b) w w' ∧ OwK 2 w.heap.size t_impl_Node w' q.1 q.2.1.size q.2.1.cells ∧ rdL 5 q.2.1 q.2.2 = rdL 5 (rdL 3 .fls s).1 (rdL 3 .fls s).2 ∧ q.2.2.1.length ≤ s.1.length ∧ q.2.1.size + 3 * q.2.2.1.length ≤ 1 + 3 * s.1.length) (fun q => q.2.2.1.length) (v, rdL 3 .fls s) rfl
    ⟨h1, hc1, ho1, rfl, hlen, by show (rdL 3 .fls s).1.size + 3 * (rdL 3 .fls s).2.1.length ≤ _; omega⟩ ?_
  rintro ⟨v, a, q⟩ w3 Kn ⟨h3, hc3, ho3, hq, hql, hqs⟩ hKn
  have h3 : RdS e b t q w3 := h3
  have ho3 : OwK 2 w.heap.size t_impl_Node w3 v a.size a.cells := ho3
  have hq : rdL 5 a q = _ := hq
  have hql : q.1.length ≤ s.1.length := hql
  have hqs : a.size + 3 * q.1.length ≤ 1 + 3 * s.1.length := hqs
  intro _
  refine iCall ((ok_impl_reader_take 38 (by decide) (by omega) h3).mono ?_)
  rintro _ w4 ⟨rfl, h4, hc4⟩
  have ho4 := ho3.ch hc4 (rdS_ne h ho3 (Nat.le_refl _))
  rw [← hq, rdL5]
  cases hk : tk 38 q
  · rw [hk, if_neg (by decide)] at h4
    rw [if_neg (by decide)]
    exact iCndF rfl ⟨h4, ch_self hc3 hc4, ho4⟩
  · rw [hk, if_pos rfl] at h4
    have hnx := nx_len hk
    rw [if_pos rfl]
    refine iCndT rfl ?_
    refine iCall ((hsub e b t _ w4 ht h4 (by rw [fl3]; omega)).mono ?_)
    rintro v5 w5 ⟨h5, hc5, ho5⟩
    have hz5 := rdL_size 3 .fls (nx q)
    have hl5 := rdL_len 3 .fls (nx q)
    have ho45 := ho4.ch hc5 (rdS_ne h ho4 (Nat.le_refl _))
    have hsz : (Fm.and a (rdL 3 .fls (nx q)).1).size ≤ 1099511627776 := by
      show 1 + _ + _ ≤ _; omega
    refine iCall ((ok_impl_join (c := .and a (rdL 3 .fls (nx q)).1) (k := 2) rfl rfl ho45.sl ho5.sl hsz).mono ?_)
    rintro v6 w6 ⟨h6, ho6⟩
    have hcc := ch_self hc3 (ch_self hc4 hc5)
    have e1 : rdL 5 (rdL 3 .fls s).1 (rdL 3 .fls s).2 = rdL 5 (.and a (rdL 3 .fls (nx q)).1) (rdL 3 .fls (nx q)).2 := by rw [← hq, rdL5, if_pos hk]
    refine hKn (v6, .and a (rdL 3 .fls (nx q)).1, (rdL 3 .fls (nx q)).2) _ ⟨h5.ext h6, ch_ext hcc h6, ho6.mono hcc.size, e1.symm, by show (rdL 3 .fls (nx q)).2.1.length ≤ _; omega, ?_⟩ (by show (rdL 3 .fls (nx q)).2.1.length < q.1.length; omega)
    show 1 + a.size + (rdL 3 .fls (nx q)).1.size + 3 * (rdL 3 .fls (nx q)).2.1.length ≤ _
    omega
theorem rd_spec_l02Or {m : Nat} (hsub : Rds f_spec_l02And 2 m) : Rds f_spec_l02Or 1 (m + 1) := by
  intro e b t s w ht h hm
  rw [fl1] at hm
  apply c_spec_l02Or; unfold S_spec_l02Or
  refine iCall ((hsub e b t s w ht h (by rw [fl2]; omega)).mono ?_)
  rintro v w1 ⟨h1, hc1, ho1⟩
  have hlen := rdL_len 2 .fls s
  have hz := rdL_size 2 .fls s
  have htl := h.len
  have hf : Fm.fls.size = 1 := rfl
  rw [rdL1]
  refine iLp (fun q : Value × Fm × RSt => [q.1]) (fun q w' => RdS e b t q.2.2 w' ∧ Ch (fun x => x = b) w w' ∧ OwK 2 w.heap.size t_impl_Node w' q.1 q.2.1.size q.2.1.cells ∧ rdL 4 q.2.1 q.2.2 = rdL 4 (rdL 2 .fls s).1 (rdL 2 .fls s).2 ∧ q.2.2.1.length ≤ s.1.length ∧ q.2.1.size + 3 * q.2.2.1.length ≤ 1 + 3 * s.1.length) (fun q => q.2.2.1.length) (v, rdL 2 .fls s) rfl
    ⟨h1, hc1, ho1, rfl, hlen, by show (rdL 2 .fls s).1.size + 3 * (rdL 2 .fls s).2.1.length ≤ _; omega⟩ ?_
  rintro ⟨v, a, q⟩ w3 Kn ⟨h3, hc3, ho3, hq, hql, hqs⟩ hKn
  have h3 : RdS e b t q w3 := h3
  have ho3 : OwK 2 w.heap.size t_impl_Node w3 v a.size a.cells := ho3
  have hq : rdL 4 a q = _ := hq
  have hql : q.1.length ≤ s.1.length := hql
  have hqs : a.size + 3 * q.1.length ≤ 1 + 3 * s.1.length := hqs
  intro _
  refine iCall ((ok_spec_l02Take 124 (by decide) (by omega) h3).mono ?_)
  rintro _ w4 ⟨rfl, h4, hc4⟩
  have ho4 := ho3.ch hc4 (rdS_ne h ho3 (Nat.le_refl _))
  rw [← hq, rdL4]
  cases hk : tk 124 q
  · rw [hk, if_neg (by decide)] at h4
    rw [if_neg (by decide)]
    exact iCndF rfl ⟨h4, ch_self hc3 hc4, ho4⟩
  · rw [hk, if_pos rfl] at h4
    have hnx := nx_len hk
    rw [if_pos rfl]
    refine iCndT rfl ?_
    refine iCall ((hsub e b t _ w4 ht h4 (by rw [fl2]; omega)).mono ?_)
    rintro v5 w5 ⟨h5, hc5, ho5⟩
    have hz5 := rdL_size 2 .fls (nx q)
    have hl5 := rdL_len 2 .fls (nx q)
    have ho45 := ho4.ch hc5 (rdS_ne h ho4 (Nat.le_refl _))
    have hsz : (Fm.or a (rdL 2 .fls (nx q)).1).size ≤ 1099511627776 := by
      show 1 + _ + _ ≤ _; omega
    refine iCall ((ok_spec_l02Pair (c := .or a (rdL 2 .fls (nx q)).1) (k := 3) rfl rfl ho45.sl ho5.sl hsz).mono ?_)
    rintro v6 w6 ⟨h6, ho6⟩
    have hcc := ch_self hc3 (ch_self hc4 hc5)
    have e1 : rdL 4 (rdL 2 .fls s).1 (rdL 2 .fls s).2 = rdL 4 (.or a (rdL 2 .fls (nx q)).1) (rdL 2 .fls (nx q)).2 := by rw [← hq, rdL4, if_pos hk]
    refine hKn (v6, .or a (rdL 2 .fls (nx q)).1, (rdL 2 .fls (nx q)).2) _ ⟨h5.ext h6, ch_ext hcc h6, ho6.mono hcc.size, e1.symm, by show (rdL 2 .fls (nx q)).2.1.length ≤ _; omega, ?_⟩ (by show (rdL 2 .fls (nx q)).2.1.length < q.1.length; omega)
    show 1 + a.size + (rdL 2 .fls (nx q)).1.size + 3 * (rdL 2 .fls (nx q)).2.1.length ≤ _
    omega
theorem rd_spec_l02And {m : Nat} (hsub : Rds f_spec_l02Prefix 3 m) : Rds f_spec_l02And 2 (m + 1) := by
  intro e b t s w ht h hm
  rw [fl2] at hm
  apply c_spec_l02And; unfold S_spec_l02And
  refine iCall ((hsub e b t s w ht h (by rw [fl3]; omega)).mono ?_)
  rintro v w1 ⟨h1, hc1, ho1⟩
  have hlen := rdL_len 3 .fls s
  have hz := rdL_size 3 .fls s
  have htl := h.len
  have hf : Fm.fls.size = 1 := rfl
  rw [rdL2]
  refine iLp (fun q : Value × Fm × RSt => [q.1]) (fun q w' => RdS e b t q.2.2 w' ∧ Ch (fun x => x = b) w w' ∧ OwK 2 w.heap.size t_impl_Node w' q.1 q.2.1.size q.2.1.cells ∧ rdL 5 q.2.1 q.2.2 = rdL 5 (rdL 3 .fls s).1 (rdL 3 .fls s).2 ∧ q.2.2.1.length ≤ s.1.length ∧ q.2.1.size + 3 * q.2.2.1.length ≤ 1 + 3 * s.1.length) (fun q => q.2.2.1.length) (v, rdL 3 .fls s) rfl
    ⟨h1, hc1, ho1, rfl, hlen, by show (rdL 3 .fls s).1.size + 3 * (rdL 3 .fls s).2.1.length ≤ _; omega⟩ ?_
  rintro ⟨v, a, q⟩ w3 Kn ⟨h3, hc3, ho3, hq, hql, hqs⟩ hKn
  have h3 : RdS e b t q w3 := h3
  have ho3 : OwK 2 w.heap.size t_impl_Node w3 v a.size a.cells := ho3
  have hq : rdL 5 a q = _ := hq
  have hql : q.1.length ≤ s.1.length := hql
  have hqs : a.size + 3 * q.1.length ≤ 1 + 3 * s.1.length := hqs
  intro _
  refine iCall ((ok_spec_l02Take 38 (by decide) (by omega) h3).mono ?_)
  rintro _ w4 ⟨rfl, h4, hc4⟩
  have ho4 := ho3.ch hc4 (rdS_ne h ho3 (Nat.le_refl _))
  rw [← hq, rdL5]
  cases hk : tk 38 q
  · rw [hk, if_neg (by decide)] at h4
    rw [if_neg (by decide)]
    exact iCndF rfl ⟨h4, ch_self hc3 hc4, ho4⟩
  · rw [hk, if_pos rfl] at h4
    have hnx := nx_len hk
    rw [if_pos rfl]
    refine iCndT rfl ?_
    refine iCall ((hsub e b t _ w4 ht h4 (by rw [fl3]; omega)).mono ?_)
    rintro v5 w5 ⟨h5, hc5, ho5⟩
    have hz5 := rdL_size 3 .fls (nx q)
    have hl5 := rdL_len 3 .fls (nx q)
    have ho45 := ho4.ch hc5 (rdS_ne h ho4 (Nat.le_refl _))
    have hsz : (Fm.and a (rdL 3 .fls (nx q)).1).size ≤ 1099511627776 := by
      show 1 + _ + _ ≤ _; omega
    refine iCall ((ok_spec_l02Pair (c := .and a (rdL 3 .fls (nx q)).1) (k := 2) rfl rfl ho45.sl ho5.sl hsz).mono ?_)
    rintro v6 w6 ⟨h6, ho6⟩
    have hcc := ch_self hc3 (ch_self hc4 hc5)
    have e1 : rdL 5 (rdL 3 .fls s).1 (rdL 3 .fls s).2 = rdL 5 (.and a (rdL 3 .fls (nx q)).1) (rdL 3 .fls (nx q)).2 := by rw [← hq, rdL5, if_pos hk]
    refine hKn (v6, .and a (rdL 3 .fls (nx q)).1, (rdL 3 .fls (nx q)).2) _ ⟨h5.ext h6, ch_ext hcc h6, ho6.mono hcc.size, e1.symm, by show (rdL 3 .fls (nx q)).2.1.length ≤ _; omega, ?_⟩ (by show (rdL 3 .fls (nx q)).2.1.length < q.1.length; omega)
    show 1 + a.size + (rdL 3 .fls (nx q)).1.size + 3 * (rdL 3 .fls (nx q)).2.1.length ≤ _
    omega
theorem rd_impl_reader_atom {m : Nat} (him : Rds f_impl_reader_imply 0 m) (e : TypeId) (b : Nat) (t : Str) (s : RSt) (w : World) (ht : t.length ≤ 4194304) (h : RdS e b t s w) (hm : 8 * s.1.length + 1 ≤ m + 1) (hn1 : tk 126 s = false) (hn2 : tk 91 s = false) (hn3 : tk 60 s = false) :
    Cal Tryz.prog f_impl_reader_atom #[.pointer (some ⟨b, 0, none⟩)] w (ReadQ e b t t_impl_Node (rdL 3 .fls s) w) := by
  apply c_impl_reader_atom; unfold S_impl_reader_atom
  have htl := h.len
  have key : ∀ {r : Fm × RSt}, (rdL 3 .fls s = r → S_impl_reader_atom (.pointer (some ⟨b, 0, none⟩)) w (ReadQ e b t t_impl_Node r w)) → rdL 3 .fls s = r → S_impl_reader_atom (.pointer (some ⟨b, 0, none⟩)) w (ReadQ e b t t_impl_Node (rdL 3 .fls s) w) := fun h e => by rw [e]; exact h e
  refine iCall ((ok_impl_reader_take 70 (by decide) (by omega) h).mono ?_)
  rintro _ w1 ⟨rfl, h1, hc1⟩
  have two : ∀ {c d : UInt8}, tk c s = true → c ≠ d → tk d s = false := fun a b => tk_two a b
  cases k1 : tk 70 s
  rotate_left
  · rw [k1, if_pos rfl] at h1
    refine iCndT rfl ?_
    have er : rdL 3 .fls s = (.fls, nx s) := rdL3 (Q := fun x => x = _) (fun h => absurd (hn1.symm.trans h) (by decide)) (fun h => absurd (hn2.symm.trans h) (by decide)) (fun h => absurd (hn3.symm.trans h) (by decide)) (fun _ => rfl) (fun h => absurd ((two k1 (by decide)).symm.trans h) (by decide)) (fun h => absurd ((two k1 (by decide)).symm.trans h) (by decide)) (fun v hv h => absurd ((two k1 (vl_other hv (by decide)).symm).symm.trans h) (by decide)) (fun _ _ _ h _ _ _ => absurd (h.symm.trans k1) (by decide))
    rw [er]
    refine iCall ((ok_impl_falsum w1).mono ?_)
    rintro v w2 ⟨h2, ho2⟩
    exact ⟨h1.ext h2, ch_ext hc1 h2, ho2.mono hc1.size⟩
  rw [k1, if_neg (by decide)] at h1
  refine iCndF rfl ?_
  refine iCall ((ok_impl_reader_take 84 (by decide) (by omega) h1).mono ?_)
  rintro _ w3 ⟨rfl, h3, hc3⟩
  have hc13 := ch_self hc1 hc3
  cases k2 : tk 84 s
  rotate_left
  · rw [k2, if_pos rfl] at h3
    refine iCndT rfl ?_
    have er : rdL 3 .fls s = (.imp .fls .fls, nx s) := rdL3 (Q := fun x => x = _) (fun h => absurd (hn1.symm.trans h) (by decide)) (fun h => absurd (hn2.symm.trans h) (by decide)) (fun h => absurd (hn3.symm.trans h) (by decide)) (fun h => absurd (k1.symm.trans h) (by decide)) (fun _ => rfl) (fun h => absurd ((two k2 (by decide)).symm.trans h) (by decide)) (fun v hv h => absurd ((two k2 (vl_other hv (by decide)).symm).symm.trans h) (by decide)) (fun _ _ _ _ h _ _ => absurd (h.symm.trans k2) (by decide))
    rw [er]
    refine iCall ((ok_impl_truth w3).mono ?_)
    rintro v w2 ⟨h2, ho2⟩
    exact ⟨h3.ext h2, ch_ext hc13 h2, ho2.mono hc13.size⟩
  rw [k2, if_neg (by decide)] at h3
  refine iCndF rfl ?_
  refine iCall ((ok_impl_reader_take 40 (by decide) (by omega) h3).mono ?_)
  rintro _ w5 ⟨rfl, h5, hc5⟩
  have hc15 := ch_self hc13 hc5
  cases k3 : tk 40 s
  rotate_left
  · rw [k3, if_pos rfl] at h5
    refine iCndT rfl ?_
    have er : rdL 3 .fls s = ((rdL 0 .fls (nx s)).1, ndd 41 (rdL 0 .fls (nx s)).2) := rdL3 (Q := fun x => x = _) (fun h => absurd (hn1.symm.trans h) (by decide)) (fun h => absurd (hn2.symm.trans h) (by decide)) (fun h => absurd (hn3.symm.trans h) (by decide)) (fun h => absurd (k1.symm.trans h) (by decide)) (fun h => absurd (k2.symm.trans h) (by decide)) (fun _ => rfl) (fun v hv h => absurd ((two k3 (vl_other hv (by decide)).symm).symm.trans h) (by decide)) (fun _ _ _ _ _ h _ => absurd (h.symm.trans k3) (by decide))
    rw [er]
    have hnx := nx_len k3
    refine iCall ((him e b t _ w5 ht h5 (by rw [fl0]; omega)).mono ?_)
    rintro v w6 ⟨h6, hc6, ho6⟩
    refine iCall ((ok_impl_reader_need 41 (by decide) (by omega) h6).mono ?_)
    rintro _ w7 ⟨h7, hc7⟩
    exact ⟨h7, ch_self hc15 (ch_self hc6 hc7), (ho6.ch hc7 (rdS_ne h ho6 hc15.size)).mono hc15.size⟩
  rw [k3, if_neg (by decide)] at h5
  refine iCndF rfl ?_
  have hlet : (.string ⟨#[112, 113, 114, 115, 116, 117]⟩ : Value) = sv [112, 113, 114, 115, 116, 117] := rfl
  rw [hlet]
  refine iRange (by kernel_rfl) fun q w8 hq h8 hI => ?_
  have hqb : q ≠ b := by have := h5.lt; omega
  refine iLp (fun _ : Nat => []) (fun i w' => i ≤ 6 ∧ RdS e b t s w' ∧ Ch (fun x => x = b) w w' ∧ It w' q [112, 113, 114, 115, 116, 117] i ∧ w.heap.size ≤ q ∧ ∀ v, v < i → tk (vl v) s = false) (fun i => 6 - i) 0 rfl ⟨Nat.zero_le _, h5.ext h8, ch_ext hc15 h8, hI, by have := hc15.size; omega, fun v hv => by omega⟩ ?_
  rintro i w10 Kn ⟨hi, h10, hc10, hI10, hwq, hno⟩ hKn
  intro _
  by_cases hi6 : i = 6
  · subst hi6
    refine iNextE hI10 (by decide) ?_
    refine iEx (by rfl) ?_
    refine iCndF rfl ?_
    have er : rdL 3 .fls s = (.fls, (s.1, true)) := rdL3 (Q := fun x => x = _) (fun h => absurd (hn1.symm.trans h) (by decide)) (fun h => absurd (hn2.symm.trans h) (by decide)) (fun h => absurd (hn3.symm.trans h) (by decide)) (fun h => absurd (k1.symm.trans h) (by decide)) (fun h => absurd (k2.symm.trans h) (by decide)) (fun h => absurd (k3.symm.trans h) (by decide)) (fun v hv h => absurd ((hno v hv).symm.trans h) (by decide)) (fun _ _ _ _ _ _ _ => rfl)
    rw [er]
    obtain ⟨k, _, _, hB⟩ := id h10
    ((with_reducible refine iNil ?_; refine iFa ?_))
    refine iStB hB (by simp) rfl fun _ => ?_
    have hu := Upd.setCell w10 b 2 (.bool true)
    refine iCall ((ok_impl_falsum _).mono ?_)
    rintro v w2 ⟨h2, ho2⟩
    have hcu := hc10.trans (hu.ch (S := fun x => x = b) rfl) (fun _ h => .inl h)
    exact ⟨(RdS.bad h10).ext h2, ch_ext hcu h2, ho2.mono hcu.size⟩
  · have hi5 : i < 6 := by omega
    have hgd : (([112, 113, 114, 115, 116, 117] : Str).getD i 0) = vl i := by
      have : i = 0 ∨ i = 1 ∨ i = 2 ∨ i = 3 ∨ i = 4 ∨ i = 5 := by omega
      rcases this with rfl | rfl | rfl | rfl | rfl | rfl <;> rfl
    refine iNextR hI10 (by show i < 6; exact hi5) fun c d w11 _ hlow _ _ hu hI11 => ?_
    rw [hgd, vl_nat i hi5] at hlow
    obtain ⟨rfl, rfl⟩ := hlow (by omega)
    have hcu : Ch (fun x => x = b) w w11 := hc10.trans (hu.ch (S := fun x => x = q) rfl) (fun x hx => .inr (by omega))
    have h11 : RdS e b t s w11 := by
      obtain ⟨k, a1, a2, hB⟩ := h10
      exact ⟨k, a1, a2, hB.upd hu (fun e => hqb e.symm)⟩
    ((with_reducible refine iE30 ?_))
    refine iCndT rfl ?_
    ((with_reducible refine iE31 ?_; refine iE32 ?_))
    refine ⟨_, _, rfl, ?_⟩
    have ew : IntKind.u8.wrap ((112 + i : Nat) : Int) = (((vl i).toNat : Nat) : Int) := by
      rw [vl_nat i hi5]
      have : i = 0 ∨ i = 1 ∨ i = 2 ∨ i = 3 ∨ i = 4 ∨ i = 5 := by omega
      rcases this with rfl | rfl | rfl | rfl | rfl | rfl <;> decide
    refine iCall ((ok_impl_reader_take (vl i) ew (by omega) h11).mono ?_)
    rintro _ w12 ⟨rfl, h12, hc12⟩
    have hcc := ch_self hcu hc12
    cases kv : tk (vl i) s
    · rw [kv, if_neg (by decide)] at h12
      refine iCndF rfl ?_
      refine hKn (i + 1) _ ⟨by omega, h12, hcc, hI11.ch hc12 hqb, hwq, fun v hv => ?_⟩ (by omega)
      by_cases hvi : v = i
      · rw [hvi]; exact kv
      · exact hno v (by omega)
    · rw [kv, if_pos rfl] at h12
      refine iCndT rfl ?_
      have er : rdL 3 .fls s = (.var i, nx s) := rdL3 (Q := fun x => x = _) (fun h => absurd (hn1.symm.trans h) (by decide)) (fun h => absurd (hn2.symm.trans h) (by decide)) (fun h => absurd (hn3.symm.trans h) (by decide)) (fun h => absurd (k1.symm.trans h) (by decide)) (fun h => absurd (k2.symm.trans h) (by decide)) (fun h => absurd (k3.symm.trans h) (by decide)) (fun v hv h => by
        have : vl i = vl v := by
          apply Classical.byContradiction
          intro hne
          exact absurd ((two kv hne).symm.trans h) (by decide)
        rw [vl_inj hi5 hv this]) (fun _ _ _ _ _ _ h => absurd ((h i hi5).symm.trans kv) (by decide))
      rw [er]
      refine iCall ((ok_impl_variable i w12).mono ?_)
      rintro v w2 ⟨h2, ho2⟩
      exact ⟨h12.ext h2, ch_ext hcc h2, ho2.mono hcc.size⟩
theorem rd_impl_reader_prefix {m : Nat} (hpre : Rds f_impl_reader_prefix 3 m) (him : Rds f_impl_reader_imply 0 m) : Rds f_impl_reader_prefix 3 (m + 1) := by
  intro e b t s w ht h hm
  rw [fl3] at hm
  apply c_impl_reader_prefix; unfold S_impl_reader_prefix
  have htl := h.len
  have two : ∀ {c d : UInt8}, tk c s = true → c ≠ d → tk d s = false := fun a b => tk_two a b
  refine iCall ((ok_impl_reader_take 126 (by decide) (by omega) h).mono ?_)
  rintro _ w1 ⟨rfl, h1, hc1⟩
  have hf : Fm.fls.size = 1 := rfl
  cases k1 : tk 126 s
  rotate_left
  · rw [k1, if_pos rfl] at h1
    refine iCndT rfl ?_
    have er : rdL 3 .fls s = (.imp (rdL 3 .fls (nx s)).1 .fls, (rdL 3 .fls (nx s)).2) := rdL3 (Q := fun x => x = _) (fun _ => rfl) (fun h => absurd ((two k1 (by decide)).symm.trans h) (by decide)) (fun h => absurd ((two k1 (by decide)).symm.trans h) (by decide)) (fun h => absurd ((two k1 (by decide)).symm.trans h) (by decide)) (fun h => absurd ((two k1 (by decide)).symm.trans h) (by decide)) (fun h => absurd ((two k1 (by decide)).symm.trans h) (by decide)) (fun v hv h => absurd ((two k1 (vl_other hv (by decide)).symm).symm.trans h) (by decide)) (fun h _ _ _ _ _ _ => absurd (h.symm.trans k1) (by decide))
    rw [er]
    have hnx := nx_len k1
    refine iCall ((hpre e b t _ w1 ht h1 (by rw [fl3]; omega)).mono ?_)
    rintro v w2 ⟨h2, hc2, ho2⟩
    have hz := rdL_size 3 .fls (nx s)
    refine iCall ((ok_impl_negation ho2.sl (by omega)).mono ?_)
    rintro v w3 ⟨h3, ho3⟩
    have hcc := ch_self hc1 hc2
    exact ⟨h2.ext h3, ch_ext hcc h3, ho3.mono hcc.size⟩
  rw [k1, if_neg (by decide)] at h1
  refine iCndF rfl ?_
  refine iCall ((ok_impl_reader_take 91 (by decide) (by omega) h1).mono ?_)
  rintro _ w3 ⟨rfl, h3, hc3⟩
  have hc13 := ch_self hc1 hc3
  cases k2 : tk 91 s
  rotate_left
  · rw [k2, if_pos rfl] at h3
    refine iCndT rfl ?_
    have er : rdL 3 .fls s = (.box (rdL 3 .fls (ndd 93 (nx s))).1, (rdL 3 .fls (ndd 93 (nx s))).2) := rdL3 (Q := fun x => x = _) (fun h => absurd (k1.symm.trans h) (by decide)) (fun _ => rfl) (fun h => absurd ((two k2 (by decide)).symm.trans h) (by decide)) (fun h => absurd ((two k2 (by decide)).symm.trans h) (by decide)) (fun h => absurd ((two k2 (by decide)).symm.trans h) (by decide)) (fun h => absurd ((two k2 (by decide)).symm.trans h) (by decide)) (fun v hv h => absurd ((two k2 (vl_other hv (by decide)).symm).symm.trans h) (by decide)) (fun _ h _ _ _ _ _ => absurd (h.symm.trans k2) (by decide))
    rw [er]
    have hnx := nx_len k2
    have hnd := ndd_len 93 (nx s)
    refine iCall ((ok_impl_reader_need 93 (by decide) (by omega) h3).mono ?_)
    rintro _ w4 ⟨h4, hc4⟩
    refine iCall ((hpre e b t _ w4 ht h4 (by rw [fl3]; omega)).mono ?_)
    rintro v w5 ⟨h5, hc5, ho5⟩
    have hz := rdL_size 3 .fls (ndd 93 (nx s))
    refine iCall ((ok_impl_prefix (c := .box (rdL 3 .fls (ndd 93 (nx s))).1) (k := 5) rfl rfl ho5.sl (by show 1 + _ ≤ _; omega)).mono ?_)
    rintro v w6 ⟨h6, ho6⟩
    have hcc := ch_self hc13 (ch_self hc4 hc5)
    exact ⟨h5.ext h6, ch_ext hcc h6, ho6.mono hcc.size⟩
  rw [k2, if_neg (by decide)] at h3
  refine iCndF rfl ?_
  refine iCall ((ok_impl_reader_take 60 (by decide) (by omega) h3).mono ?_)
  rintro _ w7 ⟨rfl, h7, hc7⟩
  have hc17 := ch_self hc13 hc7
  cases k3 : tk 60 s
  rotate_left
  · rw [k3, if_pos rfl] at h7
    refine iCndT rfl ?_
    have er : rdL 3 .fls s = (.dia (rdL 3 .fls (ndd 62 (nx s))).1, (rdL 3 .fls (ndd 62 (nx s))).2) := rdL3 (Q := fun x => x = _) (fun h => absurd (k1.symm.trans h) (by decide)) (fun h => absurd (k2.symm.trans h) (by decide)) (fun _ => rfl) (fun h => absurd ((two k3 (by decide)).symm.trans h) (by decide)) (fun h => absurd ((two k3 (by decide)).symm.trans h) (by decide)) (fun h => absurd ((two k3 (by decide)).symm.trans h) (by decide)) (fun v hv h => absurd ((two k3 (vl_other hv (by decide)).symm).symm.trans h) (by decide)) (fun _ _ h _ _ _ _ => absurd (h.symm.trans k3) (by decide))
    rw [er]
    have hnx := nx_len k3
    have hnd := ndd_len 62 (nx s)
    refine iCall ((ok_impl_reader_need 62 (by decide) (by omega) h7).mono ?_)
    rintro _ w4 ⟨h4, hc4⟩
    refine iCall ((hpre e b t _ w4 ht h4 (by rw [fl3]; omega)).mono ?_)
    rintro v w5 ⟨h5, hc5, ho5⟩
    have hz := rdL_size 3 .fls (ndd 62 (nx s))
    refine iCall ((ok_impl_prefix (c := .dia (rdL 3 .fls (ndd 62 (nx s))).1) (k := 6) rfl rfl ho5.sl (by show 1 + _ ≤ _; omega)).mono ?_)
    rintro v w6 ⟨h6, ho6⟩
    have hcc := ch_self hc17 (ch_self hc4 hc5)
    exact ⟨h5.ext h6, ch_ext hcc h6, ho6.mono hcc.size⟩
  rw [k3, if_neg (by decide)] at h7
  refine iCndF rfl ?_
  refine iCall ((rd_impl_reader_atom him e b t s w7 ht h7 hm k1 k2 k3).mono ?_)
  rintro v w8 ⟨h8, hc8, ho8⟩
  exact ⟨h8, ch_self hc17 hc8, ho8.mono hc17.size⟩
theorem rd_impl : ∀ m, Rds f_impl_reader_imply 0 m ∧ Rds f_impl_reader_or 1 m ∧ Rds f_impl_reader_and 2 m ∧ Rds f_impl_reader_prefix 3 m
  | 0 => ⟨fun _ _ _ _ _ _ _ h => by rw [fl0] at h; omega, fun _ _ _ _ _ _ _ h => by rw [fl1] at h; omega, fun _ _ _ _ _ _ _ h => by rw [fl2] at h; omega, fun _ _ _ _ _ _ _ h => by rw [fl3] at h; omega⟩
  | m + 1 =>
    have h := rd_impl m
    ⟨rd_impl_reader_imply h.2.1 h.1, rd_impl_reader_or h.2.2.1, rd_impl_reader_and h.2.2.2, rd_impl_reader_prefix h.2.2.2 h.1⟩
theorem ok_impl_reader_imply {e : TypeId} {b : Nat} {t : Str} {s : RSt} {w : World} (ht : t.length ≤ 4194304) (h : RdS e b t s w) : Cal Tryz.prog f_impl_reader_imply #[.pointer (some ⟨b, 0, none⟩)] w (ReadQ e b t t_impl_Node (rdL 0 .fls s) w) :=
  (rd_impl _).1 e b t s w ht h (Nat.le_refl _)
end Go.Proofs.YteifjhpddhppcaaGreat

/- Contracts: the reference's reader of formulas says what the grammar says; ParseFormula. Conditions: none. -/
namespace Go.Vc
/-- A text is the text of some formula; how far it is good. -/
def rdOk (t : Str) : Bool := !(rd t).2.2 && decide ((rd t).2.1 = [])
def rdAt (t : Str) : Nat := t.length - (rd t).2.1.length
theorem rd_rdL (t : Str) : rd t = rdL 0 .fls (t, false) := rfl
theorem rd_len (t : Str) : (rd t).2.1.length ≤ t.length := rdL_len 0 .fls (t, false)
theorem rd_good (t : Str) : (rd t).1.good := prs_good _ _ _ _ trivial
/-- The place of a reader that stands behind what it has read. -/
theorem RdS.place {e : TypeId} {b : Nat} {t : Str} {s : RSt} {w : World} (h : RdS e b t s w) : Blk e w b [sv t, .int .i64 ((t.length - s.1.length : Nat) : Int), .bool s.2] := by
  obtain ⟨k, h1, h2, h3⟩ := h
  have : t.length - s.1.length = k := by rw [h2, List.length_drop]; omega
  rw [this]; exact h3
theorem RdS.new {e : TypeId} {b : Nat} {t : Str} {w : World} (h : Blk e w b [sv t, .int .i64 0, .bool false]) : RdS e b t (t, false) w := ⟨0, Nat.zero_le _, rfl, h⟩
end Go.Vc
namespace Go.Proofs.YteifjhpddhppcaaGreat
open Go.Vc
theorem rd_spec_l02Prefix {m : Nat} (hpre : Rds f_spec_l02Prefix 3 m) (him : Rds f_spec_l02Imply 0 m) : Rds f_spec_l02Prefix 3 (m + 1) := by
  intro e b t s w ht h hm
  rw [fl3] at hm
  apply c_spec_l02Prefix; unfold S_spec_l02Prefix
  have htl := h.len
  have hf : Fm.fls.size = 1 := rfl
  have two : ∀ {c d : UInt8}, tk c s = true → c ≠ d → tk d s = false := fun a b => tk_two a b
  have hlet : (.string ⟨#[112, 113, 114, 115, 116, 117]⟩ : Value) = sv [112, 113, 114, 115, 116, 117] := rfl
  rw [hlet]
  refine iLp (fun i : Nat => [.int .i64 (i : Int)]) (fun i w' => i ≤ 6 ∧ RdS e b t s w' ∧ Ch (fun x => x = b) w w' ∧ ∀ v, v < i → tk (vl v) s = false) (fun i => 6 - i) 0 rfl ⟨Nat.zero_le _, h, (Ext.refl w).ch, fun v hv => by omega⟩ ?_
  rintro i w2 Kn ⟨hi, h2, hc2, hno⟩ hKn
  (intro _; (try simp only [gx]))
  refine iLenT ?_
  refine iLt ?_
  refine iCndP (fun h3 => ?_) (fun h3 => ?_)
  · have hi5 : i < 6 := by simp at h3; omega
    have hgd : (([112, 113, 114, 115, 116, 117] : Str).getD i 0) = vl i := by
      have : i = 0 ∨ i = 1 ∨ i = 2 ∨ i = 3 ∨ i = 4 ∨ i = 5 := by omega
      rcases this with rfl | rfl | rfl | rfl | rfl | rfl <;> rfl
    refine iIs (by show i < 6; exact hi5) ?_
    rw [hgd]
    refine iCall ((ok_spec_l02Take (vl i) rfl (by omega) h2).mono ?_)
    rintro _ w3 ⟨rfl, h4, hc4⟩
    have hcc := ch_self hc2 hc4
    cases kv : tk (vl i) s
    · rw [kv, if_neg (by decide)] at h4
      refine iCndF rfl ?_
      (refine iAdd (by omega) ?_)
      refine hKn (i + 1) _ ⟨by omega, h4, hcc, fun v hv => ?_⟩ (by omega)
      by_cases hvi : v = i
      · rw [hvi]; exact kv
      · exact hno v (by omega)
    · rw [kv, if_pos rfl] at h4
      refine iCndT rfl ?_
      have er : rdL 3 .fls s = (.var i, nx s) := rdL3 (Q := fun x => x = _) (fun h => absurd ((two kv (vl_other hi5 (by decide))).symm.trans h) (by decide)) (fun h => absurd ((two kv (vl_other hi5 (by decide))).symm.trans h) (by decide)) (fun h => absurd ((two kv (vl_other hi5 (by decide))).symm.trans h) (by decide)) (fun h => absurd ((two kv (vl_other hi5 (by decide))).symm.trans h) (by decide)) (fun h => absurd ((two kv (vl_other hi5 (by decide))).symm.trans h) (by decide)) (fun h => absurd ((two kv (vl_other hi5 (by decide))).symm.trans h) (by decide)) (fun v hv h => by
        have : vl i = vl v := by
          apply Classical.byContradiction
          intro hne
          exact absurd ((two kv hne).symm.trans h) (by decide)
        rw [vl_inj hi5 hv this]) (fun _ _ _ _ _ _ h => absurd ((h i hi5).symm.trans kv) (by decide))
      rw [er]
      refine iCall ((ok_spec_l02Var i w3).mono ?_)
      rintro v w4 ⟨h5, ho5⟩
      exact ⟨h4.ext h5, ch_ext hcc h5, ho5.mono hcc.size⟩
  have hi6 : i = 6 := by simp at h3; omega
  subst hi6
  refine iCall ((ok_spec_l02Take 70 (by decide) (by omega) h2).mono ?_)
  rintro _ wa1 ⟨rfl, ha1, ca1⟩
  have cb1 := ch_self hc2 ca1
  cases k1 : tk 70 s
  rotate_left
  · rw [k1, if_pos rfl] at ha1
    refine iCndT rfl ?_
    have er : rdL 3 .fls s = (.fls, nx s) := rdL3 (Q := fun x => x = _) (fun h => absurd ((two k1 (by decide)).symm.trans h) (by decide)) (fun h => absurd ((two k1 (by decide)).symm.trans h) (by decide)) (fun h => absurd ((two k1 (by decide)).symm.trans h) (by decide)) (fun _ => rfl) (fun h => absurd ((two k1 (by decide)).symm.trans h) (by decide)) (fun h => absurd ((two k1 (by decide)).symm.trans h) (by decide)) (fun v hv h => absurd ((hno v hv).symm.trans h) (by decide)) (fun _ _ _ h _ _ _ => absurd (h.symm.trans k1) (by decide))
    rw [er]
    have hnx := nx_len k1
    refine iCall ((ok_spec_l02False wa1).mono ?_)
    rintro v w4 ⟨h5, ho5⟩
    exact ⟨ha1.ext h5, ch_ext cb1 h5, ho5.mono cb1.size⟩
  rw [k1, if_neg (by decide)] at ha1
  refine iCndF rfl ?_
  refine iCall ((ok_spec_l02Take 84 (by decide) (by omega) ha1).mono ?_)
  rintro _ wa2 ⟨rfl, ha2, ca2⟩
  have cb2 := ch_self cb1 ca2
  cases k2 : tk 84 s
  rotate_left
  · rw [k2, if_pos rfl] at ha2
    refine iCndT rfl ?_
    have er : rdL 3 .fls s = (.imp .fls .fls, nx s) := rdL3 (Q := fun x => x = _) (fun h => absurd ((two k2 (by decide)).symm.trans h) (by decide)) (fun h => absurd ((two k2 (by decide)).symm.trans h) (by decide)) (fun h => absurd ((two k2 (by decide)).symm.trans h) (by decide)) (fun h => absurd (k1.symm.trans h) (by decide)) (fun _ => rfl) (fun h => absurd ((two k2 (by decide)).symm.trans h) (by decide)) (fun v hv h => absurd ((hno v hv).symm.trans h) (by decide)) (fun _ _ _ _ h _ _ => absurd (h.symm.trans k2) (by decide))
    rw [er]
    have hnx := nx_len k2
    refine iCall ((ok_spec_l02True wa2).mono ?_)
    rintro v w4 ⟨h5, ho5⟩
    exact ⟨ha2.ext h5, ch_ext cb2 h5, ho5.mono cb2.size⟩
  rw [k2, if_neg (by decide)] at ha2
  refine iCndF rfl ?_
  refine iCall ((ok_spec_l02Take 126 (by decide) (by omega) ha2).mono ?_)
  rintro _ wa3 ⟨rfl, ha3, ca3⟩
  have cb3 := ch_self cb2 ca3
  cases k3 : tk 126 s
  rotate_left
  · rw [k3, if_pos rfl] at ha3
    refine iCndT rfl ?_
    have er : rdL 3 .fls s = (.imp (rdL 3 .fls (nx s)).1 .fls, (rdL 3 .fls (nx s)).2) := rdL3 (Q := fun x => x = _) (fun _ => rfl) (fun h => absurd ((two k3 (by decide)).symm.trans h) (by decide)) (fun h => absurd ((two k3 (by decide)).symm.trans h) (by decide)) (fun h => absurd (k1.symm.trans h) (by decide)) (fun h => absurd (k2.symm.trans h) (by decide)) (fun h => absurd ((two k3 (by decide)).symm.trans h) (by decide)) (fun v hv h => absurd ((hno v hv).symm.trans h) (by decide)) (fun h _ _ _ _ _ _ => absurd (h.symm.trans k3) (by decide))
    rw [er]
    have hnx := nx_len k3
    refine iCall ((hpre e b t _ wa3 ht ha3 (by rw [fl3]; omega)).mono ?_)
    rintro v w5 ⟨h5, hc5, ho5⟩
    have hz := rdL_size 3 .fls (nx s)
    refine iCall ((ok_spec_l02Not ho5.sl (by omega)).mono ?_)
    rintro v w6 ⟨h6, ho6⟩
    have hcc := ch_self cb3 hc5
    exact ⟨h5.ext h6, ch_ext hcc h6, ho6.mono hcc.size⟩
  rw [k3, if_neg (by decide)] at ha3
  refine iCndF rfl ?_
  refine iCall ((ok_spec_l02Take 91 (by decide) (by omega) ha3).mono ?_)
  rintro _ wa4 ⟨rfl, ha4, ca4⟩
  have cb4 := ch_self cb3 ca4
  cases k4 : tk 91 s
  rotate_left
  · rw [k4, if_pos rfl] at ha4
    refine iCndT rfl ?_
    have er : rdL 3 .fls s = (.box (rdL 3 .fls (ndd 93 (nx s))).1, (rdL 3 .fls (ndd 93 (nx s))).2) := rdL3 (Q := fun x => x = _) (fun h => absurd (k3.symm.trans h) (by decide)) (fun _ => rfl) (fun h => absurd ((two k4 (by decide)).symm.trans h) (by decide)) (fun h => absurd (k1.symm.trans h) (by decide)) (fun h => absurd (k2.symm.trans h) (by decide)) (fun h => absurd ((two k4 (by decide)).symm.trans h) (by decide)) (fun v hv h => absurd ((hno v hv).symm.trans h) (by decide)) (fun _ h _ _ _ _ _ => absurd (h.symm.trans k4) (by decide))
    rw [er]
    have hnx := nx_len k4
    have hnd := ndd_len 93 (nx s)
    refine iCall ((ok_spec_l02Need 93 (by decide) (by omega) ha4).mono ?_)
    rintro _ w4 ⟨h4, hc4⟩
    refine iCall ((hpre e b t _ w4 ht h4 (by rw [fl3]; omega)).mono ?_)
    rintro v w5 ⟨h5, hc5, ho5⟩
    have hz := rdL_size 3 .fls (ndd 93 (nx s))
    refine iCall ((ok_spec_l02Pre (c := .box (rdL 3 .fls (ndd 93 (nx s))).1) (k := 5) rfl rfl ho5.sl (by show 1 + _ ≤ _; omega)).mono ?_)
    rintro v w6 ⟨h6, ho6⟩
    have hcc := ch_self cb4 (ch_self hc4 hc5)
    exact ⟨h5.ext h6, ch_ext hcc h6, ho6.mono hcc.size⟩
  rw [k4, if_neg (by decide)] at ha4
  refine iCndF rfl ?_
  refine iCall ((ok_spec_l02Take 60 (by decide) (by omega) ha4).mono ?_)
  rintro _ wa5 ⟨rfl, ha5, ca5⟩
  have cb5 := ch_self cb4 ca5
  cases k5 : tk 60 s
  rotate_left
  · rw [k5, if_pos rfl] at ha5
    refine iCndT rfl ?_
    have er : rdL 3 .fls s = (.dia (rdL 3 .fls (ndd 62 (nx s))).1, (rdL 3 .fls (ndd 62 (nx s))).2) := rdL3 (Q := fun x => x = _) (fun h => absurd (k3.symm.trans h) (by decide)) (fun h => absurd (k4.symm.trans h) (by decide)) (fun _ => rfl) (fun h => absurd (k1.symm.trans h) (by decide)) (fun h => absurd (k2.symm.trans h) (by decide)) (fun h => absurd ((two k5 (by decide)).symm.trans h) (by decide)) (fun v hv h => absurd ((hno v hv).symm.trans h) (by decide)) (fun _ _ h _ _ _ _ => absurd (h.symm.trans k5) (by decide))
    rw [er]
    have hnx := nx_len k5
    have hnd := ndd_len 62 (nx s)
    refine iCall ((ok_spec_l02Need 62 (by decide) (by omega) ha5).mono ?_)
    rintro _ w4 ⟨h4, hc4⟩
    refine iCall ((hpre e b t _ w4 ht h4 (by rw [fl3]; omega)).mono ?_)
    rintro v w5 ⟨h5, hc5, ho5⟩
    have hz := rdL_size 3 .fls (ndd 62 (nx s))
    refine iCall ((ok_spec_l02Pre (c := .dia (rdL 3 .fls (ndd 62 (nx s))).1) (k := 6) rfl rfl ho5.sl (by show 1 + _ ≤ _; omega)).mono ?_)
    rintro v w6 ⟨h6, ho6⟩
    have hcc := ch_self cb5 (ch_self hc4 hc5)
    exact ⟨h5.ext h6, ch_ext hcc h6, ho6.mono hcc.size⟩
  rw [k5, if_neg (by decide)] at ha5
  refine iCndF rfl ?_
  refine iCall ((ok_spec_l02Take 40 (by decide) (by omega) ha5).mono ?_)
  rintro _ wa6 ⟨rfl, ha6, ca6⟩
  have cb6 := ch_self cb5 ca6
  cases k6 : tk 40 s
  rotate_left
  · rw [k6, if_pos rfl] at ha6
    refine iCndT rfl ?_
    have er : rdL 3 .fls s = ((rdL 0 .fls (nx s)).1, ndd 41 (rdL 0 .fls (nx s)).2) := rdL3 (Q := fun x => x = _) (fun h => absurd (k3.symm.trans h) (by decide)) (fun h => absurd (k4.symm.trans h) (by decide)) (fun h => absurd (k5.symm.trans h) (by decide)) (fun h => absurd (k1.symm.trans h) (by decide)) (fun h => absurd (k2.symm.trans h) (by decide)) (fun _ => rfl) (fun v hv h => absurd ((hno v hv).symm.trans h) (by decide)) (fun _ _ _ _ _ h _ => absurd (h.symm.trans k6) (by decide))
    rw [er]
    have hnx := nx_len k6
    refine iCall ((him e b t _ wa6 ht ha6 (by rw [fl0]; omega)).mono ?_)
    rintro v w6 ⟨h6, hc6, ho6⟩
    refine iCall ((ok_spec_l02Need 41 (by decide) (by omega) h6).mono ?_)
    rintro _ w7 ⟨h7, hc7⟩
    exact ⟨h7, ch_self cb6 (ch_self hc6 hc7), (ho6.ch hc7 (rdS_ne h ho6 cb6.size)).mono cb6.size⟩
  rw [k6, if_neg (by decide)] at ha6
  refine iCndF rfl ?_
  have er : rdL 3 .fls s = (.fls, (s.1, true)) := rdL3 (Q := fun x => x = _) (fun h => absurd (k3.symm.trans h) (by decide)) (fun h => absurd (k4.symm.trans h) (by decide)) (fun h => absurd (k5.symm.trans h) (by decide)) (fun h => absurd (k1.symm.trans h) (by decide)) (fun h => absurd (k2.symm.trans h) (by decide)) (fun h => absurd (k6.symm.trans h) (by decide)) (fun v hv h => absurd ((hno v hv).symm.trans h) (by decide)) (fun _ _ _ _ _ _ _ => rfl)
  rw [er]
  obtain ⟨k, _, _, hB⟩ := id ha6
  ((with_reducible refine iNil ?_; refine iFa ?_))
  refine iStB hB (by simp) rfl fun _ => ?_
  have hu := Upd.setCell wa6 b 2 (.bool true)
  refine iCall ((ok_spec_l02False _).mono ?_)
  rintro v w4 ⟨h5, ho5⟩
  have hcu := cb6.trans (hu.ch (S := fun x => x = b) rfl) (fun _ h => .inl h)
  exact ⟨(RdS.bad ha6).ext h5, ch_ext hcu h5, ho5.mono hcu.size⟩
theorem rd_spec : ∀ m, Rds f_spec_l02Imply 0 m ∧ Rds f_spec_l02Or 1 m ∧ Rds f_spec_l02And 2 m ∧ Rds f_spec_l02Prefix 3 m
  | 0 => ⟨fun _ _ _ _ _ _ _ h => by rw [fl0] at h; omega, fun _ _ _ _ _ _ _ h => by rw [fl1] at h; omega, fun _ _ _ _ _ _ _ h => by rw [fl2] at h; omega, fun _ _ _ _ _ _ _ h => by rw [fl3] at h; omega⟩
  | m + 1 =>
    have h := rd_spec m
    ⟨rd_spec_l02Imply h.2.1 h.1, rd_spec_l02Or h.2.2.1, rd_spec_l02And h.2.2.2, rd_spec_l02Prefix h.2.2.2 h.1⟩
theorem ok_spec_l02Imply {e : TypeId} {b : Nat} {t : Str} {s : RSt} {w : World} (ht : t.length ≤ 4194304) (h : RdS e b t s w) : Cal Tryz.prog f_spec_l02Imply #[.pointer (some ⟨b, 0, none⟩)] w (ReadQ e b t t_impl_Node (rdL 0 .fls s) w) :=
  (rd_spec _).1 e b t s w ht h (Nat.le_refl _)
theorem ok_spec_l02Read {t : Str} (ht : t.length ≤ 4194304) (w : World) : Cal Tryz.prog f_spec_l02Read #[sv t] w fun r w' => Ext w w' ∧ ∃ v, r = .tuple #[v, .int .i64 (if rdOk t then -1 else (rdAt t : Int))] ∧ (rdOk t = true → FmW w.heap.size w' v (rd t).1) ∧ (rdOk t = false → v = .slice none 0 0) := by
  apply c_spec_l02Read; unfold S_spec_l02Read
  refine iBuild (cs := #[sv t, .int .i64 0, .bool false]) (by simp [Instr.fill, Value.cells]) ?_
  refine iNew fun b w1 hb h1 hB => ?_
  obtain ⟨e, hB⟩ : ∃ e, Blk e w1 b [sv t, .int .i64 0, .bool false] := ⟨_, hB⟩
  refine iCall ((ok_spec_l02Imply ht (RdS.new hB)).mono ?_)
  rintro v w2 ⟨h2, hc2, ho2⟩
  rw [← rd_rdL] at h2 ho2
  have hX2 : Ext w w2 := h1.thenCh hc2 (fun c hc => by omega)
  have hB2 := h2.place
  have hrl := rd_len t
  have hlt : decide (((t.length - (rd t).2.1.length : Nat) : Int) < (t.length : Nat)) = !decide ((rd t).2.1 = []) := by
    cases hr : (rd t).2.1 with
    | nil => simp
    | cons x l => rw [hr] at hrl; simp only [List.length_cons] at hrl ⊢; rw [decide_eq_true (by omega)]; rfl
  have hor : rdOk t = !((rd t).2.2 || !decide ((rd t).2.1 = [])) := by unfold rdOk; rw [Bool.not_or, Bool.not_not]
  refine iJnB ((rd t).2.2 || !decide ((rd t).2.1 = [])) w2 (fun J hJ => ?_) (fun w4 h4 => ?_)
  · ((with_reducible refine iNil ?_; refine iFa ?_); refine iLdB (by assumption) (by first | rfl | simp) ?_)
    cases hb2 : (rd t).2.2
    · rw [hb2, Bool.false_or] at hJ
      refine iCndF rfl ?_
      ((with_reducible refine iNil ?_; refine iFa ?_); refine iLdB (by assumption) (by first | rfl | simp) ?_)
      refine iLenT ?_
      ((with_reducible refine iLt ?_))
      rw [hlt]
      exact hJ w2 (Ext.refl _)
    · rw [hb2, Bool.true_or] at hJ
      exact iCndT rfl (hJ w2 (Ext.refl _))
  · intro _
    have hB4 := hB2.ext h4
    cases hk : rdOk t
    · refine iCndT (by show ((rd t).2.2 || !decide ((rd t).2.1 = [])) = true; rw [hk] at hor; rwa [Eq.comm, Bool.not_eq_false'] at hor) ?_
      ((with_reducible refine iNil ?_; refine iFa ?_); refine iLdB (by assumption) (by first | rfl | simp) ?_)
      intro w5 h5
      exact ⟨hX2.trans (h4.trans h5), _, rfl, (fun h => by cases h), fun _ => rfl⟩
    · refine iCndF (by show ((rd t).2.2 || !decide ((rd t).2.1 = [])) = false; rw [hk] at hor; rwa [Eq.comm, Bool.not_eq_true'] at hor) ?_
      exact ⟨hX2.trans h4, v, rfl, fun _ => (ho2.mono h1.size).ext h4, fun h => by cases h⟩
end Go.Proofs.YteifjhpddhppcaaGreat

/- Plain maths: names, references in a text, and what is put in their place. No program in sight. Conditions: none. -/
namespace Go.Vc
end Go.Vc

/- The library functions whose contracts lie on the shelf, found in this program. Conditions: none. -/
namespace Go.Proofs.YteifjhpddhppcaaGreat
open Go.Shelf
end Go.Proofs.YteifjhpddhppcaaGreat

/- Contracts: strings.Cut at one byte; strings.Builder; strings.IndexFunc and names. Conditions: none. -/
namespace Go.Vc
open Go.RowKit (Below)
section
variable {P : Program} {w : World}
end
end Go.Vc
namespace Go.Proofs.YteifjhpddhppcaaGreat
open Go.Vc
end Go.Proofs.YteifjhpddhppcaaGreat

/- Contracts: writing to and reading a strings.Builder; the first byte that is no small letter; names. Conditions: none. -/
namespace Go.Vc
open Go.RowKit (Below)
end Go.Vc
namespace Go.Proofs.YteifjhpddhppcaaGreat
open Go.Vc
end Go.Proofs.YteifjhpddhppcaaGreat

/- Contracts: a text's pieces and references in the reference (l36Cut, l36Fill, l36Form). Conditions: none. -/
namespace Go.Vc
/-! ### Rows of strings -/
def strs (L : List Str) : List Value := L.map sv
theorem strs_len (L : List Str) : (strs L).length = L.length := List.length_map _
theorem strs_snoc (L : List Str) (s : Str) : strs L ++ [sv s] = strs (L ++ [s]) := by simp [strs]
abbrev SlT (w : World) (v : Value) (L : List Str) : Prop := Sl w v (strs L)
theorem iIaT {w : World} {v : Value} {L : List Str} {j : Nat} {k : IntKind} {K : Value → Prop} (hs : SlT w v L) (hj : j < L.length) (h : ∀ p, w.cell? p = some (sv L[j]) → K (.pointer (some p))) : xIa 1 v (.int k (j : Int)) K := by
  refine iIa hs (by omega) (by rw [strs_len]; omega) fun p hp => h p (hp.trans ?_)
  rw [Int.toNat_natCast]
  simp [strs, hj]
theorem iLenStr {w : World} {v : Value} {L : List Str} {K : Value → Prop} (hs : SlT w v L) (h : K (.int .i64 (L.length : Nat))) : xLenS v K := iLenS hs (by rw [strs_len]; exact h)
theorem strs_cell (L : List Str) : ∀ u ∈ strs L, isCell u = true := by
  intro u hu
  obtain ⟨s, _, rfl⟩ := List.mem_map.1 hu
  rfl
end Go.Vc
namespace Go.Proofs.YteifjhpddhppcaaGreat
open Go.Vc
end Go.Proofs.YteifjhpddhppcaaGreat

/- Contracts: a text with its references replaced, in the program (replaced, isExpression, references$1). Conditions: none. -/
namespace Go.Vc
open Go.RowKit (Below)
end Go.Vc
namespace Go.Proofs.YteifjhpddhppcaaGreat
open Go.Vc
end Go.Proofs.YteifjhpddhppcaaGreat

/- Plain facts on sorting in place: swaps in a part of a list, insertion, heaps, partitions. No program in sight. Conditions: none. -/
namespace Go.Vc
universe u
section
variable {α : Type u} [Inhabited α]
/-- The k-th element. -/
def gt (L : List α) (k : Nat) : α := L.getD k default
theorem gt_eq {L : List α} {k : Nat} (h : k < L.length) : gt L k = L[k] := by unfold gt; simp [List.getD_eq_getElem?_getD, h]
theorem gt_set {L : List α} {i : Nat} (x : α) (hi : i < L.length) (k : Nat) : gt (L.set i x) k = if k = i then x else gt L k := by
  unfold gt
  simp only [List.getD_eq_getElem?_getD, List.getElem?_set]
  by_cases h : i = k
  · subst h; simp [hi]
  · simp [h, Ne.symm h]
def sw (L : List α) (i j : Nat) : List α := (L.set i (gt L j)).set j (gt L i)
theorem sw_len (L : List α) (i j : Nat) : (sw L i j).length = L.length := by simp [sw]
theorem gt_sw {L : List α} {i j : Nat} (hi : i < L.length) (hj : j < L.length) (k : Nat) : gt (sw L i j) k = if k = j then gt L i else if k = i then gt L j else gt L k := by
  unfold sw
  rw [gt_set _ (by simpa using hj), gt_set _ hi]
theorem sw_perm {L : List α} {i j : Nat} (hi : i < L.length) (hj : j < L.length) : List.Perm (sw L i j) L := by
  unfold sw
  rw [gt_eq hi, gt_eq hj]
  exact List.set_set_perm hi hj
/-- Swaps of places from a to below b. -/
inductive SwR (a b : Nat) (L : List α) : List α → Prop
  | refl : SwR a b L L
  | step {L' : List α} {i j : Nat} : SwR a b L L' → a ≤ i → i < b → a ≤ j → j < b → b ≤ L.length → SwR a b L (sw L' i j)
theorem SwR.len {a b : Nat} {L L' : List α} (h : SwR a b L L') : L'.length = L.length := by
  induction h with
  | refl => rfl
  | step _ _ _ _ _ _ ih => rw [sw_len, ih]
theorem SwR.perm {a b : Nat} {L L' : List α} (h : SwR a b L L') : List.Perm L' L := by
  induction h with
  | refl => exact List.Perm.refl _
  | step hs _ _ _ _ _ ih => exact (sw_perm (by rw [hs.len]; omega) (by rw [hs.len]; omega)).trans ih
theorem SwR.trans {a b : Nat} {L L' L'' : List α} (h : SwR a b L L') (k : SwR a b L' L'') : SwR a b L L'' := by
  induction k with
  | refl => exact h
  | step _ h1 h2 h3 h4 h5 ih => exact .step ih h1 h2 h3 h4 (by rw [← h.len]; exact h5)
theorem SwR.mono {a b a' b' : Nat} {L L' : List α} (h : SwR a b L L') (ha : a' ≤ a) (hb : b ≤ b') (hl : b' ≤ L.length) : SwR a' b' L L' := by
  induction h with
  | refl => exact .refl
  | step _ h1 h2 h3 h4 _ ih => exact .step ih (by omega) (by omega) (by omega) (by omega) hl
theorem SwR.out {a b : Nat} {L L' : List α} (h : SwR a b L L') {k : Nat} (hk : k < a ∨ b ≤ k) : gt L' k = gt L k := by
  induction h with
  | refl => rfl
  | step hs h1 h2 h3 h4 h5 ih => rw [gt_sw (by rw [hs.len]; omega) (by rw [hs.len]; omega), if_neg (by omega), if_neg (by omega), ih]
theorem SwR.all {a b : Nat} {L L' : List α} (h : SwR a b L L') {p : α → Prop} (hp : ∀ k, a ≤ k → k < b → p (gt L k)) : ∀ k, a ≤ k → k < b → p (gt L' k) := by
  induction h with
  | refl => exact hp
  | step hs h1 h2 h3 h4 h5 ih =>
    intro k hk hk'
    rw [gt_sw (by rw [hs.len]; omega) (by rw [hs.len]; omega)]
    split
    · exact ih _ h1 h2
    · split
      · exact ih _ h3 h4
      · exact ih _ hk hk'
theorem SwR.one {a b i j : Nat} {L : List α} (h1 : a ≤ i) (h2 : i < b) (h3 : a ≤ j) (h4 : j < b) (h5 : b ≤ L.length) : SwR a b L (sw L i j) := .step .refl h1 h2 h3 h4 h5
/-- A total order that need not tell all apart, by 'less'. -/
structure Ordr (lt : α → α → Bool) : Prop where
  asym : ∀ {a b}, lt a b = true → lt b a = false
  tr : ∀ {a b c}, lt b a = false → lt c b = false → lt c a = false
variable {lt : α → α → Bool}
 omit [Inhabited α] in
theorem Ordr.rfl (O : Ordr lt) (a : α) : lt a a = false := by
   cases h : lt a a
   · exact Eq.refl _
   · have := O.asym h; rw [h] at this; exact this
 omit [Inhabited α] in
theorem Ordr.lt_le (O : Ordr lt) {a b c : α} (h : lt a b = true) (k : lt c b = false) : lt a c = true := by
   cases h' : lt a c
   · have := O.tr (a := b) (b := c) (c := a) k h'; rw [h] at this; cases this
   · exact Eq.refl _
 omit [Inhabited α] in
/-- In order from a to below b. -/
def Srt (lt : α → α → Bool) (a b : Nat) (L : List α) : Prop := ∀ p q, a ≤ p → p < q → q < b → lt (gt L q) (gt L p) = false
theorem Srt.mono {a b a' b' : Nat} {L : List α} (h : Srt lt a b L) (ha : a ≤ a') (hb : b' ≤ b) : Srt lt a' b' L := fun p q h1 h2 h3 => h p q (by omega) h2 (by omega)
theorem Srt.short {a b : Nat} {L : List α} (h : b ≤ a + 1) : Srt lt a b L := fun p q h1 h2 h3 => by omega
theorem Srt.out {a b c d : Nat} {L L' : List α} (h : Srt lt a b L) (hs : SwR c d L L') (hd : d ≤ a ∨ b ≤ c) : Srt lt a b L' := fun p q h1 h2 h3 => by
  rw [hs.out (by omega), hs.out (by omega)]; exact h p q h1 h2 h3
/-! ### Insertion -/
/-- In order but for the pairs whose upper place is j. -/
def Ins (lt : α → α → Bool) (a i j : Nat) (L : List α) : Prop := ∀ p q, a ≤ p → p < q → q ≤ i → q ≠ j → lt (gt L q) (gt L p) = false
theorem Ins.init {a i : Nat} {L : List α} (h : Srt lt a i L) : Ins lt a i i L := fun p q h1 h2 h3 h4 => h p q h1 h2 (by omega)
theorem Ins.done (O : Ordr lt) {a i j : Nat} {L : List α} (h : Ins lt a i j L) (hj : j ≤ a ∨ (a < j ∧ lt (gt L j) (gt L (j - 1)) = false)) (hji : j ≤ i) : Srt lt a (i + 1) L := fun p q h1 h2 h3 => by
  by_cases hq : q = j
  · subst hq
    rcases hj with hj | ⟨h4, h5⟩
    · omega
    · by_cases hp : p = q - 1
      · subst hp; exact h5
      · exact O.tr (h p (q - 1) h1 (by omega) (by omega) (by omega)) h5
  · exact h p q h1 h2 (by omega) hq
theorem Ins.swap (O : Ordr lt) {a i j : Nat} {L : List α} (h : Ins lt a i j L) (haj : a < j) (hji : j ≤ i) (hi : i < L.length) (hlt : lt (gt L j) (gt L (j - 1)) = true) : Ins lt a i (j - 1) (sw L j (j - 1)) := fun p q h1 h2 h3 h4 => by
  rw [gt_sw (by omega) (by omega), gt_sw (by omega) (by omega)]
  rw [if_neg h4]
  by_cases hq : q = j
  · subst hq
    rw [if_pos rfl]
    by_cases hp : p = q - 1
    · rw [if_pos hp]; exact O.asym hlt
    · rw [if_neg hp, if_neg (by omega)]; exact h p (q - 1) h1 (by omega) (by omega) (by omega)
  · rw [if_neg hq]
    by_cases hp : p = j - 1
    · rw [if_pos hp]; exact h j q (by omega) (by omega) h3 hq
    · rw [if_neg hp]
      by_cases hp2 : p = j
      · rw [if_pos hp2]; exact h (j - 1) q (by omega) (by omega) h3 hq
      · rw [if_neg hp2]; exact h p q h1 h2 h3 hq
/-! ### Heaps -/
/-- From the place 'first' on, 'hi' many: no child of a place from lo on, other than r, is more than it. -/
def Heap (lt : α → α → Bool) (first lo hi : Nat) (L : List α) : Prop := ∀ p c, lo ≤ p → (c = 2 * p + 1 ∨ c = 2 * p + 2) → c < hi → lt (gt L (first + p)) (gt L (first + c)) = false
/-- The same but for the root r, whose children are no more than its parent. -/
def Sift (lt : α → α → Bool) (first lo hi r : Nat) (L : List α) : Prop :=
  (∀ p c, lo ≤ p → p ≠ r → (c = 2 * p + 1 ∨ c = 2 * p + 2) → c < hi → lt (gt L (first + p)) (gt L (first + c)) = false) ∧
  (∀ p c, lo ≤ p → (r = 2 * p + 1 ∨ r = 2 * p + 2) → (c = 2 * r + 1 ∨ c = 2 * r + 2) → c < hi → lt (gt L (first + p)) (gt L (first + c)) = false)
theorem Sift.init {first lo hi : Nat} {L : List α} (h : Heap lt first (lo + 1) hi L) : Sift lt first lo hi lo L :=
  ⟨fun p c h1 h2 h3 h4 => h p c (by omega) h3 h4, fun p c h1 h2 h3 h4 => by omega⟩
theorem Sift.done {first lo hi r : Nat} {L : List α} (h : Sift lt first lo hi r L) (hr : ∀ c, (c = 2 * r + 1 ∨ c = 2 * r + 2) → c < hi → lt (gt L (first + r)) (gt L (first + c)) = false) : Heap lt first lo hi L := fun p c h1 h2 h3 => by
  by_cases hp : p = r
  · subst hp; exact hr c h2 h3
  · exact h.1 p c h1 hp h2 h3
theorem Sift.swap (O : Ordr lt) {first lo hi r c : Nat} {L : List α} (h : Sift lt first lo hi r L) (hlo : lo ≤ r) (hc : c = 2 * r + 1 ∨ c = 2 * r + 2) (hch : c < hi) (hl : first + hi ≤ L.length)
    (hlt : lt (gt L (first + r)) (gt L (first + c)) = true) (hmax : ∀ d, (d = 2 * r + 1 ∨ d = 2 * r + 2) → d < hi → lt (gt L (first + c)) (gt L (first + d)) = false) :
    Sift lt first lo hi c (sw L (first + r) (first + c)) := by
  have e : ∀ k, k < hi → gt (sw L (first + r) (first + c)) (first + k) = if k = c then gt L (first + r) else if k = r then gt L (first + c) else gt L (first + k) := fun k hk => by
    rw [gt_sw (by omega) (by omega)]
    simp only [Nat.add_left_cancel_iff]
  constructor
  · intro p d h1 h2 h3 h4
    rw [e p (by omega), e d h4, if_neg h2]
    by_cases hp : p = r
    · subst hp
      rw [if_pos rfl]
      by_cases hd : d = c
      · rw [if_pos hd]; exact O.asym hlt
      · rw [if_neg hd, if_neg (by omega)]; exact hmax d h3 h4
    · rw [if_neg hp]
      have hdc : d ≠ c := by omega
      rw [if_neg hdc]
      by_cases hd : d = r
      · rw [if_pos hd]; subst hd; exact h.2 p c h1 h3 hc hch
      · rw [if_neg hd]; exact h.1 p d h1 hp h3 h4
  · intro p d h1 h2 h3 h4
    have hp : p = r := by omega
    subst hp
    rw [e p (by omega), e d h4, if_neg (by omega), if_pos rfl, if_neg (by omega), if_neg (by omega)]
    exact h.1 c d (by omega) (by omega) h3 h4
theorem Heap.top (O : Ordr lt) {first hi : Nat} {L : List α} (h : Heap lt first 0 hi L) : ∀ k, k < hi → lt (gt L first) (gt L (first + k)) = false := by
  intro k
  induction k using Nat.strongRecOn with
  | ind k ih =>
    intro hk
    by_cases h0 : k = 0
    · subst h0; exact O.rfl _
    · exact O.tr (h ((k - 1) / 2) k (Nat.zero_le _) (by omega) hk) (ih ((k - 1) / 2) (by omega) (by omega))
/-! ### Windows -/
/-- All pairs but those inside the window are in order. -/
def Crs (lt : α → α → Bool) (a0 b0 a b : Nat) (L : List α) : Prop := ∀ p q, a0 ≤ p → p < q → q < b0 → ¬ (a ≤ p ∧ q < b) → lt (gt L q) (gt L p) = false
/-- Nothing in the window is less than what lies before it. -/
def Blw (lt : α → α → Bool) (a b : Nat) (L : List α) : Prop := ∀ k, a ≤ k → k < b → 1 ≤ a → lt (gt L k) (gt L (a - 1)) = false
theorem Crs.all {a b : Nat} {L : List α} : Crs lt a b a b L := fun _ _ h1 _ h3 h4 => (h4 ⟨h1, h3⟩).elim
theorem Crs.keep {a0 b0 a b : Nat} {L L' : List α} (h : Crs lt a0 b0 a b L) (hs : SwR a b L L') (ha : a0 ≤ a) (hb : b ≤ b0) : Crs lt a0 b0 a b L' := fun p q h1 h2 h3 h4 => by
  by_cases hp : a ≤ p ∧ p < b
  · rw [hs.out (k := q) (by omega)]
    exact hs.all (p := fun x => lt (gt L q) x = false) (fun k hk hk' => h k q (by omega) (by omega) h3 (by omega)) p hp.1 hp.2
  · rw [hs.out (k := p) (by omega)]
    by_cases hq : a ≤ q ∧ q < b
    · exact hs.all (p := fun x => lt x (gt L p) = false) (fun k hk hk' => h p k h1 (by omega) (by omega) (by omega)) q hq.1 hq.2
    · rw [hs.out (k := q) (by omega)]; exact h p q h1 h2 h3 h4
theorem Crs.done {a0 b0 a b : Nat} {L L' : List α} (h : Crs lt a0 b0 a b L) (hs : SwR a b L L') (ha : a0 ≤ a) (hb : b ≤ b0) (k : Srt lt a b L') : Srt lt a0 b0 L' := fun p q h1 h2 h3 => by
  by_cases hw : a ≤ p ∧ q < b
  · exact k p q hw.1 h2 hw.2
  · exact h.keep hs ha hb p q h1 h2 h3 hw
theorem Blw.keep {a b a' b' : Nat} {L L' : List α} (h : Blw lt a b L) (hs : SwR a' b' L L') (ha : a ≤ a') (hb : b' ≤ b) : Blw lt a b L' := fun k h1 h2 h3 => by
  rw [hs.out (k := a - 1) (by omega)]
  by_cases hk : a' ≤ k ∧ k < b'
  · exact hs.all (p := fun x => lt x (gt L (a - 1)) = false) (fun k hk hk' => h k (by omega) (by omega) h3) k hk.1 hk.2
  · rw [hs.out (k := k) (by omega)]; exact h k h1 h2 h3
theorem Blw.low {a b m : Nat} {L : List α} (h : Blw lt a b L) (hm : m ≤ b) : Blw lt a m L := fun k h1 h2 h3 => h k h1 (by omega) h3
/-- At m, what lies below is less, and what lies above is not. -/
def Parted (lt : α → α → Bool) (a b m : Nat) (L : List α) : Prop := (∀ k, a ≤ k → k < m → lt (gt L k) (gt L m) = true) ∧ ∀ k, m < k → k < b → lt (gt L k) (gt L m) = false
theorem Parted.lowS {a b m : Nat} {L L' : List α} (h : Parted lt a b m L) (hs : SwR a m L L') : Parted lt a b m L' :=
  ⟨fun k h1 h2 => by rw [hs.out (k := m) (by omega)]; exact hs.all (p := fun x => lt x (gt L m) = true) h.1 k h1 h2,
   fun k h1 h2 => by rw [hs.out (k := m) (by omega), hs.out (k := k) (by omega)]; exact h.2 k h1 h2⟩
theorem Parted.highS {a b m : Nat} {L L' : List α} (h : Parted lt a b m L) (hs : SwR (m + 1) b L L') : Parted lt a b m L' :=
  ⟨fun k h1 h2 => by rw [hs.out (k := m) (by omega), hs.out (k := k) (by omega)]; exact h.1 k h1 h2,
   fun k h1 h2 => by rw [hs.out (k := m) (by omega)]; exact hs.all (p := fun x => lt x (gt L m) = false) (fun k h1 h2 => h.2 k (by omega) h2) k (by omega) h2⟩
theorem Parted.blw {a b m : Nat} {L : List α} (h : Parted lt a b m L) : Blw lt (m + 1) b L := fun k h1 h2 _ => h.2 k (by omega) h2
theorem Parted.up (O : Ordr lt) {a0 b0 a b m : Nat} {L : List α} (h : Parted lt a b m L) (hc : Crs lt a0 b0 a b L) (hs : Srt lt a m L) : Crs lt a0 b0 (m + 1) b L := fun p q h1 h2 h3 h4 => by
  by_cases hw : a ≤ p ∧ q < b
  · rcases Nat.lt_trichotomy q m with hq | hq | hq
    · exact hs p q hw.1 h2 hq
    · subst hq; exact O.asym (h.1 p hw.1 h2)
    · rcases Nat.lt_trichotomy p m with hp | hp | hp
      · exact O.tr (O.asym (h.1 p hw.1 hp)) (h.2 q hq hw.2)
      · subst hp; exact h.2 q hq hw.2
      · omega
  · exact hc p q h1 h2 h3 hw
theorem Parted.down (O : Ordr lt) {a0 b0 a b m : Nat} {L : List α} (h : Parted lt a b m L) (hc : Crs lt a0 b0 a b L) (hs : Srt lt (m + 1) b L) : Crs lt a0 b0 a m L := fun p q h1 h2 h3 h4 => by
  by_cases hw : a ≤ p ∧ q < b
  · rcases Nat.lt_trichotomy p m with hp | hp | hp
    · rcases Nat.lt_trichotomy q m with hq | hq | hq
      · omega
      · subst hq; exact O.asym (h.1 p hw.1 h2)
      · exact O.tr (O.asym (h.1 p hw.1 hp)) (h.2 q hq hw.2)
    · subst hp; exact h.2 q h2 hw.2
    · exact hs p q hp h2 hw.2
  · exact hc p q h1 h2 h3 hw
/-- Below m all are at most x, and from m on more; x is the least. -/
theorem equal_up (O : Ordr lt) {a0 b0 a b m : Nat} {L : List α} {x : α} (hc : Crs lt a0 b0 a b L) (hx : ∀ k, a ≤ k → k < b → lt (gt L k) x = false) (h1 : ∀ k, a ≤ k → k < m → lt x (gt L k) = false) (_ : m ≤ b) : Crs lt a0 b0 m b L := fun p q g1 g2 g3 g4 => by
  by_cases hw : a ≤ p ∧ q < b
  · exact O.tr (h1 p hw.1 (by omega)) (hx q (by omega) hw.2)
  · exact hc p q g1 g2 g3 hw
theorem equal_blw (O : Ordr lt) {a b m : Nat} {L : List α} {x : α} (hx : ∀ k, a ≤ k → k < b → lt (gt L k) x = false) (h1 : ∀ k, a ≤ k → k < m → lt x (gt L k) = false) (ham : a < m) : Blw lt m b L := fun k g1 g2 _ =>
  O.tr (h1 (m - 1) (by omega) (by omega)) (hx k (by omega) g2)
/-- A list in order. -/
theorem Srt.pairwise {L : List α} (h : Srt lt 0 L.length L) : L.Pairwise fun x y => lt y x = false := by
  rw [List.pairwise_iff_getElem]
  intro i j hi hj hij
  rw [← gt_eq hi, ← gt_eq hj]
  exact h i j (Nat.zero_le _) hij hj
theorem ordrS : Ordr ltS := ⟨ltS_asymm, fun {a b c} h k => by
  cases h' : ltS c a
  · rfl
  · rcases ltS_total b c with e | e | e
    · have := ltS_trans e h'; rw [h] at this; cases this
    · subst e; rw [h] at h'; cases h'
    · rw [k] at e; cases e⟩
end
end Go.Vc

/- Memory: a slice of the call's own that it turns in place; parts of it. No function in sight. Conditions: none. -/
namespace Go.Vc
section
universe u
variable {α : Type u} {enc : α → Value} {P : Program}
/-- The call's own slice v holds L', and nothing else has turned. -/
structure Turn (lo : Nat) (e : TypeId) (enc : α → Value) (v : Value) (w w' : World) (L' : List α) : Prop where
  ow : Ow lo e w' v (L'.map enc)
  ch : Ch (fun c => v.ownBlock = some c) w w'
theorem Turn.refl {lo : Nat} {e : TypeId} {v : Value} {w : World} {L : List α} (h : Ow lo e w v (L.map enc)) : Turn lo e enc v w w L := ⟨h, (Ext.refl w).ch⟩
theorem Turn.ext {lo : Nat} {e : TypeId} {v : Value} {w w' w'' : World} {L : List α} (h : Turn lo e enc v w w' L) (k : Ext w' w'') : Turn lo e enc v w w'' L :=
  ⟨h.ow.ext k, h.ch.trans (k.ch (S := fun _ => False)) fun _ e => e.elim⟩
theorem Turn.trans {lo : Nat} {e : TypeId} {v : Value} {w w' w'' : World} {L L' : List α} (h : Turn lo e enc v w w' L) (k : Turn lo e enc v w' w'' L') : Turn lo e enc v w w'' L' :=
  ⟨k.ow, h.ch.trans k.ch fun _ e => .inl e⟩
theorem iRdO [Inhabited α] {lo : Nat} {e : TypeId} {w : World} {v : Value} {L : List α} {z : Int} {j : Nat} {k : IntKind} {K : Value → Prop} (hs : Ow lo e w v (L.map enc)) (hz : z = (j : Int)) (hj : j < L.length) (h : K (enc (gt L j))) : xIa 1 v (.int k z) fun p => xLd w p K := by
  subst hz
  refine iIaOw hs (by omega) (by rw [List.length_map]; omega) fun b o _ _ _ hc _ _ => iLd (hc.trans ?_) h
  rw [Int.toNat_natCast, gt_eq hj]
  simp [hj]
theorem iWr2 {lo : Nat} {e : TypeId} {w : World} {v : Value} {L : List α} {z z' : Int} {i j : Nat} {k k' : IntKind} {x y : α} {K : World → Prop} (hE : ∀ x, isCell (enc x) = true) (hs : Ow lo e w v (L.map enc)) (hz : z = (i : Int)) (hz' : z' = (j : Int)) (hi : i < L.length) (hj : j < L.length)
    (h : ∀ w', Turn lo e enc v w w' ((L.set i x).set j y) → K w') :
    xIa 1 v (.int k z) fun p => ∀ w1, Ext w w1 → xSt w1 p (enc x) fun w2 => xIa 1 v (.int k' z') fun q => ∀ w3, Ext w2 w3 → xSt w3 q (enc y) fun w4 => ∀ w5, Ext w4 w5 → K w5 := by
  subst hz
  subst hz'
  refine iIaOwE hs (by rw [List.length_map]; exact hi) fun b hb H => ?_
  intro w1 h1
  obtain ⟨hc, hf, hset⟩ := H w1 _ rfl (hs.ext h1)
  refine iSt (hc.trans (List.getElem?_eq_getElem (by rw [List.length_map]; exact hi))) hf (hE x) ?_
  have hs2 := hset (enc x)
  have hc2 : Ch (fun c => v.ownBlock = some c) w (w1.setCell ⟨b, i, none⟩ (enc x)) := (h1.ch (S := fun c => v.ownBlock = some c)).trans ((Upd.setCell w1 b i _).ch (S := fun c => v.ownBlock = some c) hb) fun _ e => .inl e
  refine iIaOwE hs2 (by rw [List.length_set, List.length_map]; exact hj) fun b' hb' H' => ?_
  intro w3 h3
  obtain ⟨hc3, hf3, hset3⟩ := H' w3 _ rfl (hs2.ext h3)
  refine iSt (hc3.trans (List.getElem?_eq_getElem (by rw [List.length_set, List.length_map]; exact hj))) hf3 (hE y) ?_
  intro w5 h5
  refine h w5 (Turn.ext ⟨?_, ?_⟩ h5)
  · have := hset3 (enc y)
    rwa [← List.map_set, ← List.map_set] at this
  · exact (hc2.trans (h3.ch (S := fun c => v.ownBlock = some c)) fun _ e => .inl e).trans ((Upd.setCell w3 b' j _).ch (S := fun c => v.ownBlock = some c) hb') fun _ e => .inl e
end
section
variable {P : Program} {w : World} {lo : Nat} {e : TypeId}
theorem Ow.open {v : Value} {xs : List Value} (hs : Ow lo e w v xs) (hne : xs ≠ []) : ∃ g cap, v = .slice (some ⟨g, 0, none⟩) xs.length cap ∧ xs.length ≤ cap ∧ cap ≤ 9223372036854775807 := by
  obtain ⟨_, ⟨_, h0⟩ | ⟨g, cap, cur, hv, _, _, h1, h2, _⟩⟩ := hs
  · exact absurd (List.length_eq_zero_iff.1 h0) hne
  · exact ⟨g, cap, hv, h1, h2⟩
theorem Ow.at {g n cap : Nat} {xs : List Value} (hs : Ow lo e w (.slice (some ⟨g, 0, none⟩) n cap) xs) (hn : xs.length = n) {j : Nat} (hj : j < n) : w.cell? ⟨g, j, none⟩ = xs[j]? := by
  have h : w.ownsRow lo e 1 (.slice (some ⟨g, 0, none⟩) n cap) n xs := by unfold Ow at hs; rw [hn] at hs; exact hs
  exact h.cellAt j (by omega)
theorem iSlTail {g n cap k : Nat} {ki : IntKind} {K : Value → Prop} (hk : k < n) (hc : n ≤ cap) (h : K (.slice (some ⟨g, k, none⟩) (n - k) (cap - k))) : xSl 1 (.slice (some ⟨g, 0, none⟩) n cap) (some (.int ki (k : Int))) none K := by
  refine ⟨_, _, _, k, n, rfl, rfl, ⟨ki, rfl⟩, by omega, hc, ?_⟩
  rw [if_neg (by omega), Option.map_some, addr_add, Nat.zero_add, Nat.mul_one]
  exact h
theorem iSlHead {g n cap k : Nat} {ki : IntKind} {K : Value → Prop} (hk : k ≤ n) (hc : n ≤ cap) (h : K (.slice (some ⟨g, 0, none⟩) k cap)) : xSl 1 (.slice (some ⟨g, 0, none⟩) n cap) none (some (.int ki (k : Int))) K := by
  refine ⟨_, _, _, 0, k, rfl, ⟨ki, rfl⟩, rfl, Nat.zero_le _, by omega, ?_⟩
  have e : (if cap = 0 then some (⟨g, 0, none⟩ : Addr) else (some (⟨g, 0, none⟩ : Addr)).map (·.add (0 * 1))) = some ⟨g, 0, none⟩ := by
    split
    · rfl
    · simp [Addr.add]
  rw [e, Nat.sub_zero, Nat.sub_zero]
  exact h
theorem iClr {t ty : TypeId} {z : Value} {bytes g n cap k : Nat} {xs : List Value} {K : Value → World → Prop} (ht : P.underlying t = some (.slice e)) (hi : (P.info? e).map (fun i => (i.zero, i.size, i.bytes)) = some (some z, 1, bytes)) (hz : isCell z = true)
    (hs : Ow lo e w (.slice (some ⟨g, 0, none⟩) n cap) xs) (hn : xs.length = n) (hk : k < n) (h : ∀ w', Ow lo e w' (.slice (some ⟨g, 0, none⟩) k cap) (xs.take k) → Ch (fun c => c = g) w w' → K (.tuple #[]) w') :
    xOp P (Builtin.clear_ #[t] ty #[.slice (some ⟨g, k, none⟩) (n - k) (cap - k)]) w K := by
  obtain ⟨i, hi, h3⟩ := Option.map_eq_some_iff.1 hi
  simp only [Prod.mk.injEq] at h3
  obtain ⟨hz0, -, -⟩ := h3
  obtain ⟨-, ⟨hv, -⟩ | ⟨g', cap', cur, hv, hg, hh, h1, h2, h3, h4⟩⟩ := hs
  · cases hv
  · injection hv with e1 e2 e3
    injection e1 with e1
    injection e1 with e1
    subst e1
    subst e3
    rw [hn] at h1 h4
    rw [Nat.mul_one] at h3 h4
    have hzc : (Builtin.zeroCells z.cells (n - k)).toList = List.replicate (n - k) z := by
      rw [isCell_cells hz]
      simp [Builtin.zeroCells]
      apply List.ext_getElem
      · simp
      · intro i h1 h2
        simp [Nat.mod_one]
    have hrun := run_storeCells_at P g k e (List.replicate (n - k) z) 0 cur w hh (by rw [List.length_replicate]; omega) (fun v hv => isCell_one (by rw [List.eq_of_mem_replicate hv]; exact hz))
    refine ⟨_, _, ?_, h (w.setRow g (cur.toList.take (k + 0) ++ List.replicate (n - k) z ++ cur.toList.drop (k + 0 + (List.replicate (n - k) z).length)).toArray) ?_ ?_⟩
    · obtain ⟨m, hm⟩ : ∃ m, n - k = m + 1 := ⟨n - k - 1, by omega⟩
      rw [hm] at hrun hzc ⊢
      simp [Builtin.clear_, run_underlying ht, zeroValue, run_info hi, hz0, hzc, hrun]
    · refine ⟨by simp, .inr ⟨g, cap, _, ?_, hg, setRow_heap w g cur _ e (0, 0) hh, by rw [List.length_take]; omega, h2, ?_, ?_⟩⟩
      · rw [List.length_take, hn, Nat.min_eq_left (by omega)]
      · simp; omega
      · rw [List.length_take, hn, Nat.min_eq_left (by omega), Nat.mul_one, Nat.add_zero, List.take_append_of_le_length (by simp; omega), List.take_append_of_le_length (by simp; omega), List.take_take, Nat.min_self, ← h4, List.take_take, Nat.min_eq_left (by omega)]
    · exact ⟨rfl, rfl, rfl, by rw [setRow_size]; exact Nat.le_refl _, fun c _ hc => setRow_other w g c _ hc⟩
end
end Go.Vc

/- Contracts: sorting strings in place (the parts of pdqsort). Conditions: none. -/
namespace Go.Proofs.YteifjhpddhppcaaGreat
open Go.Vc
theorem ok_cmp_isNaN_string (a : Str) (w : World) : Ret Tryz.prog f_cmp_isNaN_string #[sv a] w (.bool false) := by
  apply c_cmp_isNaN_string; unfold S_cmp_isNaN_string
  refine iNeT ?_
  rw [show decide (¬ a = a) = false by simp]
  exact ⟨by first | trivial | rfl, Ext.refl _⟩
theorem ok_cmp_Less_string (a b : Str) (w : World) : Ret Tryz.prog f_cmp_Less_string #[sv a, sv b] w (.bool (ltS a b)) := by
  apply c_cmp_Less_string; unfold S_cmp_Less_string
  refine iJnB (ltS a b) w (fun J hJ => ?_) (fun w4 h4 => ?_)
  · refine iRet (ok_cmp_isNaN_string a w) fun w3 h3 => ?_
    refine iCndF rfl ?_
    refine iLtT ?_
    exact hJ w3 h3
  · intro _
    simp only [gx]
    exact ⟨by first | trivial | rfl, h4⟩
theorem ok_slices_insertionSortOrdered_string {lo : Nat} {w : World} {v : Value} {L : List Str} {a b : Nat} (hs : Ow lo t_string w v (strs L)) (hab : a ≤ b) (hb : b ≤ L.length) (hL : L.length ≤ 1152921504606846976) :
    Cal Tryz.prog f_slices_insertionSortOrdered_string #[v, .int .i64 (a : Int), .int .i64 (b : Int)] w fun _ w' => ∃ L', Turn lo t_string sv v w w' L' ∧ SwR a b L L' ∧ Srt ltS a b L' := by
  apply c_slices_insertionSortOrdered_string; unfold S_slices_insertionSortOrdered_string
  (refine iAdd (by omega) ?_)
  refine iLp (fun i : Nat => [.int .i64 (i : Int)]) (fun i w' => a + 1 ≤ i ∧ i ≤ b + 1 ∧ ∃ L', Turn lo t_string sv v w w' L' ∧ SwR a b L L' ∧ Srt ltS a i L') (fun i => b + 1 - i) (a + 1) (by simp) ⟨Nat.le_refl _, by omega, L, Turn.refl hs, .refl, Srt.short (Nat.le_refl _)⟩ ?_
  rintro i w2 Kn ⟨hi, hib, L1, ht1, hw1, hs1⟩ hKn
  intro _
  simp only [gx]
  refine iLt ?_
  refine iCndP (fun h => ?_) (fun h => ?_)
  · have hl1 := hw1.len
    refine iLp (fun j : Nat => [.int .i64 (j : Int)]) (fun j w' => a ≤ j ∧ j ≤ i ∧ ∃ L', Turn lo t_string sv v w w' L' ∧ SwR a b L L' ∧ Ins ltS a i j L') (fun j => j) i rfl ⟨by omega, Nat.le_refl _, L1, ht1, hw1, Ins.init hs1⟩ ?_
    rintro j w4 Kn2 ⟨haj, hji, L2, ht2, hw2, hin⟩ hKn2
    have hl2 := hw2.len
    intro _
    simp only [gx]
    refine iJnB (decide (a < j) && ltS (gt L2 j) (gt L2 (j - 1))) w4 (fun J hJ => ?_) (fun w6 h6 => ?_)
    · refine iLt ?_
      refine iCndP (fun h5 => ?_) (fun h5 => ?_)
      · rw [decide_eq_true (show a < j by omega), Bool.true_and] at hJ
        refine iRdO (j := j) ht2.ow rfl (by omega) ?_
        (refine iSub (by omega) ?_)
        refine iRdO (j := j - 1) ht2.ow (by omega) (by omega) ?_
        exact iRetQ (fun w' _ => ok_cmp_Less_string _ _ w') hJ
      · rw [decide_eq_false (show ¬ a < j by omega), Bool.false_and] at hJ
        exact hJ
    · intro _
      simp only [gx]
      have ht6 := ht2.ext h6
      cases hc : decide (a < j) && ltS (gt L2 j) (gt L2 (j - 1))
      · refine iCndF rfl ?_
        (refine iAdd (by omega) ?_)
        refine hKn (i + 1) _ ⟨by omega, by omega, L2, ht6, hw2, hin.done ordrS ?_ hji⟩ (by omega)
        rw [Bool.and_eq_false_iff, decide_eq_false_iff_not] at hc
        rcases hc with hc | hc
        · exact .inl (by omega)
        · rcases Nat.lt_or_ge a j with h' | h'
          · exact .inr ⟨h', hc⟩
          · exact .inl h'
      · rw [Bool.and_eq_true, decide_eq_true_eq] at hc
        refine iCndT rfl ?_
        (refine iSub (by omega) ?_; refine iSub (by omega) ?_)
        refine iRdO (j := j - 1) ht6.ow (by omega) (by omega) ?_
        refine iRdO (j := j) ht6.ow rfl (by omega) ?_
        refine iWr2 (i := j) (j := j - 1) (fun _ => rfl) ht6.ow rfl (by omega) (by omega) (by omega) fun w13 h13 => ?_
        (refine iSub (by omega) ?_)
        rw [show (j : Int) - 1 = ((j - 1 : Nat) : Int) by omega]
        exact hKn2 (j - 1) _ ⟨by omega, by omega, sw L2 j (j - 1), ht6.trans h13, .step hw2 (by omega) (by omega) (by omega) (by omega) hb, hin.swap ordrS hc.1 hji (by omega) hc.2⟩ (by omega)
  · exact ⟨L1, ht1, hw1, hs1.mono (Nat.le_refl _) (by omega)⟩
theorem ok_slices_reverseRangeOrdered_string {lo : Nat} {w : World} {v : Value} {L : List Str} {a b : Nat} (hs : Ow lo t_string w v (strs L)) (hab : a ≤ b) (hb : b ≤ L.length) (hL : L.length ≤ 1152921504606846976) :
    Cal Tryz.prog f_slices_reverseRangeOrdered_string #[v, .int .i64 (a : Int), .int .i64 (b : Int)] w fun _ w' => ∃ L', Turn lo t_string sv v w w' L' ∧ SwR a b L L' := by
  apply c_slices_reverseRangeOrdered_string; unfold S_slices_reverseRangeOrdered_string
  (refine iSub (by omega) ?_)
  refine iLp (fun s : Nat × Int => [.int .i64 (s.1 : Int), .int .i64 s.2]) (fun s w' => a ≤ s.1 ∧ s.1 ≤ b ∧ -1 ≤ s.2 ∧ s.2 < b ∧ (b : Int) - s.2 ≤ s.1 - a + 1 ∧ ∃ L', Turn lo t_string sv v w w' L' ∧ SwR a b L L') (fun s => b - s.1) (a, (b : Int) - 1) rfl ⟨Nat.le_refl _, hab, by show -1 ≤ (b : Int) - 1; omega, by show (b : Int) - 1 < b; omega, by show (b : Int) - ((b : Int) - 1) ≤ a - a + 1; omega, L, Turn.refl hs, .refl⟩ ?_
  rintro ⟨i, j⟩ w2 Kn ⟨hi, hib, hj, hjb, hij, L1, ht1, hw1⟩ hKn
  have hi : a ≤ i := hi
  have hib : i ≤ b := hib
  have hj : -1 ≤ j := hj
  have hjb : j < b := hjb
  have hij : (b : Int) - j ≤ i - a + 1 := hij
  have hl1 := hw1.len
  intro _
  simp only [gx]
  refine iLt ?_
  refine iCndP (fun h => ?_) (fun h => ?_)
  · refine iRdO (j := j.toNat) ht1.ow (by omega) (by omega) ?_
    refine iRdO (j := i) ht1.ow rfl (by omega) ?_
    refine iWr2 (i := i) (j := j.toNat) (fun _ => rfl) ht1.ow rfl (by omega) (by omega) (by omega) fun w7 h7 => ?_
    (refine iAdd (by omega) ?_; refine iSub (by omega) ?_)
    exact hKn (i + 1, j - 1) _ ⟨by show a ≤ i + 1; omega, by show i + 1 ≤ b; omega, by show -1 ≤ j - 1; omega, by show j - 1 < b; omega, by show (b : Int) - (j - 1) ≤ ((i + 1 : Nat) : Int) - a + 1; omega, sw L1 i j.toNat, ht1.trans h7, .step hw1 hi (by omega) (by omega) (by omega) hb⟩ (by show b - (i + 1) < b - i; omega)
  · exact ⟨L1, ht1, hw1⟩
theorem ok_slices_siftDownOrdered_string {lo0 : Nat} {w : World} {v : Value} {L : List Str} {lo hi first : Nat} (hs : Ow lo0 t_string w v (strs L)) (hlo : lo ≤ hi) (hb : first + hi ≤ L.length) (hL : L.length ≤ 1152921504606846976) (hh : Heap ltS first (lo + 1) hi L) :
    Cal Tryz.prog f_slices_siftDownOrdered_string #[v, .int .i64 (lo : Int), .int .i64 (hi : Int), .int .i64 (first : Int)] w fun _ w' => ∃ L', Turn lo0 t_string sv v w w' L' ∧ SwR (first + lo) (first + hi) L L' ∧ Heap ltS first lo hi L' := by
  apply c_slices_siftDownOrdered_string; unfold S_slices_siftDownOrdered_string
  refine iLp (fun r : Nat => [.int .i64 (r : Int)]) (fun r w' => lo ≤ r ∧ r ≤ hi ∧ ∃ L', Turn lo0 t_string sv v w w' L' ∧ SwR (first + lo) (first + hi) L L' ∧ Sift ltS first lo hi r L') (fun r => hi - r) lo rfl ⟨Nat.le_refl _, hlo, L, Turn.refl hs, .refl, Sift.init hh⟩ ?_
  rintro r w2 Kn ⟨hr, hrh, L1, ht1, hw1, hsf⟩ hKn
  have hl1 := hw1.len
  intro _
  simp only [gx]
  refine iMul (by omega) ?_
  (refine iAdd (by omega) ?_; (with_reducible refine iLe ?_))
  refine iCndP (fun h => ?_) (fun h => ?_)
  · exact ⟨L1, ht1, hw1, hsf.done fun c hc hch => by omega⟩
  · have hlr : r < hi := by omega
    refine iJnB (decide (2 * r + 2 < hi) && ltS (gt L1 (first + (2 * r + 1))) (gt L1 (first + (2 * r + 2)))) w2 (fun J hJ => ?_) (fun w4 h4 => ?_)
    · (refine iAdd (by omega) ?_; (with_reducible refine iLt ?_))
      refine iCndP (fun h5 => ?_) (fun h5 => ?_)
      · rw [decide_eq_true (show 2 * r + 2 < hi by omega), Bool.true_and] at hJ
        (refine iAdd (by omega) ?_)
        refine iRdO (j := first + (2 * r + 1)) ht1.ow (by omega) (by omega) ?_
        (refine iAdd (by omega) ?_; refine iAdd (by omega) ?_)
        refine iRdO (j := first + (2 * r + 2)) ht1.ow (by omega) (by omega) ?_
        exact iRetQ (fun w' _ => ok_cmp_Less_string _ _ w') hJ
      · rw [decide_eq_false (show ¬ 2 * r + 2 < hi by omega), Bool.false_and] at hJ
        exact hJ
    · intro _
      simp only [gx]
      have ht4 := ht1.ext h4
      refine iJnX (fun xs w8 => Ext w4 w8 ∧ ∃ c : Nat, xs = [.int .i64 (c : Int)] ∧ (c = 2 * r + 1 ∨ c = 2 * r + 2) ∧ c < hi ∧ ∀ d, (d = 2 * r + 1 ∨ d = 2 * r + 2) → d < hi → ltS (gt L1 (first + c)) (gt L1 (first + d)) = false) (fun J hJ => ?_) ?_
      · cases hc : decide (2 * r + 2 < hi) && ltS (gt L1 (first + (2 * r + 1))) (gt L1 (first + (2 * r + 2)))
        · refine iCndF rfl ?_
          refine hJ _ _ ⟨Ext.refl _, 2 * r + 1, rfl, .inl rfl, by omega, fun d hd hdh => ?_⟩
          rcases hd with hd | hd
          · subst hd; exact ordrS.rfl _
          · subst hd; rw [decide_eq_true hdh, Bool.true_and] at hc; exact hc
        · rw [Bool.and_eq_true, decide_eq_true_eq] at hc
          refine iCndT rfl ?_
          (refine iAdd (by omega) ?_)
          refine hJ _ _ ⟨Ext.refl _, 2 * r + 2, rfl, .inr rfl, hc.1, fun d hd hdh => ?_⟩
          rcases hd with hd | hd
          · subst hd; exact ordrS.asym hc.2
          · subst hd; exact ordrS.rfl _
      · rintro xs w8 ⟨h8, c, rfl, hc, hch, hmax⟩
        intro _
        simp only [gx]
        have ht8 := ht4.ext h8
        (refine iAdd (by omega) ?_)
        refine iRdO (j := first + r) ht8.ow (by omega) (by omega) ?_
        (refine iAdd (by omega) ?_)
        refine iRdO (j := first + c) ht8.ow (by omega) (by omega) ?_
        refine iRetQ (fun w' _ => ok_cmp_Less_string _ _ w') ?_
        refine iNot ?_
        intro w9 h9
        have ht9 := ht8.ext h9
        refine iCnd (fun h5 => ?_) (fun h5 => ?_)
        · refine ⟨L1, ht9, hw1, hsf.done fun d hd hdh => ?_⟩
          have h5 : ltS (gt L1 (first + r)) (gt L1 (first + c)) = false := by simpa using h5
          exact ordrS.tr (hmax d hd hdh) h5
        · have h5 : ltS (gt L1 (first + r)) (gt L1 (first + c)) = true := by simpa using h5
          (refine iAdd (by omega) ?_; refine iAdd (by omega) ?_; refine iAdd (by omega) ?_)
          refine iRdO (j := first + c) ht9.ow (by omega) (by omega) ?_
          (refine iAdd (by omega) ?_)
          refine iRdO (j := first + r) ht9.ow (by omega) (by omega) ?_
          refine iWr2 (i := first + r) (j := first + c) (fun _ => rfl) ht9.ow (by omega) (by omega) (by omega) (by omega) fun w14 h14 => ?_
          exact hKn c _ ⟨by omega, by omega, sw L1 (first + r) (first + c), ht9.trans h14, .step hw1 (by omega) (by omega) (by omega) (by omega) (by omega), hsf.swap ordrS hr hc hch (by omega) h5 hmax⟩ (by omega)
theorem ok_slices_heapSortOrdered_string {lo : Nat} {w : World} {v : Value} {L : List Str} {a b : Nat} (hs : Ow lo t_string w v (strs L)) (hab : a < b) (hb : b ≤ L.length) (hL : L.length ≤ 1152921504606846976) :
    Cal Tryz.prog f_slices_heapSortOrdered_string #[v, .int .i64 (a : Int), .int .i64 (b : Int)] w fun _ w' => ∃ L', Turn lo t_string sv v w w' L' ∧ SwR a b L L' ∧ Srt ltS a b L' := by
  apply c_slices_heapSortOrdered_string; unfold S_slices_heapSortOrdered_string
  obtain ⟨n, rfl⟩ : ∃ n, b = a + n := ⟨b - a, by omega⟩
  (refine iSub (by omega) ?_; refine iSub (by omega) ?_)
  refine iQuo (by omega) ?_
  refine iLp (fun s : Nat => [.int .i64 ((s : Int) - 1)]) (fun s w' => s ≤ n ∧ ∃ L', Turn lo t_string sv v w w' L' ∧ SwR a (a + n) L L' ∧ Heap ltS a s n L') (fun s => s) ((n - 1) / 2 + 1) (by congr 2; omega) ⟨by omega, L, Turn.refl hs, .refl, fun p c h1 h2 h3 => by omega⟩ ?_
  rintro s w2 Kn ⟨hsn, L1, ht1, hw1, hh⟩ hKn
  have hl1 := hw1.len
  intro _
  simp only [gx]
  refine iLe ?_
  refine iCndP (fun h => ?_) (fun h => ?_)
  · rw [show (s : Int) - 1 = ((s - 1 : Nat) : Int) by omega, show ((a + n : Nat) : Int) - a = (n : Int) by omega]
    refine iCall ?_
    refine (ok_slices_siftDownOrdered_string (lo := s - 1) (hi := n) (first := a) ht1.ow (by omega) (by omega) (by omega) (by rw [show s - 1 + 1 = s by omega]; exact hh)).mono fun _ w3 h3 => ?_
    obtain ⟨L2, ht2, hw2, hh2⟩ := h3
    (refine iSub (by omega) ?_)
    exact hKn (s - 1) _ ⟨by omega, L2, ht1.trans ht2, hw1.trans (hw2.mono (by omega) (Nat.le_refl _) (by omega)), hh2⟩ (by omega)
  · (refine iSub (by omega) ?_)
    have hs0 : s = 0 := by omega
    subst hs0
    refine iLp (fun s : Nat => [.int .i64 ((s : Int) - 1)]) (fun s w' => s ≤ n ∧ ∃ L', Turn lo t_string sv v w w' L' ∧ SwR a (a + n) L L' ∧ Heap ltS a 0 s L' ∧ (∀ p q, a ≤ p → p < q → a + s ≤ q → q < a + n → ltS (gt L' q) (gt L' p) = false)) (fun s => s) n (by congr 2; omega) ⟨Nat.le_refl _, L1, ht1, hw1, hh, fun p q h1 h2 h3 h4 => by omega⟩ ?_
    rintro s w5 Kn5 ⟨hsn, L2, ht2, hw2, hh2, hpr⟩ hKn5
    have hl2 := hw2.len
    intro _
    simp only [gx]
    refine iLe ?_
    refine iCndP (fun h5 => ?_) (fun h5 => ?_)
    · (refine iAdd (by omega) ?_; refine iAdd (by omega) ?_)
      refine iRdO (j := a + (s - 1)) ht2.ow (by omega) (by omega) ?_
      refine iRdO (j := a) ht2.ow rfl (by omega) ?_
      refine iWr2 (i := a) (j := a + (s - 1)) (fun _ => rfl) ht2.ow rfl (by omega) (by omega) (by omega) fun w10 h10 => ?_
      rw [show (s : Int) - 1 = ((s - 1 : Nat) : Int) by omega]
      have e : ∀ k, gt (sw L2 a (a + (s - 1))) k = if k = a + (s - 1) then gt L2 a else if k = a then gt L2 (a + (s - 1)) else gt L2 k := gt_sw (by omega) (by omega)
      have hw3 : SwR a (a + n) L2 (sw L2 a (a + (s - 1))) := .one (by omega) (by omega) (by omega) (by omega) (by omega)
      have htop := Heap.top ordrS hh2
      refine iCall ?_
      refine (ok_slices_siftDownOrdered_string (L := sw L2 a (a + (s - 1))) (lo := 0) (hi := s - 1) (first := a) h10.ow (by omega) (by rw [hw3.len]; omega) (by rw [hw3.len]; omega) (fun p c h1 h2 h3 => by
        rw [e, e, if_neg (by omega), if_neg (by omega), if_neg (by omega), if_neg (by omega)]
        exact hh2 p c (by omega) h2 (by omega))).mono fun _ w11 h11 => ?_
      obtain ⟨L4, ht4, hw4, hh4⟩ := h11
      (refine iSub (by omega) ?_)
      refine hKn5 (s - 1) _ ⟨by omega, L4, (ht2.trans h10).trans ht4, (hw2.trans hw3).trans (hw4.mono (by omega) (by omega) (by rw [hw3.len]; omega)), hh4, fun p q h1 h2 h3 h4 => ?_⟩ (by omega)
      rw [hw4.out (k := q) (by omega)]
      have main : ∀ p, a ≤ p → p < q → ltS (gt (sw L2 a (a + (s - 1))) q) (gt (sw L2 a (a + (s - 1))) p) = false := fun p h1 h2 => by
        rw [e, e]
        by_cases hq : q = a + (s - 1)
        · rw [if_pos hq, if_neg (by omega)]
          split
          · exact htop _ (by omega)
          · obtain ⟨k, rfl⟩ : ∃ k, p = a + k := ⟨p - a, by omega⟩
            exact htop _ (by omega)
        · rw [if_neg hq, if_neg (by omega)]
          split
          · exact hpr a q (by omega) (by omega) (by omega) h4
          · split
            · exact hpr _ q (by omega) (by omega) (by omega) h4
            · exact hpr p q h1 h2 (by omega) h4
      rcases Nat.lt_or_ge p (a + (s - 1)) with hp | hp
      · exact hw4.all (p := fun x => ltS (gt (sw L2 a (a + (s - 1))) q) x = false) (fun k hk hk' => main k (by omega) (by omega)) p (by omega) hp
      · rw [hw4.out (k := p) (by omega)]; exact main p h1 h2
    · exact ⟨L2, ht2, hw2, fun p q h1 h2 h3 => hpr p q h1 h2 (by omega) h3⟩
end Go.Proofs.YteifjhpddhppcaaGreat

/- Contracts: the helpers of pdqsort that draw places: lengths of numbers, xorshift, pivots. Conditions: none. -/
namespace Go.Vc
def len8T : Str := [0, 1, 2, 2, 3, 3, 3, 3, 4, 4, 4, 4, 4, 4, 4, 4, 5, 5, 5, 5, 5, 5, 5, 5, 5, 5, 5, 5, 5, 5, 5, 5, 6, 6, 6, 6, 6, 6, 6, 6, 6, 6, 6, 6, 6, 6, 6, 6, 6, 6, 6, 6, 6, 6, 6, 6, 6, 6, 6, 6, 6, 6, 6, 6,
  7, 7, 7, 7, 7, 7, 7, 7, 7, 7, 7, 7, 7, 7, 7, 7, 7, 7, 7, 7, 7, 7, 7, 7, 7, 7, 7, 7, 7, 7, 7, 7, 7, 7, 7, 7, 7, 7, 7, 7, 7, 7, 7, 7, 7, 7, 7, 7, 7, 7, 7, 7, 7, 7, 7, 7, 7, 7, 7, 7, 7, 7, 7, 7,
  8, 8, 8, 8, 8, 8, 8, 8, 8, 8, 8, 8, 8, 8, 8, 8, 8, 8, 8, 8, 8, 8, 8, 8, 8, 8, 8, 8, 8, 8, 8, 8, 8, 8, 8, 8, 8, 8, 8, 8, 8, 8, 8, 8, 8, 8, 8, 8, 8, 8, 8, 8, 8, 8, 8, 8, 8, 8, 8, 8, 8, 8, 8, 8,
  8, 8, 8, 8, 8, 8, 8, 8, 8, 8, 8, 8, 8, 8, 8, 8, 8, 8, 8, 8, 8, 8, 8, 8, 8, 8, 8, 8, 8, 8, 8, 8, 8, 8, 8, 8, 8, 8, 8, 8, 8, 8, 8, 8, 8, 8, 8, 8, 8, 8, 8, 8, 8, 8, 8, 8, 8, 8, 8, 8, 8, 8, 8, 8]
theorem len8T_ok : ∀ x : Fin 256, x.val < 2 ^ (len8T.getD x.val 0).toNat ∧ (1 ≤ x.val → 2 ^ (len8T.getD x.val 0).toNat ≤ 2 * x.val) ∧ (len8T.getD x.val 0).toNat ≤ 8 := by decide +kernel
theorem iAndUT {a : Int} {m : Nat} {K : Value → Prop} (hm : m < 2 ^ 64) (h : ∀ x : Nat, x ≤ m → K (.int .u64 (x : Int))) : xBits iAnd .u64 (.int .u64 a) (.int .u64 (m : Int)) K := by
  refine ⟨_, _, rfl, rfl, ?_⟩
  have e : iAnd .u64 a (m : Int) = (((BitVec.ofInt 64 a &&& BitVec.ofInt 64 (m : Int)).toNat : Nat) : Int) := by
    rw [show iAnd .u64 a (m : Int) = IntKind.u64.wrap ((BitVec.ofInt 64 a &&& BitVec.ofInt 64 (m : Int)).toNat : Nat) from rfl]
    exact IntWalk.u64_in _ (by have := (BitVec.ofInt 64 a &&& BitVec.ofInt 64 (m : Int)).isLt; omega)
  rw [e]
  refine h _ ?_
  rw [BitVec.toNat_and, ofInt_nat, BitVec.toNat_ofNat, Nat.mod_eq_of_lt (a := m) (by omega)]
  exact Nat.and_le_right
theorem iStC {e : TypeId} {w : World} {b : Nat} {old v : Value} {K : World → Prop} (hb : Blk e w b [old]) (hv : isCell v = true) (h : ∀ w', Blk e w' b [v] → Ch (fun c => c = b) w w' → K w') : xSt w (.pointer (some ⟨b, 0, none⟩)) v K :=
  iStB hb (by simp) hv fun h2 => h _ h2 ((Upd.setCell w b 0 v).ch rfl)
theorem iShrUT {a j : Nat} {K : Value → Prop} (hj : j ≤ 64) (h : K (.int .u64 ((a / 2 ^ j : Nat) : Int))) : xSh iShr .u64 (.int .u64 (a : Int)) (.int .u64 (j : Int)) K := by
  refine ⟨_, _, _, rfl, rfl, by omega, ?_⟩
  rw [show iShr .u64 (a : Int) (j : Int) = ((a / 2 ^ j : Nat) : Int) by
    unfold iShr
    rw [Int.toNat_natCast, show IntKind.u64.bits = 64 from rfl, Nat.min_eq_left hj, Int.fdiv_eq_ediv_of_nonneg _ (Int.le_of_lt (Int.pow_pos (by omega)))]
    push_cast
    rfl]
  exact h
end Go.Vc
namespace Go.Proofs.YteifjhpddhppcaaGreat
open Go.Vc
set_option maxRecDepth 20000 in
theorem ok_math_bits_Len64T {n : Nat} (hn : n < 2 ^ 63) (w : World) : Cal Tryz.prog f_math_bits_Len64 #[.int .u64 (n : Int)] w fun r w' => Ext w w' ∧ ∃ k : Nat, r = .int .i64 (k : Int) ∧ n < 2 ^ k ∧ (1 ≤ n → 2 ^ k ≤ 2 * n) ∧ k ≤ 64 := by
  apply c_math_bits_Len64; unfold S_math_bits_Len64
  -- at each join: what is left of n, and by how many bits it was shifted
  have stage : ∀ {x m s : Nat}, x = n / 2 ^ m → x / 2 ^ s = n / 2 ^ (m + s) := fun {x m s} h => by rw [h, Nat.div_div_eq_div_mul, ← Nat.pow_add]
  ((with_reducible refine iLe ?_))
  refine iJnX (fun xs w' => Ext w w' ∧ ∃ x m : Nat, xs = [.int .u64 (x : Int), .int .i64 (m : Int)] ∧ x = n / 2 ^ m ∧ x < 2 ^ 32 ∧ (1 ≤ m → 1 ≤ x) ∧ m ≤ 32) (fun J hJ => ?_) ?_
  · refine iCndP (fun h => ?_) (fun h => ?_)
    · refine iShrUT (j := 32) (by omega) ?_
      exact hJ _ _ ⟨Ext.refl _, _, 32, rfl, rfl, by omega, by omega, by omega⟩
    · exact hJ _ _ ⟨Ext.refl _, n, 0, rfl, by simp, by omega, by omega, by omega⟩
  rintro xs w2 ⟨h2, x, m, rfl, hx, hx32, hm1, hm⟩
  intro _
  simp only [gx]
  ((with_reducible refine iLe ?_))
  refine iJnX (fun xs w' => Ext w w' ∧ ∃ x m : Nat, xs = [.int .u64 (x : Int), .int .i64 (m : Int)] ∧ x = n / 2 ^ m ∧ x < 2 ^ 16 ∧ (1 ≤ m → 1 ≤ x) ∧ m ≤ 48) (fun J hJ => ?_) ?_
  · refine iCndP (fun h => ?_) (fun h => ?_)
    · refine iShrUT (j := 16) (by omega) ?_
      (refine iAdd (by omega) ?_)
      exact hJ _ _ ⟨h2, _, m + 16, rfl, stage hx, by omega, by omega, by omega⟩
    · exact hJ _ _ ⟨h2, x, m, rfl, hx, by omega, hm1, by omega⟩
  rintro xs w4 ⟨h4, x, m, rfl, hx, hx16, hm1, hm⟩
  intro _
  simp only [gx]
  ((with_reducible refine iLe ?_))
  refine iJnX (fun xs w' => Ext w w' ∧ ∃ x m : Nat, xs = [.int .u64 (x : Int), .int .i64 (m : Int)] ∧ x = n / 2 ^ m ∧ x < 2 ^ 8 ∧ (1 ≤ m → 1 ≤ x) ∧ m ≤ 56) (fun J hJ => ?_) ?_
  · refine iCndP (fun h => ?_) (fun h => ?_)
    · refine iShrUT (j := 8) (by omega) ?_
      (refine iAdd (by omega) ?_)
      exact hJ _ _ ⟨h4, _, m + 8, rfl, stage hx, by omega, by omega, by omega⟩
    · exact hJ _ _ ⟨h4, x, m, rfl, hx, by omega, hm1, by omega⟩
  rintro xs w6 ⟨h6, x, m, rfl, hx, hx8, hm1, hm⟩
  intro _
  simp only [gx]
  obtain ⟨t1, t2, t3⟩ : x < 2 ^ (len8T.getD x 0).toNat ∧ (1 ≤ x → 2 ^ (len8T.getD x 0).toNat ≤ 2 * x) ∧ (len8T.getD x 0).toNat ≤ 8 := len8T_ok ⟨x, hx8⟩
  refine ⟨_, _, rfl, ?_⟩
  rw [IntWalk.u8_in _ (by omega)]
  refine iIs (l := len8T) (j := x) (by show x < 256; omega) ?_
  refine iConv64 (by omega) ?_
  refine iAdd (by omega) ?_
  refine ⟨h6, m + (len8T.getD x 0).toNat, by first | rfl | (push_cast; rfl), ?_, fun h1 => ?_, by omega⟩
  · have := Nat.lt_div_mul_add (a := n) (b := 2 ^ m) (Nat.two_pow_pos m)
    rw [← hx] at this
    have h3 : (x + 1) * 2 ^ m ≤ 2 ^ (len8T.getD x 0).toNat * 2 ^ m := Nat.mul_le_mul_right _ t1
    rw [Nat.pow_add, Nat.mul_comm (2 ^ m)]
    rw [Nat.add_mul] at h3
    omega
  · rcases Nat.eq_zero_or_pos x with h0 | h0
    · have hm0 : m = 0 := by omega
      subst hm0
      simp at hx
      omega
    · have h3 := Nat.mul_le_mul_left (2 ^ m) (t2 h0)
      have h4 : 2 ^ m * x ≤ n := by rw [hx]; exact Nat.mul_div_le n (2 ^ m)
      rw [Nat.pow_add]
      rw [Nat.mul_left_comm] at h3
      omega
theorem ok_math_bits_LenT {n : Nat} (hn : n < 2 ^ 63) (w : World) : Cal Tryz.prog f_math_bits_Len #[.int .u64 (n : Int)] w fun r w' => Ext w w' ∧ ∃ k : Nat, r = .int .i64 (k : Int) ∧ n < 2 ^ k ∧ (1 ≤ n → 2 ^ k ≤ 2 * n) ∧ k ≤ 64 := by
  apply c_math_bits_Len; unfold S_math_bits_Len
  exact iCall (ok_math_bits_Len64T hn w)
theorem ok_slices_nextPowerOfTwo {n : Nat} (h1 : 1 ≤ n) (hn : n ≤ 1152921504606846976) (w : World) : Cal Tryz.prog f_slices_nextPowerOfTwo #[.int .i64 (n : Int)] w fun r w' => Ext w w' ∧ ∃ m : Nat, r = .int .u64 (m : Int) ∧ 1 ≤ m ∧ m ≤ 2 * n := by
  apply c_slices_nextPowerOfTwo; unfold S_slices_nextPowerOfTwo
  refine iConvU (by omega) ?_
  refine iCall ?_
  refine (ok_math_bits_LenT (by omega) w).mono fun r w1 h => ?_
  obtain ⟨h1', k, rfl, hk1, hk2, hk3⟩ := h
  have hk := hk2 h1
  refine ⟨_, _, _, rfl, rfl, by omega, ?_⟩
  have e : iShl .u64 1 (k : Int) = ((2 ^ k : Nat) : Int) := by
    rw [show iShl .u64 1 (k : Int) = IntKind.u64.wrap (1 * 2 ^ min (k : Int).toNat 64) from rfl, Int.toNat_natCast, Nat.min_eq_left hk3, Int.one_mul, show ((2 : Int) ^ k) = ((2 ^ k : Nat) : Int) by push_cast; rfl]
    exact IntWalk.u64_in _ (by omega)
  rw [e]
  exact ⟨h1', 2 ^ k, rfl, Nat.two_pow_pos k, hk⟩
theorem ok_slices_xorshift_Next {e : TypeId} {w : World} {b : Nat} {x : Int} (hb : Blk e w b [.int .u64 x]) : Cal Tryz.prog f_slices_xorshift_Next #[.pointer (some ⟨b, 0, none⟩)] w fun r w' => ∃ y : Int, r = .int .u64 y ∧ Blk e w' b [.int .u64 y] ∧ Ch (fun c => c = b) w w' := by
  apply c_slices_xorshift_Next; unfold S_slices_xorshift_Next
  ((with_reducible refine iNil ?_); refine iLdB (by assumption) (by first | rfl | simp) ?_; (with_reducible refine iNil ?_); refine iLdB (by assumption) (by first | rfl | simp) ?_)
  refine ⟨_, _, _, rfl, rfl, by omega, ?_⟩
  refine ⟨_, _, rfl, rfl, ?_⟩
  ((with_reducible refine iNil ?_))
  intro w1 h1
  refine iStC (hb.ext h1) rfl fun w2 hb2 h2 => ?_
  intro w3 h3
  have hb3 := hb2.ext h3
  have c3 := ch_ext ((h1.ch.trans h2 fun _ e => .inl e)) h3
  clear hb2 h2
  ((with_reducible refine iNil ?_); refine iLdB (by assumption) (by first | rfl | simp) ?_; (with_reducible refine iNil ?_); refine iLdB (by assumption) (by first | rfl | simp) ?_)
  refine ⟨_, _, _, rfl, rfl, by omega, ?_⟩
  refine ⟨_, _, rfl, rfl, ?_⟩
  ((with_reducible refine iNil ?_))
  intro w4 h4
  refine iStC (hb3.ext h4) rfl fun w5 hb5 h5 => ?_
  intro w6 h6
  have hb6 := hb5.ext h6
  have c6 := ch_ext (ch_self (ch_ext c3 h4) h5) h6
  clear hb5 hb3 hb c3
  ((with_reducible refine iNil ?_); refine iLdB (by assumption) (by first | rfl | simp) ?_; (with_reducible refine iNil ?_); refine iLdB (by assumption) (by first | rfl | simp) ?_)
  refine ⟨_, _, _, rfl, rfl, by omega, ?_⟩
  refine ⟨_, _, rfl, rfl, ?_⟩
  ((with_reducible refine iNil ?_))
  intro w7 h7
  refine iStC (hb6.ext h7) rfl fun w8 hb8 h8 => ?_
  intro w9 h9
  have hb9 := hb8.ext h9
  have c9 := ch_ext (ch_self (ch_ext c6 h7) h8) h9
  clear hb8 hb6 c6
  ((with_reducible refine iNil ?_); refine iLdB (by assumption) (by first | rfl | simp) ?_)
  exact ⟨_, rfl, hb9, c9⟩
theorem ok_slices_breakPatternsOrdered_string {lo : Nat} {w : World} {v : Value} {L : List Str} {a b : Nat} (hs : Ow lo t_string w v (strs L)) (hab : a ≤ b) (hb : b ≤ L.length) (hL : L.length ≤ 1152921504606846976) :
    Cal Tryz.prog f_slices_breakPatternsOrdered_string #[v, .int .i64 (a : Int), .int .i64 (b : Int)] w fun _ w' => ∃ L', Turn lo t_string sv v w w' L' ∧ SwR a b L L' := by
  apply c_slices_breakPatternsOrdered_string; unfold S_slices_breakPatternsOrdered_string
  obtain ⟨n, rfl⟩ : ∃ n, b = a + n := ⟨b - a, by omega⟩
  refine iSub (by omega) ?_
  rw [show ((a + n : Nat) : Int) - a = (n : Int) by omega]
  refine iLe ?_
  refine iCndP (fun h => ?_) (fun h => ?_)
  · refine iConvU (by omega) ?_
    refine iNew fun c w1 hc1 h1 hb1 => ?_
    refine iStB hb1 (by simp [Value.cells]) rfl fun hb2 => ?_
    have x2 : Ext w (w1.setCell ⟨c, 0, none⟩ (.int .u64 (n : Int))) := ext_set h1 (by show w.heap.size ≤ c; omega) _
    refine iCall ?_
    refine (ok_slices_nextPowerOfTwo (by omega) (by omega) _).mono fun r w3 h3 => ?_
    obtain ⟨h3, m, rfl, hm1, hm2⟩ := h3
    have hb3 := hb2.ext h3
    have hs3 := (hs.ext x2).ext h3
    have hne : v.ownBlock ≠ some c := hs.lt (by omega)
    refine iQuo (by omega) ?_
    refine iMul (by omega) ?_
    refine iAdd (by omega) ?_
    refine iSub (by omega) ?_
    refine iLp (fun i : Nat => [.int .i64 (i : Int)]) (fun i w' => a + n / 4 * 2 - 1 ≤ i ∧ (∃ x, Blk 146 w' c [.int .u64 x]) ∧ ∃ L', Turn lo t_string sv v w w' L' ∧ SwR a (a + n) L L') (fun i => a + n - i) (a + n / 4 * 2 - 1) (by congr 2; omega)
      ⟨Nat.le_refl _, ⟨_, hb3⟩, L, ⟨hs3, ((x2.trans h3).ch)⟩, .refl⟩ ?_
    rintro i w5 Kn ⟨hi, ⟨x, hb5⟩, L1, ht1, hw1⟩ hKn
    have hl1 := hw1.len
    intro _
    simp only [gx]
    refine iQuo (by omega) ?_
    refine iMul (by omega) ?_
    refine iAdd (by omega) ?_
    refine iAdd (by omega) ?_
    refine iLe ?_
    refine iCndP (fun h5 => ?_) (fun h5 => ?_)
    · refine iCall ?_
      refine (ok_slices_xorshift_Next hb5).mono fun r w6 h6 => ?_
      obtain ⟨y, rfl, hb6, hc6⟩ := h6
      have hs6 := ht1.ow.ch hc6 fun c' hc' e => hne (e ▸ hc')
      refine ⟨_, _, rfl, rfl, ?_⟩
      rw [show IntKind.u64.wrap ((m : Int) - 1) = ((m - 1 : Nat) : Int) by rw [IntWalk.u64_in _ (by omega)]; omega]
      refine iAndUT (by omega) fun x hx => ?_
      refine iConv64 (by omega) ?_
      refine iLe ?_
      refine iJnX (fun xs w8 => Ext w6 w8 ∧ ∃ z : Nat, xs = [.int .i64 (z : Int)] ∧ z < n) (fun J hJ => ?_) ?_
      · refine iCndP (fun h7 => ?_) (fun h7 => ?_)
        · refine iSub (by omega) ?_
          rw [show (x : Int) - n = ((x - n : Nat) : Int) by omega]
          exact hJ _ _ ⟨Ext.refl _, x - n, rfl, by omega⟩
        · exact hJ _ _ ⟨Ext.refl _, x, rfl, by omega⟩
      rintro xs w8 ⟨h8, z, rfl, hz⟩
      intro _
      simp only [gx]
      have hs8 := hs6.ext h8
      have hb8 := hb6.ext h8
      have hc8 := ch_ext hc6 h8
      refine iAdd (by omega) ?_
      refine iAdd (by omega) ?_
      refine iRdO (j := a + z) hs8 (by omega) (by omega) ?_
      refine iRdO (j := i) hs8 rfl (by omega) ?_
      refine iWr2 (i := i) (j := a + z) (fun _ => rfl) hs8 rfl (by omega) (by omega) (by omega) fun w13 h13 => ?_
      refine iAdd (by omega) ?_
      refine hKn (i + 1) _ ⟨by omega, ⟨_, hb8.ch h13.ch fun e => hne e⟩, sw L1 i (a + z), ⟨h13.ow, ?_⟩, .step hw1 (by omega) (by omega) (by omega) (by omega) hb⟩ (by omega)
      refine (ht1.ch.trans hc8 fun c' e => .inr ?_).trans h13.ch fun _ e => .inl e
      omega
    · exact ⟨L1, ht1, hw1⟩
  · exact ⟨L, Turn.refl hs, .refl⟩
end Go.Proofs.YteifjhpddhppcaaGreat

/- Contracts: pivots, partitions and the trial of insertion of pdqsort. Conditions: none. -/
namespace Go.Proofs.YteifjhpddhppcaaGreat
open Go.Vc
theorem ok_slices_order2Ordered_string {lo : Nat} {e : TypeId} {w : World} {v : Value} {L : List Str} {i j c n : Nat} (hs : Ow lo t_string w v (strs L)) (hi : i < L.length) (hj : j < L.length) (hb : Blk e w c [.int .i64 (n : Int)]) (hn : n ≤ 1000) :
    Cal Tryz.prog f_slices_order2Ordered_string #[v, .int .i64 (i : Int), .int .i64 (j : Int), .pointer (some ⟨c, 0, none⟩)] w fun r w' => ∃ i' j' m : Nat, r = .tuple #[.int .i64 (i' : Int), .int .i64 (j' : Int)] ∧ ((i' = i ∧ j' = j) ∨ (i' = j ∧ j' = i)) ∧ m ≤ n + 1 ∧ Blk e w' c [.int .i64 (m : Int)] ∧ Ch (fun d => d = c) w w' := by
  apply c_slices_order2Ordered_string; unfold S_slices_order2Ordered_string
  refine iRdO (j := j) hs rfl hj ?_
  refine iRdO (j := i) hs rfl hi ?_
  refine iRetQ (fun w' _ => ok_cmp_Less_string _ _ w') ?_
  intro w1 h1
  have hb1 := hb.ext h1
  refine iCnd (fun h => ?_) (fun h => ?_)
  · ((with_reducible refine iNil ?_); refine iLdB (by assumption) (by first | rfl | simp) ?_; refine iAdd (by omega) ?_; (with_reducible refine iNil ?_))
    refine iStC hb1 rfl fun w2 hb2 hc2 => ?_
    exact ⟨j, i, n + 1, rfl, .inr ⟨rfl, rfl⟩, Nat.le_refl _, hb2, (h1.ch.trans hc2 fun _ e => .inl e)⟩
  · exact ⟨i, j, n, rfl, .inl ⟨rfl, rfl⟩, by omega, hb1, h1.ch⟩
theorem ok_slices_medianOrdered_string {lo : Nat} {e : TypeId} {w : World} {v : Value} {L : List Str} {i j k c n : Nat} (hs : Ow lo t_string w v (strs L)) (hne : v.ownBlock ≠ some c) (hi : i < L.length) (hj : j < L.length) (hk : k < L.length) (hb : Blk e w c [.int .i64 (n : Int)]) (hn : n ≤ 900) :
    Cal Tryz.prog f_slices_medianOrdered_string #[v, .int .i64 (i : Int), .int .i64 (j : Int), .int .i64 (k : Int), .pointer (some ⟨c, 0, none⟩)] w fun r w' => ∃ t m : Nat, r = .int .i64 (t : Int) ∧ (t = i ∨ t = j ∨ t = k) ∧ m ≤ n + 3 ∧ Blk e w' c [.int .i64 (m : Int)] ∧ Ch (fun d => d = c) w w' := by
  apply c_slices_medianOrdered_string; unfold S_slices_medianOrdered_string
  refine iCall ?_
  refine (ok_slices_order2Ordered_string hs hi hj hb (by omega)).mono fun r w1 h1 => ?_
  obtain ⟨i1, j1, n1, rfl, h1, hn1, hb1, hc1⟩ := h1
  have hs1 := hs.ch hc1 fun d hd e => hne (e ▸ hd)
  ((with_reducible refine iE20 ?_; refine iE21 ?_))
  refine iCall ?_
  refine (ok_slices_order2Ordered_string (i := j1) hs1 (by rcases h1 with h | h <;> omega) hk hb1 (by omega)).mono fun r w2 h2 => ?_
  obtain ⟨j2, k2, n2, rfl, h2, hn2, hb2, hc2⟩ := h2
  have hs2 := hs1.ch hc2 fun d hd e => hne (e ▸ hd)
  ((with_reducible refine iE20 ?_; refine iE21 ?_))
  refine iCall ?_
  refine (ok_slices_order2Ordered_string (i := i1) (j := j2) hs2 (by rcases h1 with h | h <;> omega) (by rcases h1 with h | h <;> rcases h2 with h' | h' <;> omega) hb2 (by omega)).mono fun r w3 h3 => ?_
  obtain ⟨i3, j3, n3, rfl, h3, hn3, hb3, hc3⟩ := h3
  ((with_reducible refine iE20 ?_; refine iE21 ?_))
  exact ⟨j3, n3, rfl, by rcases h1 with h | h <;> rcases h2 with h' | h' <;> rcases h3 with h'' | h'' <;> omega, by omega, hb3, ch_self (ch_self hc1 hc2) hc3⟩
theorem ok_slices_medianAdjacentOrdered_string {lo : Nat} {e : TypeId} {w : World} {v : Value} {L : List Str} {i c n : Nat} (hs : Ow lo t_string w v (strs L)) (hne : v.ownBlock ≠ some c) (h1 : 1 ≤ i) (hi : i + 1 < L.length) (hL : L.length ≤ 1152921504606846976) (hb : Blk e w c [.int .i64 (n : Int)]) (hn : n ≤ 900) :
    Cal Tryz.prog f_slices_medianAdjacentOrdered_string #[v, .int .i64 (i : Int), .pointer (some ⟨c, 0, none⟩)] w fun r w' => ∃ t m : Nat, r = .int .i64 (t : Int) ∧ (t = i - 1 ∨ t = i ∨ t = i + 1) ∧ m ≤ n + 3 ∧ Blk e w' c [.int .i64 (m : Int)] ∧ Ch (fun d => d = c) w w' := by
  apply c_slices_medianAdjacentOrdered_string; unfold S_slices_medianAdjacentOrdered_string
  (refine iSub (by omega) ?_; refine iAdd (by omega) ?_)
  rw [show (i : Int) - 1 = ((i - 1 : Nat) : Int) by omega]
  refine iCall ?_
  exact ok_slices_medianOrdered_string (i := i - 1) (j := i) (k := i + 1) hs hne (by omega) (by omega) hi hb hn
theorem ok_slices_choosePivotOrdered_string {lo : Nat} {w : World} {v : Value} {L : List Str} {a b : Nat} (hs : Ow lo t_string w v (strs L)) (hab : a + 8 ≤ b) (hb : b ≤ L.length) (hL : L.length ≤ 1152921504606846976) :
    Cal Tryz.prog f_slices_choosePivotOrdered_string #[v, .int .i64 (a : Int), .int .i64 (b : Int)] w fun r w' => Ext w w' ∧ ∃ t : Nat, ∃ x : Int, r = .tuple #[.int .i64 (t : Int), .int .i64 x] ∧ a ≤ t ∧ t < b := by
  apply c_slices_choosePivotOrdered_string; unfold S_slices_choosePivotOrdered_string
  obtain ⟨n, rfl⟩ : ∃ n, b = a + n := ⟨b - a, by omega⟩
  refine iSub (by omega) ?_
  rw [show ((a + n : Nat) : Int) - a = (n : Int) by omega]
  refine iNew fun c w1 hc1 h1 hb1 => ?_
  have hne : v.ownBlock ≠ some c := hs.lt (by omega)
  have hs1 := hs.ext h1
  have new : ∀ {w' : World}, Ch (fun d => d = c) w1 w' → Ext w w' := fun {w'} h => h1.thenCh h fun d e => by omega
  refine iQuo (by omega) ?_
  refine iMul (by omega) ?_
  refine iAdd (by omega) ?_
  refine iQuo (by omega) ?_
  refine iMul (by omega) ?_
  refine iAdd (by omega) ?_
  refine iQuo (by omega) ?_
  refine iMul (by omega) ?_
  refine iAdd (by omega) ?_
  refine iLe ?_
  rw [show (a : Int) + (n : Int) / 4 * 1 = ((a + n / 4 * 1 : Nat) : Int) by omega, show (a : Int) + (n : Int) / 4 * 2 = ((a + n / 4 * 2 : Nat) : Int) by omega, show (a : Int) + (n : Int) / 4 * 3 = ((a + n / 4 * 3 : Nat) : Int) by omega]
  refine iJnX (fun xs w' => ∃ t m : Nat, xs = [.int .i64 (t : Int)] ∧ a ≤ t ∧ t < a + n ∧ Blk 3 w' c [.int .i64 (m : Int)] ∧ Ch (fun d => d = c) w1 w') (fun J hJ => ?_) ?_
  · refine iCndP (fun h => ?_) (fun h => ?_)
    · refine iLe ?_
      refine iJnX (fun xs w' => ∃ i j k m : Nat, xs = [.int .i64 (i : Int), .int .i64 (j : Int), .int .i64 (k : Int)] ∧ a ≤ i ∧ i < a + n ∧ a ≤ j ∧ j < a + n ∧ a ≤ k ∧ k < a + n ∧ m ≤ 9 ∧ Blk 3 w' c [.int .i64 (m : Int)] ∧ Ch (fun d => d = c) w1 w') (fun J' hJ' => ?_) ?_
      · refine iCndP (fun h5 => ?_) (fun h5 => ?_)
        · refine iCall ?_
          refine (ok_slices_medianAdjacentOrdered_string (n := 0) hs1 hne (by omega) (by omega) hL hb1 (by omega)).mono fun r w2 h2 => ?_
          obtain ⟨i, m1, rfl, hi, hm1, hb2, hc2⟩ := h2
          have hs2 := hs1.ch hc2 fun d hd e => hne (e ▸ hd)
          refine iCall ?_
          refine (ok_slices_medianAdjacentOrdered_string hs2 hne (by omega) (by omega) hL hb2 (by omega)).mono fun r w3 h3 => ?_
          obtain ⟨j, m2, rfl, hj, hm2, hb3, hc3⟩ := h3
          have hs3 := hs2.ch hc3 fun d hd e => hne (e ▸ hd)
          refine iCall ?_
          refine (ok_slices_medianAdjacentOrdered_string hs3 hne (by omega) (by omega) hL hb3 (by omega)).mono fun r w4 h4 => ?_
          obtain ⟨k, m3, rfl, hk, hm3, hb4, hc4⟩ := h4
          exact hJ' _ _ ⟨i, j, k, m3, rfl, by omega, by omega, by omega, by omega, by omega, by omega, by omega, hb4, ch_self (ch_self hc2 hc3) hc4⟩
        · exact hJ' _ _ ⟨_, _, _, 0, rfl, by omega, by omega, by omega, by omega, by omega, by omega, by omega, hb1, (Ext.refl _).ch⟩
      rintro xs w5 ⟨i, j, k, m, rfl, h11, h12, h21, h22, h31, h32, hm, hb5, hc5⟩
      intro _
      simp only [gx]
      have hs5 := hs1.ch hc5 fun d hd e => hne (e ▸ hd)
      refine iCall ?_
      refine (ok_slices_medianOrdered_string hs5 hne (i := i) (j := j) (k := k) (by omega) (by omega) (by omega) hb5 (by omega)).mono fun r w6 h6 => ?_
      obtain ⟨t, m', rfl, ht, hm', hb6, hc6⟩ := h6
      exact hJ _ _ ⟨t, m', rfl, by omega, by omega, hb6, ch_self hc5 hc6⟩
    · omega
  rintro xs w3 ⟨t, m, rfl, ht1, ht2, hb3, hc3⟩
  intro _
  simp only [gx]
  (refine iLdB (by assumption) (by first | rfl | simp) ?_; (with_reducible refine iEq ?_))
  refine iCndP (fun h => ?_) (fun h => ?_)
  · exact ⟨new hc3, t, 1, rfl, ht1, ht2⟩
  · ((with_reducible refine iEq ?_))
    refine iCndP (fun h => ?_) (fun h => ?_)
    · exact ⟨new hc3, t, 2, rfl, ht1, ht2⟩
    · exact ⟨new hc3, t, 0, rfl, ht1, ht2⟩
theorem ok_slices_partitionEqualOrdered_string {lo : Nat} {w : World} {v : Value} {L : List Str} {a b t : Nat} (hs : Ow lo t_string w v (strs L)) (hat : a ≤ t) (htb : t < b) (hb : b ≤ L.length) (hL : L.length ≤ 1152921504606846976) :
    Cal Tryz.prog f_slices_partitionEqualOrdered_string #[v, .int .i64 (a : Int), .int .i64 (b : Int), .int .i64 (t : Int)] w fun r w' => ∃ L' : List Str, ∃ m : Nat, r = .int .i64 (m : Int) ∧ Turn lo t_string sv v w w' L' ∧ SwR a b L L' ∧ a < m ∧ m ≤ b ∧ (∀ k, a ≤ k → k < m → ltS (gt L t) (gt L' k) = false) := by
  apply c_slices_partitionEqualOrdered_string; unfold S_slices_partitionEqualOrdered_string
  refine iRdO (j := t) hs rfl (by omega) ?_
  refine iRdO (j := a) hs rfl (by omega) ?_
  refine iWr2 (i := a) (j := t) (fun _ => rfl) hs rfl rfl (by omega) (by omega) fun w5 h5 => ?_
  have e0 : gt (sw L a t) a = gt L t := by rw [gt_sw (by omega) (by omega)]; split <;> simp_all
  (refine iAdd (by omega) ?_; refine iSub (by omega) ?_)
  refine iLp (fun s : Nat × Int => [.int .i64 (s.1 : Int), .int .i64 s.2]) (fun s w' => a + 1 ≤ s.1 ∧ s.1 ≤ b ∧ (s.1 : Int) - 1 ≤ s.2 + 1 ∧ s.2 < b ∧ ∃ L', Turn lo t_string sv v w w' L' ∧ SwR a b L L' ∧ gt L' a = gt L t ∧ ∀ k, a ≤ k → k < s.1 → ltS (gt L t) (gt L' k) = false) (fun s => b - s.1) (a + 1, (b : Int) - 1) rfl
    ⟨Nat.le_refl _, by show a + 1 ≤ b; omega, by show ((a + 1 : Nat) : Int) - 1 ≤ (b : Int) - 1 + 1; omega, by show (b : Int) - 1 < b; omega, sw L a t, h5, .one (Nat.le_refl _) (by omega) hat htb hb, e0, fun k h1 h2 => by have h2 : k < a + 1 := h2; rw [show k = a by omega, e0]; exact ordrS.rfl _⟩ ?_
  rintro ⟨i0, j0⟩ w7 Kn ⟨hi0, hib0, hij0, hjb0, L1, ht1, hw1, he1, hq1⟩ hKn
  have hi0 : a + 1 ≤ i0 := hi0
  have hib0 : i0 ≤ b := hib0
  have hij0 : (i0 : Int) - 1 ≤ j0 + 1 := hij0
  have hjb0 : j0 < b := hjb0
  have hq1 : ∀ k, a ≤ k → k < i0 → ltS (gt L t) (gt L1 k) = false := hq1
  have hl1 := hw1.len
  intro _
  simp only [gx]
  refine iLp (fun i : Nat => [.int .i64 (i : Int)]) (fun i w' => i0 ≤ i ∧ i ≤ b ∧ (i : Int) - 1 ≤ j0 + 1 ∧ Ext w7 w' ∧ ∀ k, a ≤ k → k < i → ltS (gt L t) (gt L1 k) = false) (fun i => b - i) i0 rfl ⟨Nat.le_refl _, hib0, hij0, Ext.refl _, hq1⟩ ?_
  rintro i w9 Kn9 ⟨hi, hib, hij, h9, hq⟩ hKn9
  intro _
  simp only [gx]
  have ht9 := ht1.ext h9
  refine iJnB (decide ((i : Int) ≤ j0) && !ltS (gt L1 a) (gt L1 i)) w9 (fun J hJ => ?_) (fun w11 h11 => ?_)
  · refine iLe ?_
    refine iCndP (fun h => ?_) (fun h => ?_)
    · rw [decide_eq_true h, Bool.true_and] at hJ
      refine iRdO (j := a) ht9.ow rfl (by omega) ?_
      refine iRdO (j := i) ht9.ow rfl (by omega) ?_
      exact iRetQ (fun w' _ => ok_cmp_Less_string _ _ w') (iNot hJ)
    · rw [decide_eq_false h, Bool.false_and] at hJ
      exact hJ
  intro _
  simp only [gx]
  have h9' := h9.trans h11
  cases hc : decide ((i : Int) ≤ j0) && !ltS (gt L1 a) (gt L1 i)
  rotate_left
  · rw [Bool.and_eq_true, decide_eq_true_eq, Bool.not_eq_true'] at hc
    refine iCndT rfl ?_
    (refine iAdd (by omega) ?_)
    refine hKn9 (i + 1) _ ⟨by omega, by omega, by omega, h9', fun k h1 h2 => ?_⟩ (by omega)
    by_cases hk : k = i
    · rw [hk, ← he1]; exact hc.2
    · exact hq k h1 (by omega)
  refine iCndF rfl ?_
  refine iLp (fun j : Int => [.int .i64 j]) (fun j w' => j ≤ j0 ∧ (i : Int) - 1 ≤ j + 1 ∧ Ext w7 w' ∧ (j < j0 → (i : Int) - 1 ≤ j)) (fun j => (j + 2).toNat) j0 rfl ⟨Int.le_refl _, hij, h9', fun h => by omega⟩ ?_
  rintro j w15 Kn15 ⟨hjj, hij2, h15, hij3⟩ hKn15
  intro _
  simp only [gx]
  have ht15 := ht1.ext h15
  refine iJnB (decide ((i : Int) ≤ j) && ltS (gt L1 a) (gt L1 j.toNat)) w15 (fun J hJ => ?_) (fun w17 h17 => ?_)
  · refine iLe ?_
    refine iCndP (fun h => ?_) (fun h => ?_)
    · rw [decide_eq_true h, Bool.true_and] at hJ
      refine iRdO (j := a) ht15.ow rfl (by omega) ?_
      refine iRdO (j := j.toNat) ht15.ow (by omega) (by omega) ?_
      exact iRetQ (fun w' _ => ok_cmp_Less_string _ _ w') hJ
    · rw [decide_eq_false h, Bool.false_and] at hJ
      exact hJ
  intro _
  simp only [gx]
  have ht17 := ht15.ext h17
  cases hc2 : decide ((i : Int) ≤ j) && ltS (gt L1 a) (gt L1 j.toNat)
  rotate_left
  · rw [Bool.and_eq_true, decide_eq_true_eq] at hc2
    refine iCndT rfl ?_
    refine iSub (by omega) ?_
    exact hKn15 (j - 1) _ ⟨by omega, by omega, h15.trans h17, fun _ => by omega⟩ (by omega)
  refine iCndF rfl ?_
  refine iLt ?_
  refine iCndP (fun h => ?_) (fun h => ?_)
  · exact ⟨L1, i, rfl, ht17, hw1, by omega, hib, hq⟩
  · have hlt : ltS (gt L1 a) (gt L1 j.toNat) = false := by
      rw [decide_eq_true (show (i : Int) ≤ j by omega), Bool.true_and] at hc2; exact hc2
    refine iRdO (j := j.toNat) ht17.ow (by omega) (by omega) ?_
    refine iRdO (j := i) ht17.ow rfl (by omega) ?_
    refine iWr2 (i := i) (j := j.toNat) (fun _ => rfl) ht17.ow rfl (by omega) (by omega) (by omega) fun w24 h24 => ?_
    refine iAdd (by omega) ?_
    refine iSub (by omega) ?_
    have eS : ∀ k, gt (sw L1 i j.toNat) k = if k = j.toNat then gt L1 i else if k = i then gt L1 j.toNat else gt L1 k := gt_sw (by omega) (by omega)
    refine hKn (i + 1, j - 1) _ ⟨by show a + 1 ≤ i + 1; omega, by show i + 1 ≤ b; omega, by show ((i + 1 : Nat) : Int) - 1 ≤ j - 1 + 1; omega, by show j - 1 < b; omega, sw L1 i j.toNat, ht17.trans h24, .step hw1 (by omega) (by omega) (by omega) (by omega) hb, by rw [eS, if_neg (by omega), if_neg (by omega)]; exact he1, fun k h1 h2 => ?_⟩ (by show b - (i + 1) < b - i0; omega)
    have h2 : k < i + 1 := h2
    rw [eS]
    by_cases hk : k = i
    · subst hk
      split
      · rename_i hkj; rw [← hkj, he1] at hlt; exact hlt
      · rw [if_pos rfl, ← he1]; exact hlt
    · rw [if_neg (by omega), if_neg hk]; exact hq k h1 (by omega)
end Go.Proofs.YteifjhpddhppcaaGreat

/- Contracts: partition, the trial of insertion and pdqsort itself, on strings. Conditions: none. -/
namespace Go.Vc
theorem part_end {L : List Str} {a b j : Nat} {pv : Str} (haj : a ≤ j) (hjb : j < b) (hb : b ≤ L.length) (he : gt L a = pv) (h1 : ∀ k, a + 1 ≤ k → k ≤ j → ltS (gt L k) pv = true) (h2 : ∀ k, j < k → k < b → ltS (gt L k) pv = false) : Parted ltS a b j (sw L j a) := by
  have e : ∀ k, gt (sw L j a) k = if k = a then gt L j else if k = j then gt L a else gt L k := gt_sw (by omega) (by omega)
  have ej : gt (sw L j a) j = pv := by
    rw [e]
    split
    · rename_i h; rw [h]; exact he
    · rw [if_pos rfl]; exact he
  refine ⟨fun k hk hk' => ?_, fun k hk hk' => ?_⟩
  · rw [ej, e]
    by_cases hka : k = a
    · rw [if_pos hka]; exact h1 j (by omega) (Nat.le_refl _)
    · rw [if_neg hka, if_neg (by omega)]; exact h1 k (by omega) (by omega)
  · rw [ej, e, if_neg (by omega), if_neg (by omega)]; exact h2 k hk hk'
end Go.Vc
namespace Go.Proofs.YteifjhpddhppcaaGreat
open Go.Vc
theorem ok_slices_partitionOrdered_string {lo : Nat} {w : World} {v : Value} {L : List Str} {a b t : Nat} (hs : Ow lo t_string w v (strs L)) (hat : a ≤ t) (htb : t < b) (hb : b ≤ L.length) (hL : L.length ≤ 1152921504606846976) :
    Cal Tryz.prog f_slices_partitionOrdered_string #[v, .int .i64 (a : Int), .int .i64 (b : Int), .int .i64 (t : Int)] w fun r w' => ∃ L' : List Str, ∃ m : Nat, ∃ y : Bool, r = .tuple #[.int .i64 (m : Int), .bool y] ∧ Turn lo t_string sv v w w' L' ∧ SwR a b L L' ∧ a ≤ m ∧ m < b ∧ Parted ltS a b m L' := by
  apply c_slices_partitionOrdered_string; unfold S_slices_partitionOrdered_string
  refine iRdO (j := t) hs rfl (by omega) ?_
  refine iRdO (j := a) hs rfl (by omega) ?_
  refine iWr2 (i := a) (j := t) (fun _ => rfl) hs rfl rfl (by omega) (by omega) fun w7 h5 => ?_
  have h5 : Turn lo t_string sv v w w7 (sw L a t) := h5
  have e0 : gt (sw L a t) a = gt L t := by rw [gt_sw (by omega) (by omega)]; split <;> simp_all
  have hw0 : SwR a b L (sw L a t) := .one (Nat.le_refl _) (by omega) hat htb hb
  have hl0 := hw0.len
  generalize sw L a t = L0 at h5 e0 hw0 hl0
  (refine iAdd (by omega) ?_; refine iSub (by omega) ?_)
  obtain ⟨i0, hi0⟩ : ∃ i0, i0 = a + 1 := ⟨_, rfl⟩
  obtain ⟨j0, hj0⟩ : ∃ j0 : Int, j0 = (b : Int) - 1 := ⟨_, rfl⟩
  rw [show (a : Int) + 1 = (i0 : Int) by omega, ← hj0]
  refine iLp (fun i : Nat => [.int .i64 (i : Int)]) (fun i w' => i0 ≤ i ∧ (i : Int) ≤ j0 + 1 ∧ Ext w7 w' ∧ ∀ k, a + 1 ≤ k → k < i → ltS (gt L0 k) (gt L t) = true) (fun i => b - i) i0 rfl ⟨Nat.le_refl _, by omega, Ext.refl _, fun k h1 h2 => by omega⟩ ?_
  rintro i w9 Kn9 ⟨hi, hij, h9, hq⟩ hKn9
  intro _
  simp only [gx]
  have ht9 := h5.ext h9
  refine iJnB (decide ((i : Int) ≤ j0) && ltS (gt L0 i) (gt L0 a)) w9 (fun J hJ => ?_) (fun w11 h11 => ?_)
  · refine iLe ?_
    refine iCndP (fun h => ?_) (fun h => ?_)
    · rw [decide_eq_true h, Bool.true_and] at hJ
      refine iRdO (j := i) ht9.ow rfl (by omega) ?_
      refine iRdO (j := a) ht9.ow rfl (by omega) ?_
      exact iRetQ (fun w' _ => ok_cmp_Less_string _ _ w') hJ
    · rw [decide_eq_false h, Bool.false_and] at hJ
      exact hJ
  intro _
  simp only [gx]
  have h9' := h9.trans h11
  cases hc : decide ((i : Int) ≤ j0) && ltS (gt L0 i) (gt L0 a)
  rotate_left
  · rw [Bool.and_eq_true, decide_eq_true_eq] at hc
    refine iCndT rfl ?_
    (refine iAdd (by omega) ?_)
    refine hKn9 (i + 1) _ ⟨by omega, by omega, h9', fun k h1 h2 => ?_⟩ (by omega)
    by_cases hk : k = i
    · rw [hk, ← e0]; exact hc.2
    · exact hq k h1 (by omega)
  refine iCndF rfl ?_
  refine iLp (fun j : Int => [.int .i64 j]) (fun j w' => j ≤ j0 ∧ (i : Int) ≤ j + 1 ∧ Ext w7 w' ∧ ∀ k : Nat, j < k → k < b → ltS (gt L0 k) (gt L t) = false) (fun j => (j + 2).toNat) j0 rfl ⟨Int.le_refl _, hij, h9', fun k h1 h2 => by omega⟩ ?_
  rintro j w15 Kn15 ⟨hjj, hij2, h15, hq2⟩ hKn15
  intro _
  simp only [gx]
  have ht15 := h5.ext h15
  refine iJnB (decide ((i : Int) ≤ j) && !ltS (gt L0 j.toNat) (gt L0 a)) w15 (fun J hJ => ?_) (fun w17 h17 => ?_)
  · refine iLe ?_
    refine iCndP (fun h => ?_) (fun h => ?_)
    · rw [decide_eq_true h, Bool.true_and] at hJ
      refine iRdO (j := j.toNat) ht15.ow (by omega) (by omega) ?_
      refine iRdO (j := a) ht15.ow rfl (by omega) ?_
      exact iRetQ (fun w' _ => ok_cmp_Less_string _ _ w') (iNot hJ)
    · rw [decide_eq_false h, Bool.false_and] at hJ
      exact hJ
  intro _
  simp only [gx]
  have ht17 := ht15.ext h17
  cases hc2 : decide ((i : Int) ≤ j) && !ltS (gt L0 j.toNat) (gt L0 a)
  rotate_left
  · rw [Bool.and_eq_true, decide_eq_true_eq, Bool.not_eq_true'] at hc2
    refine iCndT rfl ?_
    refine iSub (by omega) ?_
    refine hKn15 (j - 1) _ ⟨by omega, by omega, h15.trans h17, fun k h1 h2 => ?_⟩ (by omega)
    by_cases hk : (k : Int) = j
    · rw [show k = j.toNat by omega, ← e0]; exact hc2.2
    · exact hq2 k (by omega) h2
  refine iCndF rfl ?_
  refine iLt ?_
  refine iCndP (fun h => ?_) (fun h => ?_)
  · refine iRdO (j := a) ht17.ow rfl (by omega) ?_
    refine iRdO (j := j.toNat) ht17.ow (by omega) (by omega) ?_
    refine iWr2 (i := j.toNat) (j := a) (fun _ => rfl) ht17.ow (by omega) rfl (by omega) (by omega) fun w22 h22 => ?_
    exact ⟨sw L0 j.toNat a, j.toNat, true, by rw [Int.toNat_of_nonneg (by omega)], ht17.trans h22, .step hw0 (by omega) (by omega) (Nat.le_refl _) (by omega) hb, by omega, by omega, part_end (by omega) (by omega) (by omega) e0 (fun k h1 h2 => hq k h1 (by omega)) (fun k h1 h2 => hq2 k (by omega) h2)⟩
  have hlt1 : ltS (gt L0 i) (gt L t) = false := by
    rw [decide_eq_true (show (i : Int) ≤ j0 by omega), Bool.true_and, e0] at hc; exact hc
  have hlt2 : ltS (gt L0 j.toNat) (gt L t) = true := by
    rw [decide_eq_true (show (i : Int) ≤ j by omega), Bool.true_and, Bool.not_eq_false', e0] at hc2; exact hc2
  have hne : i ≠ j.toNat := fun e => by rw [e, hlt2] at hlt1; cases hlt1
  refine iRdO (j := j.toNat) ht17.ow (by omega) (by omega) ?_
  refine iRdO (j := i) ht17.ow rfl (by omega) ?_
  refine iWr2 (i := i) (j := j.toNat) (fun _ => rfl) ht17.ow rfl (by omega) (by omega) (by omega) fun w24 h24 => ?_
  refine iAdd (by omega) ?_
  refine iSub (by omega) ?_
  have eS : ∀ k, gt (sw L0 i j.toNat) k = if k = j.toNat then gt L0 i else if k = i then gt L0 j.toNat else gt L0 k := gt_sw (by omega) (by omega)
  have nx1 : ∀ k, a + 1 ≤ k → k < i + 1 → ltS (gt (sw L0 i j.toNat) k) (gt L t) = true := fun k h1 h2 => by
    rw [eS, if_neg (by omega)]
    by_cases hk : k = i
    · rw [if_pos hk]; exact hlt2
    · rw [if_neg hk]; exact hq k h1 (by omega)
  have nx2 : ∀ k : Nat, j - 1 < k → k < b → ltS (gt (sw L0 i j.toNat) k) (gt L t) = false := fun k h1 h2 => by
    rw [eS]
    by_cases hk : k = j.toNat
    · rw [if_pos hk]; exact hlt1
    · rw [if_neg hk, if_neg (by omega)]; exact hq2 k (by omega) h2
  have nxe : gt (sw L0 i j.toNat) a = gt L t := by rw [eS, if_neg (by omega), if_neg (by omega)]; exact e0
  refine iLp (fun s : Nat × Int => [.int .i64 (s.1 : Int), .int .i64 s.2]) (fun s w' => a + 1 ≤ s.1 ∧ (s.1 : Int) ≤ s.2 + 1 ∧ s.2 < b ∧ ∃ L', Turn lo t_string sv v w w' L' ∧ SwR a b L L' ∧ gt L' a = gt L t ∧ (∀ k, a + 1 ≤ k → k < s.1 → ltS (gt L' k) (gt L t) = true) ∧ ∀ k : Nat, s.2 < k → k < b → ltS (gt L' k) (gt L t) = false) (fun s => b - s.1) (i + 1, j - 1) rfl
    ⟨by show a + 1 ≤ i + 1; omega, by show ((i + 1 : Nat) : Int) ≤ j - 1 + 1; omega, by show j - 1 < b; omega, sw L0 i j.toNat, ht17.trans h24, .step hw0 (by omega) (by omega) (by omega) (by omega) hb, nxe, nx1, nx2⟩ ?_
  clear hKn9 hKn15 nxe nx1 nx2 eS hq hq2
  rintro ⟨i1, j1⟩ w29 Kn ⟨hi1, hij1, hjb1, L1, ht1, hw1, he1, hq1, hq21⟩ hKn
  have hi1 : a + 1 ≤ i1 := hi1
  have hij1 : (i1 : Int) ≤ j1 + 1 := hij1
  have hjb1 : j1 < b := hjb1
  have hl1 := hw1.len
  intro _
  simp only [gx]
  refine iLp (fun i : Nat => [.int .i64 (i : Int)]) (fun i w' => i1 ≤ i ∧ (i : Int) ≤ j1 + 1 ∧ Ext w29 w' ∧ ∀ k, a + 1 ≤ k → k < i → ltS (gt L1 k) (gt L t) = true) (fun i => b - i) i1 rfl ⟨Nat.le_refl _, by omega, Ext.refl _, hq1⟩ ?_
  rintro i w9 Kn9 ⟨hi, hij, h9, hq⟩ hKn9
  intro _
  simp only [gx]
  have ht9 := ht1.ext h9
  refine iJnB (decide ((i : Int) ≤ j1) && ltS (gt L1 i) (gt L1 a)) w9 (fun J hJ => ?_) (fun w11 h11 => ?_)
  · refine iLe ?_
    refine iCndP (fun h => ?_) (fun h => ?_)
    · rw [decide_eq_true h, Bool.true_and] at hJ
      refine iRdO (j := i) ht9.ow rfl (by omega) ?_
      refine iRdO (j := a) ht9.ow rfl (by omega) ?_
      exact iRetQ (fun w' _ => ok_cmp_Less_string _ _ w') hJ
    · rw [decide_eq_false h, Bool.false_and] at hJ
      exact hJ
  intro _
  simp only [gx]
  have h9' := h9.trans h11
  cases hc : decide ((i : Int) ≤ j1) && ltS (gt L1 i) (gt L1 a)
  rotate_left
  · rw [Bool.and_eq_true, decide_eq_true_eq] at hc
    refine iCndT rfl ?_
    (refine iAdd (by omega) ?_)
    refine hKn9 (i + 1) _ ⟨by omega, by omega, h9', fun k h1 h2 => ?_⟩ (by omega)
    by_cases hk : k = i
    · rw [hk, ← he1]; exact hc.2
    · exact hq k h1 (by omega)
  refine iCndF rfl ?_
  refine iLp (fun j : Int => [.int .i64 j]) (fun j w' => j ≤ j1 ∧ (i : Int) ≤ j + 1 ∧ Ext w29 w' ∧ ∀ k : Nat, j < k → k < b → ltS (gt L1 k) (gt L t) = false) (fun j => (j + 2).toNat) j1 rfl ⟨Int.le_refl _, hij, h9', hq21⟩ ?_
  rintro j w15 Kn15 ⟨hjj, hij2, h15, hq2⟩ hKn15
  intro _
  simp only [gx]
  have ht15 := ht1.ext h15
  refine iJnB (decide ((i : Int) ≤ j) && !ltS (gt L1 j.toNat) (gt L1 a)) w15 (fun J hJ => ?_) (fun w17 h17 => ?_)
  · refine iLe ?_
    refine iCndP (fun h => ?_) (fun h => ?_)
    · rw [decide_eq_true h, Bool.true_and] at hJ
      refine iRdO (j := j.toNat) ht15.ow (by omega) (by omega) ?_
      refine iRdO (j := a) ht15.ow rfl (by omega) ?_
      exact iRetQ (fun w' _ => ok_cmp_Less_string _ _ w') (iNot hJ)
    · rw [decide_eq_false h, Bool.false_and] at hJ
      exact hJ
  intro _
  simp only [gx]
  have ht17 := ht15.ext h17
  cases hc2 : decide ((i : Int) ≤ j) && !ltS (gt L1 j.toNat) (gt L1 a)
  rotate_left
  · rw [Bool.and_eq_true, decide_eq_true_eq, Bool.not_eq_true'] at hc2
    refine iCndT rfl ?_
    refine iSub (by omega) ?_
    refine hKn15 (j - 1) _ ⟨by omega, by omega, h15.trans h17, fun k h1 h2 => ?_⟩ (by omega)
    by_cases hk : (k : Int) = j
    · rw [show k = j.toNat by omega, ← he1]; exact hc2.2
    · exact hq2 k (by omega) h2
  refine iCndF rfl ?_
  refine iLt ?_
  refine iCndP (fun h => ?_) (fun h => ?_)
  · refine iRdO (j := a) ht17.ow rfl (by omega) ?_
    refine iRdO (j := j.toNat) ht17.ow (by omega) (by omega) ?_
    refine iWr2 (i := j.toNat) (j := a) (fun _ => rfl) ht17.ow (by omega) rfl (by omega) (by omega) fun w22 h22 => ?_
    exact ⟨sw L1 j.toNat a, j.toNat, false, by rw [Int.toNat_of_nonneg (by omega)], ht17.trans h22, .step hw1 (by omega) (by omega) (Nat.le_refl _) (by omega) hb, by omega, by omega, part_end (by omega) (by omega) (by omega) he1 (fun k h1 h2 => hq k h1 (by omega)) (fun k h1 h2 => hq2 k (by omega) h2)⟩
  have hlt1 : ltS (gt L1 i) (gt L t) = false := by
    rw [decide_eq_true (show (i : Int) ≤ j1 by omega), Bool.true_and, he1] at hc; exact hc
  have hlt2 : ltS (gt L1 j.toNat) (gt L t) = true := by
    rw [decide_eq_true (show (i : Int) ≤ j by omega), Bool.true_and, Bool.not_eq_false', he1] at hc2; exact hc2
  have hne : i ≠ j.toNat := fun e => by rw [e, hlt2] at hlt1; cases hlt1
  refine iRdO (j := j.toNat) ht17.ow (by omega) (by omega) ?_
  refine iRdO (j := i) ht17.ow rfl (by omega) ?_
  refine iWr2 (i := i) (j := j.toNat) (fun _ => rfl) ht17.ow rfl (by omega) (by omega) (by omega) fun w24 h24 => ?_
  refine iAdd (by omega) ?_
  refine iSub (by omega) ?_
  have eS : ∀ k, gt (sw L1 i j.toNat) k = if k = j.toNat then gt L1 i else if k = i then gt L1 j.toNat else gt L1 k := gt_sw (by omega) (by omega)
  have nx1 : ∀ k, a + 1 ≤ k → k < i + 1 → ltS (gt (sw L1 i j.toNat) k) (gt L t) = true := fun k h1 h2 => by
    rw [eS, if_neg (by omega)]
    by_cases hk : k = i
    · rw [if_pos hk]; exact hlt2
    · rw [if_neg hk]; exact hq k h1 (by omega)
  have nx2 : ∀ k : Nat, j - 1 < k → k < b → ltS (gt (sw L1 i j.toNat) k) (gt L t) = false := fun k h1 h2 => by
    rw [eS]
    by_cases hk : k = j.toNat
    · rw [if_pos hk]; exact hlt1
    · rw [if_neg hk, if_neg (by omega)]; exact hq2 k (by omega) h2
  have nxe : gt (sw L1 i j.toNat) a = gt L t := by rw [eS, if_neg (by omega), if_neg (by omega)]; exact he1
  exact hKn (i + 1, j - 1) _ ⟨by show a + 1 ≤ i + 1; omega, by show ((i + 1 : Nat) : Int) ≤ j - 1 + 1; omega, by show j - 1 < b; omega, sw L1 i j.toNat, ht17.trans h24, .step hw1 (by omega) (by omega) (by omega) (by omega) hb, nxe, nx1, nx2⟩ (by show b - (i + 1) < b - i1; omega)
theorem ok_slices_partialInsertionSortOrdered_string {lo : Nat} {w : World} {v : Value} {L : List Str} {a b : Nat} (hs : Ow lo t_string w v (strs L)) (hab : a < b) (hb : b ≤ L.length) (hL : L.length ≤ 1152921504606846976) (hbl : Blw ltS a b L) :
    Cal Tryz.prog f_slices_partialInsertionSortOrdered_string #[v, .int .i64 (a : Int), .int .i64 (b : Int)] w fun r w' => ∃ y : Bool, ∃ L' : List Str, r = .bool y ∧ Turn lo t_string sv v w w' L' ∧ SwR a b L L' ∧ (y = true → Srt ltS a b L') := by
  apply c_slices_partialInsertionSortOrdered_string; unfold S_slices_partialInsertionSortOrdered_string
  (refine iAdd (by omega) ?_)
  refine iLp (fun s : Nat × Nat => [.int .i64 (s.1 : Int), .int .i64 (s.2 : Int)]) (fun s w' => a + 1 ≤ s.1 ∧ s.1 ≤ b ∧ s.2 ≤ 5 ∧ ∃ L', Turn lo t_string sv v w w' L' ∧ SwR a b L L' ∧ Srt ltS a s.1 L') (fun s => 5 - s.2) (a + 1, 0) rfl ⟨Nat.le_refl _, by show a + 1 ≤ b; omega, Nat.zero_le _, L, Turn.refl hs, .refl, Srt.short (Nat.le_refl _)⟩ ?_
  rintro ⟨i0, r⟩ w2 Kn ⟨hi0, hib0, hr, L1, ht1, hw1, hs1⟩ hKn
  have hi0 : a + 1 ≤ i0 := hi0
  have hib0 : i0 ≤ b := hib0
  have hr : r ≤ 5 := hr
  have hs1 : Srt ltS a i0 L1 := hs1
  have hl1 := hw1.len
  intro _
  simp only [gx]
  refine iLt ?_
  refine iCndP (fun h5 => ?_) (fun h5 => ?_)
  rotate_left
  · exact ⟨false, L1, rfl, ht1, hw1, fun h => by cases h⟩
  refine iLp (fun i : Nat => [.int .i64 (i : Int)]) (fun i w' => i0 ≤ i ∧ i ≤ b ∧ Ext w2 w' ∧ Srt ltS a i L1) (fun i => b - i) i0 rfl ⟨Nat.le_refl _, hib0, Ext.refl _, hs1⟩ ?_
  rintro i w4 Kn4 ⟨hi, hib, h4, hsi⟩ hKn4
  intro _
  simp only [gx]
  have ht4 := ht1.ext h4
  refine iJnB (decide (i < b) && !ltS (gt L1 i) (gt L1 (i - 1))) w4 (fun J hJ => ?_) (fun w6 h6 => ?_)
  · refine iLt ?_
    refine iCndP (fun h => ?_) (fun h => ?_)
    · rw [decide_eq_true (show i < b by omega), Bool.true_and] at hJ
      refine iRdO (j := i) ht4.ow rfl (by omega) ?_
      refine iSub (by omega) ?_
      refine iRdO (j := i - 1) ht4.ow (by omega) (by omega) ?_
      exact iRetQ (fun w' _ => ok_cmp_Less_string _ _ w') (iNot hJ)
    · rw [decide_eq_false (show ¬ i < b by omega), Bool.false_and] at hJ
      exact hJ
  intro _
  simp only [gx]
  have ht6 := ht4.ext h6
  cases hc : decide (i < b) && !ltS (gt L1 i) (gt L1 (i - 1))
  rotate_left
  · rw [Bool.and_eq_true, decide_eq_true_eq, Bool.not_eq_true'] at hc
    refine iCndT rfl ?_
    refine iAdd (by omega) ?_
    refine hKn4 (i + 1) _ ⟨by omega, by omega, h4.trans h6, fun p q g1 g2 g3 => ?_⟩ (by omega)
    by_cases hq : q = i
    · subst hq
      by_cases hp : p = q - 1
      · rw [hp]; exact hc.2
      · exact ordrS.tr (hsi p (q - 1) g1 (by omega) (by omega)) hc.2
    · exact hsi p q g1 g2 (by omega)
  refine iCndF rfl ?_
  refine iEq ?_
  refine iCndP (fun h => ?_) (fun h => ?_)
  · have : i = b := by omega
    subst this
    exact ⟨true, L1, rfl, ht6, hw1, fun _ => hsi⟩
  have hlt : ltS (gt L1 i) (gt L1 (i - 1)) = true := by
    rw [decide_eq_true (show i < b by omega), Bool.true_and, Bool.not_eq_false'] at hc; exact hc
  refine iSub (by omega) ?_
  refine iLt ?_
  refine iCndP (fun h7 => ?_) (fun h7 => ?_)
  · exact ⟨false, L1, rfl, ht6, hw1, fun h => by cases h⟩
  refine iSub (by omega) ?_
  refine iSub (by omega) ?_
  refine iRdO (j := i - 1) ht6.ow (by omega) (by omega) ?_
  refine iRdO (j := i) ht6.ow rfl (by omega) ?_
  refine iWr2 (i := i) (j := i - 1) (fun _ => rfl) ht6.ow rfl (by omega) (by omega) (by omega) fun w13 h13 => ?_
  have h13 : Turn lo t_string sv v w6 w13 (sw L1 i (i - 1)) := h13
  have hw2 : SwR a b L1 (sw L1 i (i - 1)) := .one (by omega) (by omega) (by omega) (by omega) (by omega)
  have hs2 : Srt ltS a (i - 1) (sw L1 i (i - 1)) := (hsi.mono (Nat.le_refl _) (by omega)).out (SwR.one (a := i - 1) (b := b) (by omega) (by omega) (by omega) (by omega) (by omega)) (.inr (Nat.le_refl _))
  have ht13 := ht6.trans h13
  have hw13 := hw1.trans hw2
  generalize sw L1 i (i - 1) = L2 at h13 hw2 hs2 ht13 hw13
  have hl2 := hw13.len
  have hbl2 : Blw ltS a b L2 := hbl.keep hw13 (Nat.le_refl _) (Nat.le_refl _)
  refine iSub (by omega) ?_
  refine iLe ?_
  refine iJnX (fun _ w' => ∃ L', Turn lo t_string sv v w w' L' ∧ SwR a b L L' ∧ Srt ltS a i L') (fun J hJ => ?_) ?_
  · refine iCndP (fun h8 => ?_) (fun h8 => ?_)
    · refine iSub (by omega) ?_
      refine iLp (fun j : Nat => [.int .i64 (j : Int)]) (fun j w' => a ≤ j ∧ j ≤ i - 1 ∧ ∃ L', Turn lo t_string sv v w w' L' ∧ SwR a b L L' ∧ Blw ltS a b L' ∧ Ins ltS a (i - 1) j L') (fun j => j) (i - 1) (by congr 2; omega) ⟨by omega, Nat.le_refl _, L2, ht13, hw13, hbl2, Ins.init hs2⟩ ?_
      rintro j w17 Kn17 ⟨haj, hji, L3, ht3, hw3, hbl3, hin⟩ hKn17
      have hl3 := hw3.len
      intro _
      simp only [gx]
      refine iLe ?_
      refine iCndP (fun h9 => ?_) (fun h9 => ?_)
      · refine iRdO (j := j) ht3.ow rfl (by omega) ?_
        refine iSub (by omega) ?_
        refine iRdO (j := j - 1) ht3.ow (by omega) (by omega) ?_
        refine iRetQ (fun w' _ => ok_cmp_Less_string _ _ w') ?_
        refine iNot ?_
        intro w18 h18
        have ht18 := ht3.ext h18
        refine iCnd (fun h10 => ?_) (fun h10 => ?_)
        · have h10 : ltS (gt L3 j) (gt L3 (j - 1)) = false := by simpa using h10
          refine hJ _ _ ⟨L3, ht18, hw3, ?_⟩
          have := hin.done ordrS (by rcases Nat.lt_or_ge a j with h' | h'; exact .inr ⟨h', h10⟩; exact .inl h') hji
          rwa [show i - 1 + 1 = i by omega] at this
        · have h10 : ltS (gt L3 j) (gt L3 (j - 1)) = true := by simpa using h10
          have haj' : a < j := by
            rcases Nat.lt_or_ge a j with h' | h'
            · exact h'
            · have e : j = a := by omega
              subst e
              have := hbl3 j (Nat.le_refl _) (by omega) (by omega)
              rw [h10] at this; cases this
          refine iSub (by omega) ?_
          refine iSub (by omega) ?_
          refine iRdO (j := j - 1) ht18.ow (by omega) (by omega) ?_
          refine iRdO (j := j) ht18.ow rfl (by omega) ?_
          refine iWr2 (i := j) (j := j - 1) (fun _ => rfl) ht18.ow rfl (by omega) (by omega) (by omega) fun w23 h23 => ?_
          refine iSub (by omega) ?_
          rw [show (j : Int) - 1 = ((j - 1 : Nat) : Int) by omega]
          have hw4 : SwR a b L3 (sw L3 j (j - 1)) := .one (by omega) (by omega) (by omega) (by omega) (by omega)
          exact hKn17 (j - 1) _ ⟨by omega, by omega, sw L3 j (j - 1), ht18.trans h23, hw3.trans hw4, hbl3.keep hw4 (Nat.le_refl _) (Nat.le_refl _), hin.swap ordrS haj' hji (by omega) h10⟩ (by omega)
      · refine hJ _ _ ⟨L3, ht3, hw3, ?_⟩
        have := hin.done ordrS (.inl (by omega)) hji
        rwa [show i - 1 + 1 = i by omega] at this
    · exact hJ _ _ ⟨L2, ht13, hw13, Srt.short (by omega)⟩
  rintro xs w15 ⟨L3, ht3, hw3, hs3⟩
  have hl3 := hw3.len
  intro _
  refine iSub (by omega) ?_
  refine iLe ?_
  refine iCndP (fun h8 => ?_) (fun h8 => ?_)
  · refine iAdd (by omega) ?_
    refine iLp (fun j : Nat => [.int .i64 (j : Int)]) (fun j w' => i + 1 ≤ j ∧ j ≤ b ∧ ∃ L', Turn lo t_string sv v w w' L' ∧ SwR a b L L' ∧ Srt ltS a i L') (fun j => b - j) (i + 1) rfl ⟨Nat.le_refl _, by omega, L3, ht3, hw3, hs3⟩ ?_
    rintro j w25 Kn25 ⟨hij, hjb, L4, ht4, hw4, hs4⟩ hKn25
    have hl4 := hw4.len
    intro _
    simp only [gx]
    refine iLt ?_
    refine iCndP (fun h9 => ?_) (fun h9 => ?_)
    · refine iRdO (j := j) ht4.ow rfl (by omega) ?_
      refine iSub (by omega) ?_
      refine iRdO (j := j - 1) ht4.ow (by omega) (by omega) ?_
      refine iRetQ (fun w' _ => ok_cmp_Less_string _ _ w') ?_
      refine iNot ?_
      intro w26 h26
      have ht26 := ht4.ext h26
      refine iCnd (fun h10 => ?_) (fun h10 => ?_)
      · refine iAdd (by omega) ?_
        exact hKn (i, r + 1) _ ⟨by show a + 1 ≤ i; omega, hib, by show r + 1 ≤ 5; omega, L4, ht26, hw4, hs4⟩ (by show 5 - (r + 1) < 5 - r; omega)
      · refine iSub (by omega) ?_
        refine iSub (by omega) ?_
        refine iRdO (j := j - 1) ht26.ow (by omega) (by omega) ?_
        refine iRdO (j := j) ht26.ow rfl (by omega) ?_
        refine iWr2 (i := j) (j := j - 1) (fun _ => rfl) ht26.ow rfl (by omega) (by omega) (by omega) fun w31 h31 => ?_
        refine iAdd (by omega) ?_
        exact hKn25 (j + 1) _ ⟨by omega, by omega, sw L4 j (j - 1), ht26.trans h31, .step hw4 (by omega) (by omega) (by omega) (by omega) hb, hs4.out (SwR.one (a := i) (b := b) (by omega) (by omega) (by omega) (by omega) (by omega)) (.inr (Nat.le_refl _))⟩ (by omega)
    · refine iAdd (by omega) ?_
      exact hKn (i, r + 1) _ ⟨by show a + 1 ≤ i; omega, hib, by show r + 1 ≤ 5; omega, L4, ht4, hw4, hs4⟩ (by show 5 - (r + 1) < 5 - r; omega)
  · refine iAdd (by omega) ?_
    exact hKn (i, r + 1) _ ⟨by show a + 1 ≤ i; omega, hib, by show r + 1 ≤ 5; omega, L3, ht3, hw3, hs3⟩ (by show 5 - (r + 1) < 5 - r; omega)
theorem ok_slices_pdqsortOrdered_string {lo : Nat} {v : Value} : ∀ (n : Nat) {w : World} {L : List Str} {a b : Nat} {lim : Int}, b - a ≤ n → Ow lo t_string w v (strs L) → a ≤ b → b ≤ L.length → L.length ≤ 1152921504606846976 → Blw ltS a b L → 0 ≤ lim ∧ lim ≤ 64 →
    Cal Tryz.prog f_slices_pdqsortOrdered_string #[v, .int .i64 (a : Int), .int .i64 (b : Int), .int .i64 lim] w fun _ w' => ∃ L', Turn lo t_string sv v w w' L' ∧ SwR a b L L' ∧ Srt ltS a b L' := by
  intro n
  induction n using Nat.strongRecOn with
  | ind n ih =>
  intro w L a0 b0 lim0 hn hs hab hb hL hbl hlim
  apply c_slices_pdqsortOrdered_string; unfold S_slices_pdqsortOrdered_string
  refine iLp (fun s : Nat × Nat × Int × Bool × Bool => [.int .i64 (s.1 : Int), .int .i64 (s.2.1 : Int), .int .i64 s.2.2.1, .bool s.2.2.2.1, .bool s.2.2.2.2]) (fun s w' => a0 ≤ s.1 ∧ s.1 ≤ s.2.1 ∧ s.2.1 ≤ b0 ∧ (0 ≤ s.2.2.1 ∧ s.2.2.1 ≤ 64) ∧ ∃ L', Turn lo t_string sv v w w' L' ∧ SwR a0 b0 L L' ∧ Blw ltS s.1 s.2.1 L' ∧ Crs ltS a0 b0 s.1 s.2.1 L') (fun s => s.2.1 - s.1) (a0, b0, lim0, true, true) rfl
    ⟨Nat.le_refl _, hab, Nat.le_refl _, hlim, L, Turn.refl hs, .refl, hbl, Crs.all⟩ ?_
  rintro ⟨a, b, lim, bal, par⟩ w2 Kn ⟨ha, hab, hbb, hlim, L1, ht1, hw1, hbl1, hcr1⟩ hKn
  have ha : a0 ≤ a := ha
  have hab : a ≤ b := hab
  have hbb : b ≤ b0 := hbb
  have hlim : 0 ≤ lim ∧ lim ≤ 64 := hlim
  have hbl1 : Blw ltS a b L1 := hbl1
  have hcr1 : Crs ltS a0 b0 a b L1 := hcr1
  have hl1 := hw1.len
  intro _
  simp only [gx]
  -- a sorted window closes the work
  have fin : ∀ {L' L'' : List Str} {w' : World} {a b : Nat}, Turn lo t_string sv v w w' L'' → SwR a0 b0 L L' → SwR a b L' L'' → a0 ≤ a → b ≤ b0 → Crs ltS a0 b0 a b L' → Srt ltS a b L'' → ∃ L', Turn lo t_string sv v w w' L' ∧ SwR a0 b0 L L' ∧ Srt ltS a0 b0 L' :=
    fun {L' L'' w' a b} h1 h2 h3 h4 h5 h6 h7 => ⟨L'', h1, h2.trans (h3.mono h4 h5 (by rw [h2.len]; exact hb)), h6.done h3 h4 h5 h7⟩
  refine iSub (by omega) ?_
  refine iLe ?_
  refine iCndP (fun h => ?_) (fun h => ?_)
  · refine iCall ?_
    refine (ok_slices_insertionSortOrdered_string ht1.ow hab (by omega) (by omega)).mono fun _ w3 h3 => ?_
    obtain ⟨L2, ht2, hw2, hs2⟩ := h3
    exact fin (ht1.trans ht2) hw1 hw2 ha hbb hcr1 hs2
  refine iEq ?_
  refine iCndP (fun h0 => ?_) (fun h0 => ?_)
  · refine iCall ?_
    refine (ok_slices_heapSortOrdered_string ht1.ow (by omega) (by omega) (by omega)).mono fun _ w3 h3 => ?_
    obtain ⟨L2, ht2, hw2, hs2⟩ := h3
    exact fin (ht1.trans ht2) hw1 hw2 ha hbb hcr1 hs2
  refine iNot ?_
  refine iJnX (fun xs w' => ∃ l2 : Int, ∃ L', xs = [.int .i64 l2] ∧ (0 ≤ l2 ∧ l2 ≤ 64) ∧ Turn lo t_string sv v w w' L' ∧ SwR a b L1 L') (fun J hJ => ?_) ?_
  · refine iCnd (fun _ => ?_) (fun _ => ?_)
    · refine iCall ?_
      refine (ok_slices_breakPatternsOrdered_string ht1.ow hab (by omega) (by omega)).mono fun _ w3 h3 => ?_
      obtain ⟨L2, ht2, hw2⟩ := h3
      refine iSub (by omega) ?_
      exact hJ _ _ ⟨lim - 1, L2, rfl, by omega, ht1.trans ht2, hw2⟩
    · exact hJ _ _ ⟨lim, L1, rfl, hlim, ht1, .refl⟩
  rintro xs w6 ⟨lim, L2, rfl, hlim, ht2, hw2⟩
  have hl2 := hw2.len
  intro _
  simp only [gx]
  refine iCall ?_
  refine (ok_slices_choosePivotOrdered_string ht2.ow (by omega) (by omega) (by omega)).mono fun r w8 h8 => ?_
  obtain ⟨h8, t, x, rfl, hat, htb⟩ := h8
  have ht8 := ht2.ext h8
  refine iE20 ?_
  refine iE21 ?_
  refine iEq ?_
  refine iJnX (fun xs w' => ∃ t : Nat, ∃ x : Int, ∃ L', xs = [.int .i64 (t : Int), .int .i64 x] ∧ a ≤ t ∧ t < b ∧ Turn lo t_string sv v w w' L' ∧ SwR a b L1 L') (fun J hJ => ?_) ?_
  · refine iCndP (fun _ => ?_) (fun _ => ?_)
    · refine iCall ?_
      refine (ok_slices_reverseRangeOrdered_string ht8.ow hab (by omega) (by omega)).mono fun _ w3 h3 => ?_
      obtain ⟨L3, ht3, hw3⟩ := h3
      refine iSub (by omega) ?_
      refine iSub (by omega) ?_
      refine iSub (by omega) ?_
      exact hJ _ _ ⟨b - 1 - (t - a), 1, L3, by congr 2; omega, by omega, by omega, ht8.trans ht3, hw2.trans hw3⟩
    · exact hJ _ _ ⟨t, x, L2, rfl, hat, htb, ht8, hw2⟩
  clear hat htb
  rintro xs w10 ⟨t, x, L3, rfl, hat, htb, ht3, hw3⟩
  intro _
  simp only [gx]
  refine iJnX (fun xs w' => ∃ y : Bool, xs = [.bool y] ∧ Ext w10 w') (fun J hJ => ?_) ?_
  · refine iCnd (fun _ => ?_) (fun _ => ?_)
    · refine iCnd (fun _ => ?_) (fun _ => ?_)
      · refine iEq ?_
        exact hJ _ _ ⟨_, rfl, Ext.refl _⟩
      · exact hJ _ _ ⟨false, rfl, Ext.refl _⟩
    · exact hJ _ _ ⟨false, rfl, Ext.refl _⟩
  rintro xs w13 ⟨y, rfl, h13⟩
  intro _
  simp only [gx]
  have ht13 := ht3.ext h13
  have hl3 := hw3.len
  refine iJnX (fun _ w' => ∃ L', Turn lo t_string sv v w w' L' ∧ SwR a b L1 L') (fun J hJ => ?_) ?_
  · refine iCnd (fun _ => ?_) (fun _ => ?_)
    · refine iCall ?_
      refine (ok_slices_partialInsertionSortOrdered_string ht13.ow (by omega) (by omega) (by omega) (hbl1.keep hw3 (Nat.le_refl _) (Nat.le_refl _))).mono fun r w3 h3 => ?_
      obtain ⟨y', L4, rfl, ht4, hw4, hs4⟩ := h3
      refine iCnd (fun hy => ?_) (fun hy => ?_)
      · exact fin (ht13.trans ht4) hw1 (hw3.trans hw4) ha hbb hcr1 (hs4 hy)
      · exact hJ _ _ ⟨L4, ht13.trans ht4, hw3.trans hw4⟩
    · exact hJ _ _ ⟨L3, ht13, hw3⟩
  clear ht3 hw3 ht13 ht8 ht2 hw2 hl2 hl3
  rintro xs w15 ⟨L3, ht3, hw3⟩
  have hl3 := hw3.len
  have hw3' : SwR a0 b0 L L3 := hw1.trans (hw3.mono ha hbb (by omega))
  have hbl3 : Blw ltS a b L3 := hbl1.keep hw3 (Nat.le_refl _) (Nat.le_refl _)
  have hcr3 : Crs ltS a0 b0 a b L3 := hcr1.keep hw3 ha hbb
  intro _
  refine iJnB (decide (0 < a) && !ltS (gt L3 (a - 1)) (gt L3 t)) w15 (fun J hJ => ?_) (fun w18 h18 => ?_)
  · refine iLt ?_
    refine iCndP (fun h5 => ?_) (fun h5 => ?_)
    · rw [decide_eq_true (show 0 < a by omega), Bool.true_and] at hJ
      refine iSub (by omega) ?_
      refine iRdO (j := a - 1) ht3.ow (by omega) (by omega) ?_
      refine iRdO (j := t) ht3.ow rfl (by omega) ?_
      exact iRetQ (fun w' _ => ok_cmp_Less_string _ _ w') (iNot hJ)
    · rw [decide_eq_false (show ¬ 0 < a by omega), Bool.false_and] at hJ
      exact hJ
  intro _
  simp only [gx]
  have ht18 := ht3.ext h18
  cases hc : decide (0 < a) && !ltS (gt L3 (a - 1)) (gt L3 t)
  rotate_left
  · rw [Bool.and_eq_true, decide_eq_true_eq, Bool.not_eq_true'] at hc
    refine iCndT rfl ?_
    refine iCall ?_
    refine (ok_slices_partitionEqualOrdered_string ht18.ow hat htb (by omega) (by omega)).mono fun r w21 h21 => ?_
    obtain ⟨L4, m, rfl, ht4, hw4, ham, hmb, hle⟩ := h21
    have hge : ∀ k, a ≤ k → k < b → ltS (gt L4 k) (gt L3 t) = false := hw4.all (p := fun z => ltS z (gt L3 t) = false) fun k hk hk' => ordrS.tr hc.2 (hbl3 k hk hk' (by omega))
    refine hKn (m, b, lim, bal, par) _ ⟨by show a0 ≤ m; omega, hmb, hbb, hlim, L4, ht18.trans ht4, hw3'.trans (hw4.mono ha hbb (by rw [hw3'.len]; omega)), equal_blw ordrS hge hle ham, equal_up ordrS (hcr3.keep hw4 ha hbb) hge hle hmb⟩ (by show b - m < b - a; omega)
  refine iCndF rfl ?_
  refine iCall ?_
  refine (ok_slices_partitionOrdered_string ht18.ow hat htb (by omega) (by omega)).mono fun r w22 h22 => ?_
  obtain ⟨L4, m, y', rfl, ht4, hw4, ham, hmb, hpt⟩ := h22
  have hl4 := hw4.len
  have ht22 := ht18.trans ht4
  have hw4' : SwR a0 b0 L L4 := hw3'.trans (hw4.mono ha hbb (by rw [hw3'.len]; omega))
  have hbl4 : Blw ltS a b L4 := hbl3.keep hw4 (Nat.le_refl _) (Nat.le_refl _)
  have hcr4 : Crs ltS a0 b0 a b L4 := hcr3.keep hw4 ha hbb
  refine iE20 ?_
  refine iE21 ?_
  refine iSub (by omega) ?_
  refine iSub (by omega) ?_
  refine iQuo (by omega) ?_
  refine iLt ?_
  refine iCndP (fun h5 => ?_) (fun h5 => ?_)
  · refine iLe ?_
    refine iCall ?_
    refine (ih (m - a) (by omega) (Nat.le_refl _) ht22.ow ham (by omega) (by omega) (hbl4.low (by omega)) hlim).mono fun _ w23 h23 => ?_
    obtain ⟨L5, ht5, hw5, hs5⟩ := h23
    have hw5' : SwR a b L4 L5 := hw5.mono (Nat.le_refl _) (by omega) (by omega)
    have hpt5 := hpt.lowS hw5
    refine iAdd (by omega) ?_
    exact hKn (m + 1, b, lim, _, y') _ ⟨by show a0 ≤ m + 1; omega, by show m + 1 ≤ b; omega, hbb, hlim, L5, ht22.trans ht5, hw4'.trans (hw5'.mono ha hbb (by rw [hw4'.len]; omega)), hpt5.blw, hpt5.up ordrS (hcr4.keep hw5' ha hbb) hs5⟩ (by show b - (m + 1) < b - a; omega)
  · refine iLe ?_
    refine iAdd (by omega) ?_
    refine iCall ?_
    refine (ih (b - (m + 1)) (by omega) (a := m + 1) (Nat.le_refl _) ht22.ow (by omega) (by omega) (by omega) hpt.blw hlim).mono fun _ w23 h23 => ?_
    obtain ⟨L5, ht5, hw5, hs5⟩ := h23
    have hw5' : SwR a b L4 L5 := hw5.mono (by omega) (Nat.le_refl _) (by omega)
    have hpt5 := hpt.highS hw5
    exact hKn (a, m, lim, _, y') _ ⟨ha, ham, by show m ≤ b0; omega, hlim, L5, ht22.trans ht5, hw4'.trans (hw5'.mono ha hbb (by rw [hw4'.len]; omega)), (hbl4.keep hw5' (Nat.le_refl _) (Nat.le_refl _)).low (Nat.le_of_lt hmb), hpt5.down ordrS (hcr4.keep hw5' ha hbb) hs5⟩ (by show m - a < b - a; omega)
theorem ok_slices_Sort_Sstring_string {lo : Nat} {w : World} {v : Value} {L : List Str} (hs : Ow lo t_string w v (strs L)) (hL : L.length ≤ 1152921504606846976) :
    Cal Tryz.prog f_slices_Sort_Sstring_string #[v] w fun _ w' => ∃ L' : List Str, Ow lo t_string w' v (strs L') ∧ Ch (fun c => v.ownBlock = some c) w w' ∧ List.Perm L' L ∧ L'.Pairwise fun x y => ltS y x = false := by
  apply c_slices_Sort_Sstring_string; unfold S_slices_Sort_Sstring_string
  refine iLenStr hs.sl ?_
  refine iConvU (by omega) ?_
  refine iCall ?_
  refine (ok_math_bits_LenT (by omega) w).mono fun r w1 h1 => ?_
  obtain ⟨h1, k, rfl, -, -, hk⟩ := h1
  refine iCall ?_
  refine (ok_slices_pdqsortOrdered_string (a := 0) (b := L.length) (lim := (k : Int)) L.length (by omega) (hs.ext h1) (Nat.zero_le _) (Nat.le_refl _) hL (fun k _ _ h => by omega) (by omega)).mono fun _ w2 h2 => ?_
  obtain ⟨L', ht, hw, hst⟩ := h2
  rw [← hw.len] at hst
  exact ⟨L', ht.ow, (h1.ch (S := fun c => v.ownBlock = some c)).trans ht.ch fun _ e => .inl e, hw.perm, hst.pairwise⟩
end Go.Proofs.YteifjhpddhppcaaGreat

/- Plain facts on sets of texts in order: insertion, equal neighbours dropped, one list for each set. No program in sight. Conditions: none. -/
namespace Go.Vc
abbrev Inc (L : List Str) : Prop := L.Pairwise fun x y => ltS x y = true
theorem inc_cons {x : Str} {l : List Str} : Inc (x :: l) ↔ (∀ y ∈ l, ltS x y = true) ∧ Inc l := List.pairwise_cons
/-- Two lists in order with the same members are the same. -/
theorem inc_ext : ∀ {A B : List Str}, Inc A → Inc B → (∀ x, x ∈ A ↔ x ∈ B) → A = B
  | [], [], _, _, _ => rfl
  | [], y :: B, _, _, h => by have := (h y).2 List.mem_cons_self; cases this
  | x :: A, [], _, _, h => by have := (h x).1 List.mem_cons_self; cases this
  | x :: A, y :: B, hA, hB, h => by
    rw [inc_cons] at hA hB
    have e : x = y := by
      rcases List.mem_cons.1 ((h x).1 List.mem_cons_self) with e | e
      · exact e
      · rcases List.mem_cons.1 ((h y).2 List.mem_cons_self) with e' | e'
        · exact e'.symm
        · have h1 := hB.1 x e
          have h2 := hA.1 y e'
          rw [ltS_asymm h1] at h2; cases h2
    subst e
    rw [inc_ext hA.2 hB.2 fun z => ?_]
    have hz := h z
    simp only [List.mem_cons] at hz
    constructor
    · intro hm
      rcases hz.1 (.inr hm) with e | e
      · subst e; have := hA.1 z hm; rw [ltS_irrefl] at this; cases this
      · exact e
    · intro hm
      rcases hz.2 (.inr hm) with e | e
      · subst e; have := hB.1 z hm; rw [ltS_irrefl] at this; cases this
      · exact e
/-- A text laid into a list in order. -/
def insT (t : Str) : List Str → List Str
  | [] => [t]
  | x :: l => if ltS x t then x :: insT t l else if x = t then x :: l else t :: x :: l
theorem mem_insT {t x : Str} : ∀ {l : List Str}, x ∈ insT t l ↔ x = t ∨ x ∈ l
  | [] => by simp [insT]
  | y :: l => by
    unfold insT
    split
    · rw [List.mem_cons, mem_insT, List.mem_cons]
      constructor
      · rintro (h | h | h)
        · exact .inr (.inl h)
        · exact .inl h
        · exact .inr (.inr h)
      · rintro (h | h | h)
        · exact .inr (.inl h)
        · exact .inl h
        · exact .inr (.inr h)
    · split
      · rename_i h; subst h; simp
      · simp
theorem inc_insT {t : Str} : ∀ {l : List Str}, Inc l → Inc (insT t l)
  | [], _ => by simp [insT]
  | y :: l, h => by
    unfold insT
    rw [inc_cons] at h
    split
    · rename_i hy
      refine List.pairwise_cons.2 ⟨fun z hz => ?_, inc_insT h.2⟩
      rcases mem_insT.1 hz with e | e
      · subst e; exact hy
      · exact h.1 z e
    · rename_i hy
      split
      · exact List.pairwise_cons.2 h
      · rename_i hne
        have hty : ltS t y = true := by
          rcases ltS_total t y with e | e | e
          · exact e
          · exact absurd e.symm hne
          · exact absurd e hy
        refine List.pairwise_cons.2 ⟨fun z hz => ?_, List.pairwise_cons.2 h⟩
        rcases List.mem_cons.1 hz with e | e
        · subst e; exact hty
        · exact ltS_trans hty (h.1 z e)
theorem insT_split {t : Str} : ∀ {l : List Str} {k : Nat}, k ≤ l.length → (∀ i, i < k → ltS (gt l i) t = true) → insT t l = l.take k ++ insT t (l.drop k)
  | _, 0, _, _ => rfl
  | [], k + 1, hk, _ => by simp at hk
  | x :: l, k + 1, hk, h => by
    have h0 : ltS x t = true := h 0 (by omega)
    have := insT_split (t := t) (l := l) (k := k) (by simpa using hk) fun i hi => h (i + 1) (by omega)
    rw [insT, if_pos h0, this]
    rfl
/-- The set of a list's texts, in order. -/
def setT (l : List Str) : List Str := l.foldl (fun a x => insT x a) []
theorem setT_snoc (l : List Str) (x : Str) : setT (l ++ [x]) = insT x (setT l) := by simp [setT]
theorem inc_setT (l : List Str) : Inc (setT l) := by
  unfold setT
  suffices h : ∀ (l a : List Str), Inc a → Inc (l.foldl (fun a x => insT x a) a) from h l [] List.Pairwise.nil
  intro l
  induction l with
  | nil => intro a h; exact h
  | cons x l ih => intro a h; exact ih _ (inc_insT h)
theorem mem_setT {x : Str} {l : List Str} : x ∈ setT l ↔ x ∈ l := by
  unfold setT
  suffices h : ∀ (l a : List Str), x ∈ l.foldl (fun a x => insT x a) a ↔ x ∈ l ∨ x ∈ a by simpa using h l []
  intro l
  induction l with
  | nil => intro a; simp
  | cons y l ih =>
    intro a
    rw [List.foldl_cons, ih, mem_insT, List.mem_cons]
    constructor
    · rintro (h | h | h)
      · exact .inl (.inr h)
      · exact .inl (.inl h)
      · exact .inr h
    · rintro ((h | h) | h)
      · exact .inr (.inl h)
      · exact .inl h
      · exact .inr (.inr h)
theorem insT_len (t : Str) : ∀ l : List Str, (insT t l).length ≤ l.length + 1
  | [] => by simp [insT]
  | x :: l => by
    have := insT_len t l
    unfold insT
    split <;> (try split) <;> simp [List.length_cons] <;> omega
theorem setT_len (l : List Str) : (setT l).length ≤ l.length := by
  suffices h : ∀ (l a : List Str), (l.foldl (fun a x => insT x a) a).length ≤ a.length + l.length by simpa [setT] using h l []
  intro l
  induction l with
  | nil => intro a; simp
  | cons y l ih =>
    intro a
    have := ih (insT y a)
    have := insT_len y a
    rw [List.foldl_cons, List.length_cons]; omega
/-- Equal neighbours dropped. -/
def ddT : List Str → List Str
  | [] => []
  | [x] => [x]
  | x :: y :: l => if y = x then ddT (y :: l) else x :: ddT (y :: l)
theorem mem_ddT {z : Str} : ∀ {l : List Str}, z ∈ ddT l ↔ z ∈ l
  | [] => Iff.rfl
  | [_] => Iff.rfl
  | x :: y :: l => by
    rw [ddT]
    split
    · rename_i h; subst h; rw [mem_ddT]; simp
    · rw [List.mem_cons, mem_ddT, List.mem_cons (l := y :: l)]
theorem inc_ddT : ∀ {l : List Str}, l.Pairwise (fun x y => ltS y x = false) → Inc (ddT l)
  | [], _ => List.Pairwise.nil
  | [_], _ => by simp [ddT]
  | x :: y :: l, h => by
    rw [List.pairwise_cons] at h
    rw [ddT]
    split
    · exact inc_ddT h.2
    · rename_i hne
      refine List.pairwise_cons.2 ⟨fun z hz => ?_, inc_ddT h.2⟩
      have hxy : ltS x y = true := by
        rcases ltS_total x y with e | e | e
        · exact e
        · exact absurd e.symm hne
        · have := h.1 y List.mem_cons_self; rw [e] at this; cases this
      rcases List.mem_cons.1 (mem_ddT.1 hz) with e | e
      · subst e; exact hxy
      · exact ordrS.lt_le hxy ((List.pairwise_cons.1 h.2).1 z e)
theorem ddT_of_perm {l m : List Str} (h : l.Pairwise fun x y => ltS y x = false) (hp : List.Perm l m) : ddT l = setT m :=
  inc_ext (inc_ddT h) (inc_setT m) fun x => by rw [mem_ddT, mem_setT]; exact hp.mem_iff
theorem ddT_snoc : ∀ (l : List Str) (x y : Str), ddT (l ++ [x] ++ [y]) = if y = x then ddT (l ++ [x]) else ddT (l ++ [x]) ++ [y]
  | [], x, y => by simp only [List.nil_append, List.singleton_append, ddT]; split <;> simp_all
  | [a], x, y => by
    simp only [List.cons_append, ddT, List.nil_append]
    by_cases h2 : y = x
    · subst h2
      by_cases h1 : y = a
      · subst h1; simp
      · simp [h1]
    · by_cases h1 : x = a
      · subst h1; simp [h2]
      · simp [h1, h2]
  | a :: b :: l, x, y => by
    have := ddT_snoc (b :: l) x y
    simp only [List.cons_append] at this ⊢
    rw [ddT, ddT, this]
    by_cases h1 : b = a <;> by_cases h2 : y = x <;> simp [h1, h2]
theorem ddT_take {l : List Str} {i : Nat} (h0 : 1 ≤ i) (hi : i < l.length) : ddT (l.take (i + 1)) = if gt l i = gt l (i - 1) then ddT (l.take i) else ddT (l.take i) ++ [gt l i] := by
  obtain ⟨k, rfl⟩ : ∃ k, i = k + 1 := ⟨i - 1, by omega⟩
  have e1 : l.take (k + 1) = l.take k ++ [gt l k] := by rw [List.take_succ_eq_append_getElem (by omega), gt_eq (by omega)]
  have e2 : l.take (k + 1 + 1) = l.take k ++ [gt l k] ++ [gt l (k + 1)] := by rw [List.take_succ_eq_append_getElem hi, e1, gt_eq hi]
  rw [e2, ddT_snoc, e1]
  rfl
theorem ddT_idk {l : List Str} : ∀ k, k ≤ l.length → (∀ i, 1 ≤ i → i < k → ¬ gt l i = gt l (i - 1)) → ddT (l.take k) = l.take k := by
  intro k
  induction k with
  | zero => intro _ _; rfl
  | succ k ih =>
    intro hk h
    rcases Nat.eq_zero_or_pos k with h0 | h0
    · subst h0
      cases l with
      | nil => rfl
      | cons x l => rfl
    · rw [ddT_take h0 (by omega), if_neg (h k h0 (by omega)), ih (by omega) fun i h1 h2 => h i h1 (by omega), List.take_succ_eq_append_getElem (by omega), gt_eq (by omega)]
theorem ddT_id {l : List Str} (h : ∀ i, 1 ≤ i → i < l.length → ¬ gt l i = gt l (i - 1)) : ddT l = l := by
  have := ddT_idk (l := l) l.length (Nat.le_refl _) h
  rwa [List.take_length] at this
/-! ### Marks -/
def digs : Nat → Nat → Str → Str
  | 0, _, acc => acc
  | m + 1, n, acc => if n = 0 then acc else digs m (n / 10) (UInt8.ofNat (48 + n % 10) :: acc)
def markT (k : Int) : Str := if k ≤ 0 then [109, 48] else 109 :: digs 20 k.toNat []
def marksT (k : Nat) : Nat → List Str
  | 0 => []
  | n + 1 => markT k :: marksT (k + 1) n
theorem marksT_len : ∀ (n k : Nat), (marksT k n).length = n
  | 0, _ => rfl
  | n + 1, k => by rw [marksT, List.length_cons, marksT_len]
theorem gt_marksT : ∀ {n k i : Nat}, i < n → gt (marksT k n) i = markT ((k + i : Nat) : Int)
  | 0, _, _, h => by omega
  | n + 1, k, 0, _ => rfl
  | n + 1, k, i + 1, h => by
    have := gt_marksT (n := n) (k := k + 1) (i := i) (by omega)
    rw [show k + (i + 1) = k + 1 + i by omega, ← this]
    rfl
end Go.Vc

/- Contracts: sets of texts in order (slices.Compact, put; l02Insert, l27Set). Conditions: none. -/
namespace Go.Vc
theorem Sl.toK {w : World} {v : Value} {xs : List Value} (h : Sl w v xs) : SlK 1 w v xs.length xs := by
  obtain ⟨a, c, hv, h2, h3, h4⟩ := h
  refine ⟨(Nat.mul_one _).symm, a, c, hv, h2, h3, ?_⟩
  rcases h4 with rfl | ⟨b, o, ha, hc⟩
  · exact .inl rfl
  · exact .inr ⟨b, o, ha, fun i hi => hc i (by omega)⟩
theorem SlK.cast {k : Nat} {w : World} {v : Value} {n m : Nat} {xs : List Value} (h : SlK k w v n xs) (e : n = m) : SlK k w v m xs := e ▸ h
theorem strs_take (L : List Str) (k : Nat) : (strs L).take k = strs (L.take k) := by simp [strs, List.map_take]
theorem strs_drop (L : List Str) (k : Nat) : (strs L).drop k = strs (L.drop k) := by simp [strs, List.map_drop]
theorem strs_app (L M : List Str) : strs L ++ strs M = strs (L ++ M) := by simp [strs]
theorem strs_get (L : List Str) {j : Nat} (hj : j < L.length) : (strs L)[j]? = some (sv (gt L j)) := by rw [gt_eq hj]; simp [strs, hj]
end Go.Vc
namespace Go.Proofs.YteifjhpddhppcaaGreat
open Go.Vc
theorem ok_slices_Compact_Sstring_string {lo : Nat} {w : World} {v : Value} {L : List Str} (hs : Ow lo t_string w v (strs L)) (hL : L.length ≤ 1152921504606846976) :
    Cal Tryz.prog f_slices_Compact_Sstring_string #[v] w fun r w' => Ow lo t_string w' r (strs (ddT L)) ∧ Ch (fun c => v.ownBlock = some c) w w' ∧ r.ownBlock = v.ownBlock := by
  apply c_slices_Compact_Sstring_string; unfold S_slices_Compact_Sstring_string
  refine iLenStr hs.sl ?_
  refine iLt ?_
  refine iCndP (fun h => ?_) (fun h => ?_)
  · rw [ddT_id (fun i h1 h2 => by omega)]
    exact ⟨hs, (Ext.refl w).ch, by first | trivial | rfl⟩
  obtain ⟨g, cap, hv, hcap, hcm⟩ := hs.open (by intro e; have := strs_len L; rw [e] at this; simp at this; omega)
  rw [strs_len] at hv hcap
  refine iLp (fun k : Nat => [.int .i64 (k : Int)]) (fun k w' => 1 ≤ k ∧ k ≤ L.length ∧ Ext w w' ∧ ∀ i, 1 ≤ i → i < k → ¬ gt L i = gt L (i - 1)) (fun k => L.length - k) 1 rfl ⟨Nat.le_refl _, by omega, Ext.refl _, fun i h1 h2 => by omega⟩ ?_
  rintro k w2 Kn ⟨hk1, hkn, h2, hne⟩ hKn
  have hs2 := hs.ext h2
  intro _
  simp only [gx]
  refine iLenStr hs2.sl ?_
  refine iLt ?_
  refine iCndP (fun h3 => ?_) (fun h3 => ?_)
  rotate_left
  · rw [ddT_id (fun i h1 h2 => hne i h1 (by omega))]
    exact ⟨hs2, h2.ch, by first | trivial | rfl⟩
  refine iRdO (j := k) hs2 rfl (by omega) ?_
  refine iSub (by omega) ?_
  refine iRdO (j := k - 1) hs2 (by omega) (by omega) ?_
  refine iEqT ?_
  intro w3 h23
  have hs3 := hs2.ext h23
  refine iCndP (fun h4 => ?_) (fun h4 => ?_)
  rotate_left
  · refine iAdd (by omega) ?_
    refine hKn (k + 1) _ ⟨by omega, by omega, h2.trans h23, fun i h1 h5 => ?_⟩ (by omega)
    by_cases hi : i = k
    · subst hi; exact h4
    · exact hne i h1 (by omega)
  subst hv
  refine iSlTail (k := k) (by omega) hcap ?_
  refine iLp (fun s : Nat × Nat => [.int .i64 (s.1 : Int), .int .i64 (s.2 : Int)]) (fun s w' => k ≤ s.1 ∧ s.1 + 1 ≤ k + s.2 ∧ k + s.2 ≤ L.length ∧ ∃ M, Turn lo t_string sv (.slice (some ⟨g, 0, none⟩) L.length cap) w w' M ∧ M.length = L.length ∧ M.take s.1 = ddT (L.take (k + s.2)) ∧ ∀ j, k + s.2 ≤ j + 1 → gt M j = gt L j) (fun s => L.length - s.2) (k, 1) rfl
    ⟨Nat.le_refl _, Nat.le_refl _, by show k + 1 ≤ L.length; omega, L, ⟨hs3, (h2.trans h23).ch⟩, rfl, by show L.take k = ddT (L.take (k + 1)); rw [ddT_take hk1 (by omega), if_pos h4, ddT_idk k (by omega) hne], fun _ _ => rfl⟩ ?_
  rintro ⟨kk, k2⟩ w5 Kn5 ⟨hkk, hkk2, hk2, M, ht, hM, hMt, hMe⟩ hKn5
  have hkk : k ≤ kk := hkk
  have hkk2 : kk + 1 ≤ k + k2 := hkk2
  have hk2 : k + k2 ≤ L.length := hk2
  have hMt : M.take kk = ddT (L.take (k + k2)) := hMt
  have hMe : ∀ j, k + k2 ≤ j + 1 → gt M j = gt L j := hMe
  intro _
  simp only [gx]
  refine iLenL ?_
  refine iLt ?_
  refine iCndP (fun h5 => ?_) (fun h5 => ?_)
  · refine iIaL (j := k2) (by omega) ?_
    refine iLd (ht.ow.at (by rw [List.length_map]; exact hM) (j := k + k2) (by omega) |>.trans (strs_get M (by omega))) ?_
    refine iSub (by omega) ?_
    rw [show (k2 : Int) - 1 = ((k2 - 1 : Nat) : Int) by omega]
    refine iIaL (j := k2 - 1) (by omega) ?_
    refine iLd (ht.ow.at (by rw [List.length_map]; exact hM) (j := k + (k2 - 1)) (by omega) |>.trans (strs_get M (by omega))) ?_
    refine iNeT ?_
    intro w6 h56
    have ht6 := ht.ext h56
    have e1 := hMe (k + k2) (by omega)
    have e2 := hMe (k + (k2 - 1)) (by omega)
    have edd := ddT_take (l := L) (i := k + k2) (by omega) (by omega)
    rw [← e1, show k + k2 - 1 = k + (k2 - 1) by omega, ← e2] at edd
    refine iCndP (fun h6 => ?_) (fun h6 => ?_)
    · rw [if_neg h6, ← hMt] at edd
      refine iIaL (j := k2) (by omega) ?_
      refine iLd (ht6.ow.at (by rw [List.length_map]; exact hM) (j := k + k2) (by omega) |>.trans (strs_get M (by omega))) ?_
      refine iIaOw ht6.ow (by omega) (by rw [List.length_map]; omega) fun b o hb _ _ hc hf hset => ?_
      refine iSt (hc.trans (List.getElem?_eq_getElem (by rw [List.length_map]; omega))) hf rfl ?_
      have hset := hset (sv (gt M (k + k2)))
      rw [Int.toNat_natCast, ← List.map_set] at hset
      refine iAdd (by omega) ?_
      refine iAdd (by omega) ?_
      refine hKn5 (kk + 1, k2 + 1) _ ⟨by show k ≤ kk + 1; omega, by show kk + 1 + 1 ≤ k + (k2 + 1); omega, by show k + (k2 + 1) ≤ L.length; omega, M.set kk (gt M (k + k2)), ⟨hset, ht6.ch.trans ((Upd.setCell w6 b o _).ch (S := fun c => Value.ownBlock (.slice (some ⟨g, 0, none⟩) L.length cap) = some c) hb) fun _ e => .inl e⟩, by rw [List.length_set]; exact hM, ?_, fun j hj => ?_⟩ (by show L.length - (k2 + 1) < L.length - k2; omega)
      · show (M.set kk (gt M (k + k2))).take (kk + 1) = ddT (L.take (k + (k2 + 1)))
        rw [show k + (k2 + 1) = k + k2 + 1 by omega, edd, List.take_succ_eq_append_getElem (by rw [List.length_set]; omega), List.getElem_set_self, List.take_set_of_le (Nat.le_refl _)]
      · have hj : k + (k2 + 1) ≤ j + 1 := hj
        rw [gt_set _ (by omega), if_neg (by omega)]
        exact hMe j (by omega)
    · rw [if_pos (Classical.not_not.1 h6), ← hMt] at edd
      refine iAdd (by omega) ?_
      exact hKn5 (kk, k2 + 1) _ ⟨hkk, by show kk + 1 ≤ k + (k2 + 1); omega, by show k + (k2 + 1) ≤ L.length; omega, M, ht6, hM, edd.symm, fun j hj => hMe j (by have hj : k + (k2 + 1) ≤ j + 1 := hj; omega)⟩ (by show L.length - (k2 + 1) < L.length - k2; omega)
  · have hend : k + k2 = L.length := by omega
    rw [hend, List.take_length] at hMt
    refine iSlTail (k := kk) (by omega) hcap ?_
    refine iClr u_Sstring i_Sstring rfl ht.ow (by rw [List.length_map]; exact hM) (by omega) fun w8 h8 hc8 => ?_
    refine iSlHead (k := kk) (by omega) hcap ?_
    rw [show (List.map sv M).take kk = strs (M.take kk) from strs_take M kk, hMt] at h8
    exact ⟨h8, ht.ch.trans hc8 fun c hc => .inl (by rw [hc]; rfl), rfl⟩
theorem ok_impl_put {w : World} {v0 v1 : Value} {A B : List Str} (h0 : SlT w v0 A) (h1 : SlT w v1 B) (hc0 : isCell v0 = true) (hc1 : isCell v1 = true) (hl : A.length + B.length ≤ 1099511627776) :
    Cal Tryz.prog f_impl_put #[v0, v1] w fun r w' => Ext w w' ∧ Ow w.heap.size t_string w' r (strs (setT (A ++ B))) := by
  apply c_impl_put; unfold S_impl_put
  refine iBs2 rfl hc0 hc1 fun c w1 hc h1' hB => ?_
  refine iCall ((ok_Concat_Sstring_string (vs := [v0, v1]) (ps := [(A.length, strs A), (B.length, strs B)]) (Sl.ofBlk (n := 2) hB rfl (by decide)) rfl (fun i g1 g2 => ?_) (fun p hp u hu => ?_) (by simp; omega)).mono ?_)
  · rcases i with _ | _ | i
    · exact (Sl.toK (h0.ext h1')).cast (strs_len A)
    · exact (Sl.toK (h1.ext h1')).cast (strs_len B)
    · simp at g1; omega
  · simp only [List.mem_cons, List.not_mem_nil, or_false] at hp
    rcases hp with rfl | rfl
    · exact strs_cell _ _ hu
    · exact strs_cell _ _ hu
  rintro r w2 ⟨h2, ho⟩
  have hX2 := h1'.trans h2
  have ho2 : Ow w1.heap.size t_string w2 r (strs (A ++ B)) := by
    have := ho.toOw
    simpa [strs] using this
  refine iCall ((ok_slices_Sort_Sstring_string ho2 (by rw [List.length_append]; omega)).mono ?_)
  rintro _ w3 ⟨L', ho3, hc3, hperm, hsorted⟩
  have hlen : L'.length = A.length + B.length := by rw [hperm.length_eq, List.length_append]
  refine iCall ((ok_slices_Compact_Sstring_string ho3 (by omega)).mono ?_)
  rintro r' w4 ⟨ho4, hc4, _⟩
  rw [ddT_of_perm hsorted hperm] at ho4
  have hn : ∀ c, r.ownBlock = some c → w.heap.size ≤ c := fun c hc' => Nat.le_trans h1'.size (ho2.blk c hc').1
  exact ⟨(hX2.thenCh hc3 hn).thenCh hc4 hn, ho4.mono h1'.size⟩
theorem ok_spec_l02Insert {lo : Nat} {w : World} {v : Value} {L : List Str} {t : Str} (hs : Ow lo t_string w v (strs L)) (hlo : lo ≤ w.heap.size) (hL : L.length ≤ 1099511627776) :
    Cal Tryz.prog f_spec_l02Insert #[v, sv t] w fun r w' => Ext w w' ∧ Ow lo t_string w' r (strs (insT t L)) := by
  apply c_spec_l02Insert; unfold S_spec_l02Insert
  refine iLp (fun k : Nat => [.int .i64 (k : Int)]) (fun k w' => k ≤ L.length ∧ Ext w w' ∧ ∀ i, i < k → ltS (gt L i) t = true) (fun k => L.length - k) 0 rfl ⟨Nat.zero_le _, Ext.refl _, fun i hi => by omega⟩ ?_
  rintro k w2 Kn ⟨hk, h2, hlt⟩ hKn
  have hs2 := hs.ext h2
  intro _
  simp only [gx]
  refine iJnB (decide (k < L.length) && ltS (gt L k) t) w2 (fun J hJ => ?_) (fun w4 h4 => ?_)
  · refine iLenStr hs2.sl ?_
    refine iLt ?_
    refine iCndP (fun h => ?_) (fun h => ?_)
    · rw [decide_eq_true (show k < L.length by omega), Bool.true_and] at hJ
      refine iRdO (j := k) hs2 rfl (by omega) ?_
      exact iLtT (hJ _ (Ext.refl _))
    · rw [decide_eq_false (show ¬ k < L.length by omega), Bool.false_and] at hJ
      exact hJ _ (Ext.refl _)
  intro _
  simp only [gx]
  have hs4 := hs2.ext h4
  have h4' := h2.trans h4
  cases hc : decide (k < L.length) && ltS (gt L k) t
  rotate_left
  · rw [Bool.and_eq_true, decide_eq_true_eq] at hc
    refine iCndT rfl ?_
    refine iAdd (by omega) ?_
    refine hKn (k + 1) _ ⟨by omega, h4', fun i hi => ?_⟩ (by omega)
    by_cases hik : i = k
    · subst hik; exact hc.2
    · exact hlt i (by omega)
  refine iCndF rfl ?_
  have hsp := insT_split hk hlt
  refine iJnB (decide (k < L.length) && decide (gt L k = t)) w4 (fun J hJ => ?_) (fun w6 h6 => ?_)
  · refine iLenStr hs4.sl ?_
    refine iLt ?_
    refine iCndP (fun h => ?_) (fun h => ?_)
    · rw [decide_eq_true (show k < L.length by omega), Bool.true_and] at hJ
      refine iRdO (j := k) hs4 rfl (by omega) ?_
      exact iEqT (hJ _ (Ext.refl _))
    · rw [decide_eq_false (show ¬ k < L.length by omega), Bool.false_and] at hJ
      exact hJ _ (Ext.refl _)
  intro _
  simp only [gx]
  have hs6 := hs4.ext h6
  have h6' := h4'.trans h6
  cases hc2 : decide (k < L.length) && decide (gt L k = t)
  rotate_left
  · rw [Bool.and_eq_true, decide_eq_true_eq, decide_eq_true_eq] at hc2
    refine iCndT rfl ⟨h6', ?_⟩
    have : insT t L = L := by
      rw [hsp, List.drop_eq_getElem_cons hc2.1, ← gt_eq hc2.1, hc2.2, insT, ltS_irrefl, if_neg (by decide), if_pos rfl]
      have := List.take_append_drop k L
      rw [List.drop_eq_getElem_cons hc2.1, ← gt_eq hc2.1, hc2.2] at this
      exact this
    rw [this]; exact hs6
  · refine iCndF rfl ?_
    have hres : insT t L = L.take k ++ [t] ++ L.drop k := by
      rw [hsp]
      rcases Nat.lt_or_ge k L.length with h | h
      · rw [decide_eq_true h, Bool.true_and] at hc hc2
        rw [List.drop_eq_getElem_cons h, ← gt_eq h, insT, hc, if_neg (by decide), if_neg (of_decide_eq_false hc2)]
        simp
      · rw [List.drop_of_length_le h]; simp [insT]
    have hlo6 := Nat.le_trans hlo h6'.size
    refine iBs0 fun v7 w7 hw7 h7 ho7 => ?_
    have hs7 := hs6.ext h7
    refine iSlTo hs7.sl (by rw [strs_len]; exact hk) fun u hu => ?_
    rw [strs_take] at hu
    refine iAppA u_Sstring i_Sstring rfl ho7 hu (strs_cell _) (by rw [strs_len, List.length_take, List.length_nil]; omega) (by rw [strs_len, List.length_take, List.length_nil]; omega) (by omega) fun v8 w8 ho8 hg8 _ => ?_
    have hX8 := h7.grown hg8 fun b hb => (ho7.blk b hb).1
    have hs8 := hs6.ext hX8
    refine iApp1A u_Sstring i_Sstring rfl ho8 rfl (by rw [List.length_append, strs_len, List.length_take, List.length_nil]; omega) (by rw [List.length_append, strs_len, List.length_take, List.length_nil]; omega) (by have := hX8.size; omega) fun v10 w10 ho10 hg10 _ => ?_
    have hX10 := hX8.grown hg10 fun b hb => (ho8.blk b hb).1
    have hs10 := hs6.ext hX10
    refine iSlFrom hs10.sl (by rw [strs_len]; exact hk) fun u' hu' => ?_
    rw [strs_drop] at hu'
    rw [List.nil_append, show strs (L.take k) ++ [sv t] = strs (L.take k ++ [t]) from strs_snoc _ _] at ho10
    refine iAppA u_Sstring i_Sstring rfl ho10 hu' (strs_cell _) (by rw [strs_len, strs_len, List.length_append, List.length_take, List.length_drop, List.length_singleton]; omega) (by rw [strs_len, strs_len, List.length_append, List.length_take, List.length_drop, List.length_singleton]; omega) (by have := hX10.size; omega) fun v11 w11 ho11 hg11 _ => ?_
    have hX11 := hX10.grown hg11 fun b hb => (ho10.blk b hb).1
    rw [strs_app, ← hres] at ho11
    exact ⟨h6'.trans hX11, ho11.mono hlo6⟩
theorem ok_spec_l27Set {w : World} {v : Value} {L : List Str} (hs : SlT w v L) (hL : L.length ≤ 1099511627776) :
    Cal Tryz.prog f_spec_l27Set #[v] w fun r w' => Ext w w' ∧ Ow w.heap.size t_string w' r (strs (setT L)) := by
  apply c_spec_l27Set; unfold S_spec_l27Set
  refine iBs0 fun v1 w1 hw1 h1 ho1 => ?_
  refine iLp (fun s : Value × Nat => [s.1, .int .i64 (s.2 : Int)]) (fun s w' => s.2 ≤ L.length ∧ Ext w w' ∧ Ow w.heap.size t_string w' s.1 (strs (setT (L.take s.2)))) (fun s => L.length - s.2) (v1, 0) rfl ⟨Nat.zero_le _, h1, ho1⟩ ?_
  rintro ⟨u, i⟩ w3 Kn ⟨hi, h3, ho⟩ hKn
  have hi : i ≤ L.length := hi
  have ho : Ow w.heap.size t_string w3 u (strs (setT (L.take i))) := ho
  intro _
  simp only [gx]
  refine iLenStr (hs.ext h3) ?_
  refine iLt ?_
  refine iCndP (fun h => ?_) (fun h => ?_)
  · refine iIaT (hs.ext h3) (by omega) fun p hp => ?_
    refine iLd hp ?_
    have := setT_len (L.take i)
    rw [List.length_take] at this
    refine iCall ((ok_spec_l02Insert ho h3.size (by omega)).mono ?_)
    rintro r w4 ⟨h4, ho4⟩
    refine iAdd (by omega) ?_
    rw [← setT_snoc, ← List.take_succ_eq_append_getElem (by omega)] at ho4
    exact hKn (r, i + 1) _ ⟨by show i + 1 ≤ L.length; omega, h3.trans h4, ho4⟩ (by show L.length - (i + 1) < L.length - i; omega)
  · rw [List.take_of_length_le (by omega)] at ho
    exact ⟨h3, ho⟩
end Go.Proofs.YteifjhpddhppcaaGreat

/- Contracts: the references of an expression, in the program and in the reference; the laws' helpers for rows of texts. Conditions: none. -/
namespace Go.Vc
theorem iChr {P : Program} {w : World} {s d e : TypeId} {c : UInt8} {z : Int} {K : Value → World → Prop} (hs : P.underlying s = some (.slice e)) (he : P.underlying e = some (.int .u8)) (hd : P.underlying d = some .string) (hz : z = (c.toNat : Int)) (h : ∀ w', Ext w w' → K (sv [c]) w') :
    xBs e (Value.cells (.int .u8 0)) 1 1 [(0, .int .u8 z)] w fun v w3 => xR P w3 (convert s d v) fun r => K r w3 := by
  subst hz
  refine iBs1 rfl rfl fun b w1 hb h1 hB => ?_
  refine ⟨sv [c], fun w' hw' => ?_, h w1 h1⟩
  have hB' := hB.ext hw'
  rw [run_convert_bytes_string w' s d e _ 1 1 hs he hd]
  have hl : (loadCells ⟨b, 0, none⟩ 1).run P w' = .ok ([(c.toNat : Int)].map (Value.int .u8)).toArray w' := by
    simp only [loadCells]
    rw [loadCellsFrom_run (cs := #[Value.int .u8 (c.toNat : Int)]) 1 0 #[] (fun j _ hj => by
      have : j = 0 := by omega
      subst this
      exact hB'.cell 0) (by simp)]
    simp
  rw [run_bytesToString w' ⟨b, 0, none⟩ 1 1 _ hl]
  have e : [(c.toNat : Int)].foldl (fun (r : ByteArray) (n : Int) => r.push (UInt8.ofNat n.toNat)) ByteArray.empty = ⟨[c].toArray⟩ := by
    simp only [List.foldl_cons, List.foldl_nil, Int.toNat_natCast, UInt8.ofNat_toNat]
    rfl
  rw [e]
end Go.Vc
namespace Go.Proofs.YteifjhpddhppcaaGreat
open Go.Vc
open Go.RowKit (Below)
theorem ok_laws_eqStringS {v0 v1 : Value} {A B : List Str} {w : World} (h0 : SlT w v0 A) (h1 : SlT w v1 B) : Ret Tryz.prog f_laws_eqStringS #[v0, v1] w (.bool (decide (A = B))) := by
  apply c_laws_eqStringS; unfold S_laws_eqStringS
  have hA := h0.len
  rw [strs_len] at hA
  refine iLenStr h0 ?_
  refine iLenStr h1 ?_
  refine iNe ?_
  refine iCndP (fun h => ?_) (fun h => ?_)
  · rw [decide_eq_false (show ¬ A = B from fun e => h (by rw [e]))]
    exact ⟨by first | trivial | rfl, Ext.refl _⟩
  · have hl : A.length = B.length := by omega
    refine iLp (fun i : Nat => [.int .i64 (i : Int)]) (fun i w' => i ≤ A.length ∧ Ext w w' ∧ ∀ j, j < i → gt A j = gt B j) (fun i => A.length - i) 0 rfl ⟨Nat.zero_le _, Ext.refl _, fun j hj => by omega⟩ ?_
    rintro i w2 Kn ⟨hi, h2, he⟩ hKn
    intro _
    simp only [gx]
    refine iLenStr (h0.ext h2) ?_
    refine iLt ?_
    refine iCndP (fun h3 => ?_) (fun h3 => ?_)
    · refine iIaT (h0.ext h2) (by omega) fun p hp => ?_
      refine iLd hp ?_
      refine iIaT (h1.ext h2) (show i < B.length by omega) fun q hq => ?_
      refine iLd hq ?_
      refine iNeT ?_
      intro w3 h23
      refine iCndP (fun h4 => ?_) (fun h4 => ?_)
      · rw [decide_eq_false (show ¬ A = B from fun e => h4 (by subst e; rfl))]
        exact ⟨by first | trivial | rfl, h2.trans h23⟩
      · refine iAdd (by omega) ?_
        refine hKn (i + 1) _ ⟨by omega, h2.trans h23, fun j hj => ?_⟩ (by omega)
        by_cases hji : j = i
        · subst hji; rw [gt_eq (by omega), gt_eq (by omega)]; exact Classical.not_not.1 h4
        · exact he j (by omega)
    · rw [decide_eq_true (show A = B from List.ext_getElem hl fun j g1 g2 => by rw [← gt_eq g1, ← gt_eq g2]; exact he j (by omega))]
      exact ⟨by first | trivial | rfl, h2⟩
theorem ok_laws_markText (k : Int) (hk : k ≤ 9223372036854775807) (w : World) : Ret Tryz.prog f_laws_markText #[.int .i64 k] w (sv (markT k)) := by
  apply c_laws_markText; unfold S_laws_markText
  refine iLe ?_
  refine iCndP (fun h => ?_) (fun h => ?_)
  · unfold markT
    rw [if_pos h]
    exact ⟨by first | trivial | rfl, Ext.refl _⟩
  · refine iLp (fun s : Nat × Str => [.int .i64 (s.1 : Int), sv s.2]) (fun s w' => Ext w w' ∧ s.1 < 9223372036854775808 ∧ ∃ m, m + s.2.length = 20 ∧ s.1 < 10 ^ m ∧ digs m s.1 s.2 = digs 20 k.toNat []) (fun s => s.1) (k.toNat, []) (by show [Value.int .i64 ((k.toNat : Nat) : Int), _] = [Value.int .i64 k, _]; rw [Int.toNat_of_nonneg (by omega)])
      ⟨Ext.refl _, by show k.toNat < _; omega, 20, rfl, by show k.toNat < 10 ^ 20; omega, rfl⟩ ?_
    rintro ⟨n, acc⟩ w2 Kn ⟨h2, hn63, m, hm, hn, hd⟩ hKn
    have hn63 : n < 9223372036854775808 := hn63
    have hm : m + acc.length = 20 := hm
    have hn : n < 10 ^ m := hn
    have hd : digs m n acc = digs 20 k.toNat [] := hd
    intro _
    simp only [gx]
    refine iLt ?_
    refine iCndP (fun h3 => ?_) (fun h3 => ?_)
    · obtain ⟨m, rfl⟩ : ∃ m', m = m' + 1 := by
        rcases m with _ | m
        · simp at hn; omega
        · exact ⟨m, rfl⟩
      refine iRem (by omega) ?_
      refine iAdd (by omega) ?_
      refine ⟨_, _, rfl, ?_⟩
      rw [IntWalk.u8_in _ (by omega)]
      have ec : 48 + (n : Int) % 10 = ((UInt8.ofNat (48 + n % 10)).toNat : Int) := by
        rw [UInt8.toNat_ofNat']
        omega
      refine iChr (c := UInt8.ofNat (48 + n % 10)) (s := 76) (d := t_string) (by kernel_rfl) (by kernel_rfl) (by kernel_rfl) ec fun w3 h23 => ?_
      refine iCat (by simp only [List.length_singleton]; omega) ?_
      refine iQuo (by omega) ?_
      rw [show (n : Int) / 10 = ((n / 10 : Nat) : Int) by omega]
      refine hKn (n / 10, UInt8.ofNat (48 + n % 10) :: acc) _ ⟨h2.trans h23, by show n / 10 < _; omega, m, by show m + (_ :: acc).length = 20; rw [List.length_cons]; omega, by show n / 10 < 10 ^ m; rw [Nat.pow_succ] at hn; omega, ?_⟩ (by show n / 10 < n; omega)
      show digs m (n / 10) (UInt8.ofNat (48 + n % 10) :: acc) = _
      rw [← hd]
      conv => rhs; unfold digs
      rw [if_neg (by omega)]
    · have h0 : n = 0 := by omega
      subst h0
      have hacc : acc = digs 20 k.toNat [] := by
        rw [← hd]
        cases m with
        | zero => rfl
        | succ m => unfold digs; rw [if_pos rfl]
      refine iCat (a := [109]) (by simp only [List.length_singleton]; omega) ?_
      refine ⟨?_, h2⟩
      unfold markT
      rw [if_neg h, hacc]
      rfl
theorem ok_laws_markStringS {lo : Nat} {v : Value} {L : List Str} {w : World} (hs : Ow lo t_string w v (strs L)) {k : Nat} (hk : k + L.length ≤ 1152921504606846976) :
    Cal Tryz.prog f_laws_markStringS #[v, .int .i64 (k : Int)] w fun r w' => r = .int .i64 ((k + L.length : Nat) : Int) ∧ Turn lo t_string sv v w w' (marksT k L.length) := by
  apply c_laws_markStringS; unfold S_laws_markStringS
  refine iLp (fun i : Nat => [.int .i64 ((k + i : Nat) : Int), .int .i64 (i : Int)]) (fun i w' => i ≤ L.length ∧ ∃ M, Turn lo t_string sv v w w' M ∧ M.length = L.length ∧ ∀ j, j < i → gt M j = markT ((k + j : Nat) : Int)) (fun i => L.length - i) 0 rfl ⟨Nat.zero_le _, L, Turn.refl hs, rfl, fun j hj => by omega⟩ ?_
  rintro i w2 Kn ⟨hi, M, ht, hM, he⟩ hKn
  intro _
  simp only [gx]
  refine iLenStr (L := M) ht.ow.sl ?_
  refine iLt ?_
  refine iCndP (fun h3 => ?_) (fun h3 => ?_)
  · refine iRet (ok_laws_markText _ (by omega) w2) fun w3 h23 => ?_
    have ht3 := ht.ext h23
    refine iIaOw ht3.ow (by omega) (by rw [List.length_map]; omega) fun b o hb _ _ hc hf hset => ?_
    refine iSt (hc.trans (List.getElem?_eq_getElem (by rw [List.length_map]; omega))) hf rfl ?_
    have hset := hset (sv (markT ((k + i : Nat) : Int)))
    rw [Int.toNat_natCast, ← List.map_set] at hset
    refine iAdd (by omega) ?_
    refine iAdd (by omega) ?_
    refine hKn (i + 1) _ ⟨by omega, M.set i (markT ((k + i : Nat) : Int)), ⟨hset, ht3.ch.trans ((Upd.setCell w3 b o _).ch (S := fun c => v.ownBlock = some c) hb) fun _ e => .inl e⟩, by rw [List.length_set]; exact hM, fun j hj => ?_⟩ (by omega)
    rw [gt_set _ (by omega)]
    by_cases hji : j = i
    · rw [if_pos hji, hji]
    · rw [if_neg hji]; exact he j (by omega)
  · have hil : i = L.length := by omega
    subst hil
    refine ⟨rfl, ?_⟩
    have : marksT k L.length = M := List.ext_getElem (by rw [marksT_len, hM]) fun j g1 g2 => by
      rw [← gt_eq g1, ← gt_eq g2, gt_marksT (by omega), he j (by omega)]
    rw [this]; exact ht
theorem ok_laws_heldStringS {v : Value} {k n : Nat} {w : World} (hs : SlT w v (marksT k n)) (hk : k + n ≤ 1152921504606846976) : Ret Tryz.prog f_laws_heldStringS #[v, .int .i64 (k : Int)] w (.int .i64 ((k + n : Nat) : Int)) := by
  apply c_laws_heldStringS; unfold S_laws_heldStringS
  refine iLp (fun i : Nat => [.int .i64 ((k + i : Nat) : Int), .int .i64 (i : Int)]) (fun i w' => i ≤ n ∧ Ext w w') (fun i => n - i) 0 rfl ⟨Nat.zero_le _, Ext.refl _⟩ ?_
  rintro i w2 Kn ⟨hi, h2⟩ hKn
  intro _
  simp only [gx]
  have hl := marksT_len n k
  refine iLenStr (hs.ext h2) ?_
  refine iLt ?_
  refine iCndP (fun h3 => ?_) (fun h3 => ?_)
  · refine iIaT (hs.ext h2) (show i < (marksT k n).length by omega) fun p hp => ?_
    refine iLd hp ?_
    refine iRetQ (fun w' _ => ok_laws_markText _ (by omega) w') ?_
    refine iNeT ?_
    intro w3 h23
    rw [← gt_eq (show i < (marksT k n).length by omega), gt_marksT (by omega)]
    refine iCndP (fun h4 => absurd rfl h4) (fun _ => ?_)
    refine iAdd (by omega) ?_
    refine iAdd (by omega) ?_
    exact hKn (i + 1) _ ⟨by omega, h2.trans h23⟩ (by omega)
  · have : i = n := by omega
    subst this
    exact ⟨by first | trivial | rfl, h2⟩
end Go.Proofs.YteifjhpddhppcaaGreat

/- Contracts: the parts of a formula, in the program and in the reference. Conditions: none. -/
namespace Go.Vc
/-! ### Formulas by their kinds and parts -/
def Fm.kind : Fm → Nat
  | .var _ => 0
  | .fls => 1
  | .and _ _ => 2
  | .or _ _ => 3
  | .imp _ _ => 4
  | .box _ => 5
  | .dia _ => 6
def Fm.sym : Fm → Nat
  | .var v => v
  | _ => 0
def Fm.kids : Fm → List Fm
  | .and a b => [a, b]
  | .or a b => [a, b]
  | .imp a b => [a, b]
  | .box a => [a]
  | .dia a => [a]
  | _ => []
def arity (k : Nat) : Nat := if k = 2 ∨ k = 3 ∨ k = 4 then 2 else if k = 5 ∨ k = 6 then 1 else 0
def cellsL (fs : List Fm) : List Value := fs.flatMap Fm.cells
def sizeL (fs : List Fm) : Nat := (fs.map Fm.size).sum
theorem Fm.cells_kids (f : Fm) : f.cells = nd f.kind f.sym ++ cellsL f.kids := by cases f <;> simp [Fm.cells, Fm.kind, Fm.sym, Fm.kids, cellsL]
theorem Fm.size_kids (f : Fm) : f.size = 1 + sizeL f.kids := by cases f <;> simp [Fm.size, Fm.kids, sizeL] <;> omega
theorem Fm.arity_kids (f : Fm) : arity f.kind = f.kids.length := by cases f <;> rfl
theorem cellsL_len (fs : List Fm) : (cellsL fs).length = sizeL fs * 2 := by
  induction fs with
  | nil => rfl
  | cons f fs ih => simp only [cellsL, List.flatMap_cons, List.length_append, sizeL, List.map_cons, List.sum_cons] at ih ⊢; rw [f.cells_len, ih]; omega
theorem cellsL_app (a b : List Fm) : cellsL (a ++ b) = cellsL a ++ cellsL b := by simp [cellsL]
theorem sizeL_app (a b : List Fm) : sizeL (a ++ b) = sizeL a + sizeL b := by simp [sizeL]
theorem sizeL_len : ∀ gs : List Fm, gs.length ≤ sizeL gs
  | [] => Nat.zero_le _
  | a :: bs => by have := a.size_pos; have := sizeL_len bs; simp only [sizeL, List.map_cons, List.sum_cons, List.length_cons] at this ⊢; omega
/-- The list of nodes says the formula. -/
theorem nodes_inj : ∀ {fs gs : List Fm} {r r' : List Value}, fs.length = gs.length → cellsL fs ++ r = cellsL gs ++ r' → fs = gs ∧ r = r' := by
  suffices H : ∀ (n : Nat) {fs gs : List Fm} {r r' : List Value}, sizeL fs ≤ n → fs.length = gs.length → cellsL fs ++ r = cellsL gs ++ r' → fs = gs ∧ r = r' from fun {fs} => H (sizeL fs) (Nat.le_refl _)
  intro n
  induction n with
  | zero =>
    intro fs gs r r' hn hl he
    cases fs with
    | nil => cases gs with
      | nil => exact ⟨rfl, he⟩
      | cons _ _ => cases hl
    | cons f fs => simp only [sizeL, List.map_cons, List.sum_cons] at hn; have := f.size_pos; omega
  | succ n ih =>
    intro fs gs r r' hn hl he
    cases fs with
    | nil => cases gs with
      | nil => exact ⟨rfl, he⟩
      | cons _ _ => cases hl
    | cons f fs => cases gs with
      | nil => cases hl
      | cons g gs =>
        simp only [List.length_cons, Nat.add_right_cancel_iff] at hl
        have hsz : sizeL (f.kids ++ fs) ≤ n := by
          rw [sizeL_app]
          simp only [sizeL, List.map_cons, List.sum_cons] at hn ⊢
          have := f.size_kids
          simp only [sizeL] at this
          omega
        have he' : nd f.kind f.sym ++ (cellsL (f.kids ++ fs) ++ r) = nd g.kind g.sym ++ (cellsL (g.kids ++ gs) ++ r') := by
          have e : ∀ (f : Fm) (fs : List Fm) (r : List Value), cellsL (f :: fs) ++ r = nd f.kind f.sym ++ (cellsL (f.kids ++ fs) ++ r) := fun f fs r => by
            rw [cellsL_app]
            simp only [cellsL, List.flatMap_cons]
            rw [f.cells_kids]
            simp [cellsL]
          rw [← e, ← e]; exact he
        simp only [nd, List.cons_append, List.nil_append, List.cons.injEq, Value.int.injEq, true_and] at he'
        obtain ⟨hk, hs, hr⟩ := he'
        have hk : f.kind = g.kind := by omega
        have hs : f.sym = g.sym := by omega
        have hkl : f.kids.length = g.kids.length := by rw [← f.arity_kids, ← g.arity_kids, hk]
        obtain ⟨h1, h2⟩ := ih hsz (by rw [List.length_append, List.length_append, hkl, hl]) hr
        obtain ⟨h3, h4⟩ := List.append_inj h1 hkl
        refine ⟨?_, h2⟩
        have : f = g := by
          cases f <;> cases g <;> simp [Fm.kind] at hk <;> simp [Fm.kids, Fm.sym] at h3 hs <;> simp_all
        rw [this, h4]
theorem cells_inj {f g : Fm} (h : f.cells = g.cells) : f = g := by
  have := (nodes_inj (fs := [f]) (gs := [g]) (r := []) (r' := []) rfl (by simpa [cellsL] using h)).1
  simpa using this
def Fm.isNeg : Fm → Bool
  | .imp _ b => decide (b = .fls)
  | _ => false
theorem body_len : ∀ f : Fm, f.body.length + 2 ≤ 4 * f.size := by
  have pl : ∀ (b : Bool) (s : Str), (par b s).length ≤ s.length + 2 := fun b s => by cases b <;> simp [par]
  intro f
  induction f with
  | var v => simp [Fm.body, Fm.size]
  | fls => simp [Fm.body, Fm.size]
  | and a b ha hb =>
    have h1 := pl (decide (a.own < 2)) a.body
    have h2 := pl (decide (b.own < 3)) b.body
    simp only [Fm.body, Fm.size, List.length_append, List.length_cons]; omega
  | or a b ha hb =>
    have h1 := pl (decide (a.own < 1)) a.body
    have h2 := pl (decide (b.own < 2)) b.body
    simp only [Fm.body, Fm.size, List.length_append, List.length_cons]; omega
  | imp a b ha hb =>
    have h1 := pl (decide (a.own < 1)) a.body
    have h2 := pl (decide (a.own < 3)) a.body
    simp only [Fm.body, Fm.size]
    split
    · split
      · simp; have := a.size_pos; have := b.size_pos; omega
      · simp only [List.length_cons]; omega
    · simp only [List.length_append, List.length_cons]; omega
  | box a ha =>
    have h2 := pl (decide (a.own < 3)) a.body
    simp only [Fm.body, Fm.size, List.length_cons]; omega
  | dia a ha =>
    have h2 := pl (decide (a.own < 3)) a.body
    simp only [Fm.body, Fm.size, List.length_cons]; omega
theorem txt_len (lv : Nat) (f : Fm) : (f.txt lv).length ≤ 4 * f.size := by
  have := body_len f
  unfold Fm.txt par
  split
  · simp; omega
  · omega
/-! ### Steps -/
section
variable {P : Program} {w : World}
theorem iSlK {k : Nat} {v : Value} {n i j : Nat} {xs : List Value} {ki kj : IntKind} {K : Value → Prop} (hs : SlK k w v n xs) (hi : i ≤ j) (hj : j ≤ n) (h : ∀ r, SlK k w r (j - i) ((xs.drop (i * k)).take ((j - i) * k)) → K r) : xSl k v (some (.int ki (i : Int))) (some (.int kj (j : Int))) K := by
  obtain ⟨h0, a, c, rfl, h2, h3, h4⟩ := hs
  have hik : i * k ≤ j * k := Nat.mul_le_mul_right _ hi
  have hjk : j * k ≤ n * k := Nat.mul_le_mul_right _ hj
  refine ⟨_, _, _, i, j, rfl, ⟨kj, rfl⟩, ⟨ki, rfl⟩, hi, by omega, h _ ⟨?_, _, _, rfl, by omega, by omega, ?_⟩⟩
  · rw [List.length_take, List.length_drop, Nat.sub_mul]; omega
  · rcases h4 with rfl | ⟨b, o, rfl, hc⟩
    · exact .inl (by omega)
    · by_cases hz : j - i = 0
      · exact .inl hz
      · refine .inr ⟨b, o + i * k, by rw [if_neg (by omega), Option.map_some, addr_add], fun m hm => ?_⟩
        rw [Nat.sub_mul] at hm ⊢
        rw [Nat.add_assoc, hc _ (by omega), List.getElem?_take, if_pos hm, List.getElem?_drop]
theorem iSlKFrom {k : Nat} {v : Value} {n i : Nat} {xs : List Value} {ki : IntKind} {K : Value → Prop} (hs : SlK k w v n xs) (hi : i ≤ n) (h : ∀ r, SlK k w r (n - i) (xs.drop (i * k)) → K r) : xSl k v (some (.int ki (i : Int))) none K := by
  obtain ⟨h0, a, c, rfl, h2, h3, h4⟩ := hs
  have hik : i * k ≤ n * k := Nat.mul_le_mul_right _ hi
  refine ⟨_, _, _, i, n, rfl, rfl, ⟨ki, rfl⟩, hi, by omega, h _ ⟨?_, _, _, rfl, by omega, by omega, ?_⟩⟩
  · rw [List.length_drop, Nat.sub_mul]; omega
  · rcases h4 with rfl | ⟨b, o, rfl, hc⟩
    · exact .inl (by omega)
    · by_cases hz : n - i = 0
      · exact .inl hz
      · refine .inr ⟨b, o + i * k, by rw [if_neg (by omega), Option.map_some, addr_add], fun m hm => ?_⟩
        rw [Nat.sub_mul] at hm
        rw [Nat.add_assoc, hc _ (by omega), List.getElem?_drop]
/-- 's[i:j:j]'. -/
theorem iSlMax {k : Nat} {t e : TypeId} {z : Option Value} {bytes : Nat} {v : Value} {n i j : Nat} {xs : List Value} {ki kj km : IntKind} {K : Value → Prop} (ht : P.underlying t = some (.slice e)) (hi0 : (P.info? e).map (fun i => (i.zero, i.size, i.bytes)) = some (z, k, bytes))
    (hs : SlK k w v n xs) (hi : i ≤ j) (hj : j ≤ n) (h : ∀ r, SlK k w r (j - i) ((xs.drop (i * k)).take ((j - i) * k)) → K r) : xR P w (Instr.sliceAt t v (some (.int ki (i : Int))) (some (.int kj (j : Int))) (some (.int km (j : Int)))) K := by
  obtain ⟨ti, hti, h3⟩ := Option.map_eq_some_iff.1 hi0
  simp only [Prod.mk.injEq] at h3
  obtain ⟨-, hsz, -⟩ := h3
  obtain ⟨h0, a, c, rfl, h2, h3, h4⟩ := hs
  have hik : i * k ≤ j * k := Nat.mul_le_mul_right _ hi
  have hjk : j * k ≤ n * k := Nat.mul_le_mul_right _ hj
  refine ⟨.slice (if j = i then a else a.map (·.add (i * k))) (j - i) (j - i), fun w' _ => ?_, h _ ⟨?_, _, _, rfl, Nat.le_refl _, by omega, ?_⟩⟩
  · have hb : (Instr.sliceBounds true n c (some (.int ki (i : Int))) (some (.int kj (j : Int))) (some (.int km (j : Int)))).run P w' = .ok (i, j, j) w' := by
      have hjc : j ≤ c := by omega
      unfold Instr.sliceBounds
      simp [Instr.sliceBound, asIntOf, hi, hjc]
    simp [Instr.sliceAt, Instr.slice, run_und ht, hb, run_size hti, hsz]
  · rw [List.length_take, List.length_drop, Nat.sub_mul]; omega
  · rcases h4 with rfl | ⟨b, o, rfl, hc⟩
    · exact .inl (by omega)
    · by_cases hz : j - i = 0
      · exact .inl hz
      · refine .inr ⟨b, o + i * k, by rw [if_neg (by omega), Option.map_some, addr_add], fun m hm => ?_⟩
        rw [Nat.sub_mul] at hm ⊢
        rw [Nat.add_assoc, hc _ (by omega), List.getElem?_take, if_pos hm, List.getElem?_drop]
/-- The number at place f of element j. -/
theorem iFld {sz f : Nat} {v x : Value} {n : Nat} {xs : List Value} {z : Int} {j : Nat} {k : IntKind} {K : Value → Prop} (hs : SlK sz w v n xs) (hz : z = (j : Int)) (h1 : j < n) (hf : f < sz) (hx : xs[j * sz + f]? = some x) (h : K x) : xIa sz v (.int k z) fun p => xFa f p fun q => xLd w q K := by
  subst hz
  refine iIaK hs h1 fun b o hc => ?_
  refine ⟨_, rfl, ?_⟩
  rw [addr_add]
  exact iLd ((hc f hf).trans hx) h
/-- Two nodes compared. -/
theorem iNeNode {t t0 t1 : TypeId} {a b c d : Int} {xo yo : Operand} {K : Value → Prop} (hu : P.underlying t = some (.struct (P.fieldsOf t))) (hp : P.stoodInHeld t = false) (hg : P.eqGuardType P.depth t = false)
    (hf : (P.fieldsOf t).toList.map (fun f => (f.name == "_", f.offset, f.type)) = [(false, 0, t0), (false, 1, t1)]) (h0 : P.underlying t0 = some (.int .i64)) (h1 : P.underlying t1 = some (.int .i64))
    (h : K (.bool (decide (¬ (a = c ∧ b = d))))) : xR P w (do eqGuard .neq t xo yo (.agg #[.int .i64 a, .int .i64 b]) (.agg #[.int .i64 c, .int .i64 d]); binOp .neq t (.agg #[.int .i64 a, .int .i64 b]) (.agg #[.int .i64 c, .int .i64 d])) K := by
  refine ⟨_, fun w' _ => ?_, h⟩
  obtain ⟨f0, f1, hl, n0, n1, o0, o1, rfl, rfl⟩ : ∃ f0 f1, (P.fieldsOf t).toList = [f0, f1] ∧ ¬ f0.name = "_" ∧ ¬ f1.name = "_" ∧ f0.offset = 0 ∧ f1.offset = 1 ∧ f0.type = t0 ∧ f1.type = t1 := by
    generalize (P.fieldsOf t).toList = l at hf
    rcases l with _ | ⟨f0, _ | ⟨f1, _ | ⟨f2, l⟩⟩⟩ <;> simp at hf
    exact ⟨f0, f1, rfl, hf.1.1, hf.2.1, hf.1.2.1, hf.2.2.1, hf.1.2.2, hf.2.2.2⟩
  have pt : ∀ (t : TypeId) (cs : Array Value) (o : Nat) (x : Value), P.underlying t = some (.int .i64) → cs[o]? = some x → (part t cs o).run P w' = .ok x w' := fun t cs o x ht hx => by
    have hg : isAgg? P t = some false := by simp [isAgg?, ht]
    simp [part, isAgg_run hg, hx]
  have eqn : ∀ (d : Nat) (t : TypeId) (a b : Int), P.underlying t = some (.int .i64) → (Op.equalIn (d + 1) t (.int .i64 a) (.int .i64 b)).run P w' = .ok (a == b) w' := fun d t a b ht => run_equalIn_int w' d t .i64 .i64 a b ht
  rw [Sem.run_bind, run_eqGuard_agg w' .neq t xo yo _ _ hg, Result.andThen_ok, run_neq_struct, run_equalIn_struct w' 9999 t _ _ hu hp, hl]
  simp only [Op.eqFields, ne_eq, n0, n1, not_false_eq_true, if_true, o0, o1, Sem.run_bind]
  rw [pt _ _ 0 (.int .i64 a) h0 rfl, Result.andThen_ok, pt _ _ 0 (.int .i64 c) h0 rfl, Result.andThen_ok, eqn 9998 _ a c h0, Result.andThen_ok]
  by_cases e1 : a = c
  · subst e1
    simp only [beq_self_eq_true, Bool.not_true, Bool.false_eq_true, if_false, Sem.run_bind]
    rw [pt _ _ 1 (.int .i64 b) h1 rfl, Result.andThen_ok, pt _ _ 1 (.int .i64 d) h1 rfl, Result.andThen_ok, eqn 9998 _ b d h1, Result.andThen_ok]
    by_cases e2 : b = d <;> simp [e2]
  · simp [e1]
end
end Go.Vc
namespace Go.Proofs.YteifjhpddhppcaaGreat
open Go.Vc
theorem ok_impl_partsOf (k : Nat) (w : World) : Ret Tryz.prog f_impl_partsOf #[.int .i64 (k : Int)] w (.int .i64 (arity k : Int)) := by
  apply c_impl_partsOf; unfold S_impl_partsOf
  refine iEq ?_
  refine iJnB (decide (k = 2 ∨ k = 3 ∨ k = 4)) w (fun J hJ => ?_) (fun w2 h2 => ?_)
  · refine iCndP (fun h => ?_) (fun h => ?_)
    · rw [decide_eq_true (.inl (by omega))] at hJ
      exact hJ _ (Ext.refl _)
    · refine iEq ?_
      refine iJnB (decide (k = 2 ∨ k = 3 ∨ k = 4)) w (fun J' hJ' => ?_) (fun w4 h4 => ?_)
      · refine iCndP (fun h' => ?_) (fun h' => ?_)
        · rw [decide_eq_true (.inr (.inl (by omega)))] at hJ'
          exact hJ' _ (Ext.refl _)
        · refine iEq ?_
          rw [show decide (k = 2 ∨ k = 3 ∨ k = 4) = decide ((k : Int) = 4) from decide_eq_decide.2 (by omega)] at hJ'
          exact hJ' _ (Ext.refl _)
      · intro _
        exact hJ _ h4
  · intro _
    simp only [gx]
    refine iCndP (fun h => ?_) (fun h => ?_)
    · rw [show (arity k : Int) = 2 by unfold arity; rw [if_pos h]; rfl]
      exact ⟨by first | trivial | rfl, h2⟩
    · refine iEq ?_
      refine iJnB (decide (k = 5 ∨ k = 6)) w2 (fun J hJ => ?_) (fun w6 h6 => ?_)
      · refine iCndP (fun h' => ?_) (fun h' => ?_)
        · rw [decide_eq_true (.inl (by omega))] at hJ
          exact hJ _ (Ext.refl _)
        · refine iEq ?_
          rw [show decide (k = 5 ∨ k = 6) = decide ((k : Int) = 6) from decide_eq_decide.2 (by omega)] at hJ
          exact hJ _ (Ext.refl _)
      · intro _
        simp only [gx]
        refine iCndP (fun h' => ?_) (fun h' => ?_)
        · rw [show (arity k : Int) = 1 by unfold arity; rw [if_neg h, if_pos h']; rfl]
          exact ⟨by first | trivial | rfl, h2.trans h6⟩
        · rw [show (arity k : Int) = 0 by unfold arity; rw [if_neg h, if_neg h']; rfl]
          exact ⟨by first | trivial | rfl, h2.trans h6⟩
theorem ok_spec_l02Parts (k : Nat) (w : World) : Ret Tryz.prog f_spec_l02Parts #[.int .i64 (k : Int)] w (.int .i64 (arity k : Int)) := by
  apply c_spec_l02Parts; unfold S_spec_l02Parts
  refine iEq ?_
  refine iJnB (decide (k = 2 ∨ k = 3 ∨ k = 4)) w (fun J hJ => ?_) (fun w2 h2 => ?_)
  · refine iCndP (fun h => ?_) (fun h => ?_)
    · rw [decide_eq_true (.inl (by omega))] at hJ
      exact hJ _ (Ext.refl _)
    · refine iEq ?_
      refine iJnB (decide (k = 2 ∨ k = 3 ∨ k = 4)) w (fun J' hJ' => ?_) (fun w4 h4 => ?_)
      · refine iCndP (fun h' => ?_) (fun h' => ?_)
        · rw [decide_eq_true (.inr (.inl (by omega)))] at hJ'
          exact hJ' _ (Ext.refl _)
        · refine iEq ?_
          rw [show decide (k = 2 ∨ k = 3 ∨ k = 4) = decide ((k : Int) = 4) from decide_eq_decide.2 (by omega)] at hJ'
          exact hJ' _ (Ext.refl _)
      · intro _
        exact hJ _ h4
  · intro _
    simp only [gx]
    refine iCndP (fun h => ?_) (fun h => ?_)
    · rw [show (arity k : Int) = 2 by unfold arity; rw [if_pos h]; rfl]
      exact ⟨by first | trivial | rfl, h2⟩
    · refine iEq ?_
      refine iJnB (decide (k = 5 ∨ k = 6)) w2 (fun J hJ => ?_) (fun w6 h6 => ?_)
      · refine iCndP (fun h' => ?_) (fun h' => ?_)
        · rw [decide_eq_true (.inl (by omega))] at hJ
          exact hJ _ (Ext.refl _)
        · refine iEq ?_
          rw [show decide (k = 5 ∨ k = 6) = decide ((k : Int) = 6) from decide_eq_decide.2 (by omega)] at hJ
          exact hJ _ (Ext.refl _)
      · intro _
        simp only [gx]
        refine iCndP (fun h' => ?_) (fun h' => ?_)
        · rw [show (arity k : Int) = 1 by unfold arity; rw [if_neg h, if_pos h']; rfl]
          exact ⟨by first | trivial | rfl, h2.trans h6⟩
        · rw [show (arity k : Int) = 0 by unfold arity; rw [if_neg h, if_neg h']; rfl]
          exact ⟨by first | trivial | rfl, h2.trans h6⟩
theorem kind_at {fs : List Fm} {f : Fm} {r xs : List Value} {i : Nat} (h : xs.drop (i * 2) = cellsL (f :: fs) ++ r) : xs[i * 2 + 0]? = some (.int .i64 (f.kind : Int)) ∧ xs[i * 2 + 1]? = some (.int .i64 (f.sym : Int)) ∧ xs.drop ((i + 1) * 2) = cellsL (f.kids ++ fs) ++ r := by
  have e : cellsL (f :: fs) ++ r = nd f.kind f.sym ++ (cellsL (f.kids ++ fs) ++ r) := by
    rw [cellsL_app]
    simp only [cellsL, List.flatMap_cons]
    rw [f.cells_kids]
    simp [cellsL]
  rw [e] at h
  refine ⟨?_, ?_, ?_⟩
  · have := congrArg (fun l => l[0]?) h
    simpa [List.getElem?_drop] using this
  · have := congrArg (fun l => l[1]?) h
    simpa [List.getElem?_drop] using this
  · have := congrArg (List.drop 2) h
    rw [List.drop_drop] at this
    rw [show (i + 1) * 2 = i * 2 + 2 by omega, this]
    rfl
theorem ok_impl_partEnd {v : Value} {n i : Nat} {xs : List Value} {f : Fm} {r : List Value} {w : World} (hs : SlK 2 w v n xs) (hx : xs.drop (i * 2) = f.cells ++ r) (hn : n ≤ 1099511627776) : Ret Tryz.prog f_impl_partEnd #[v, .int .i64 (i : Int)] w (.int .i64 ((i + f.size : Nat) : Int)) := by
  apply c_impl_partEnd; unfold S_impl_partEnd
  have hlen : xs.length = n * 2 := hs.1
  refine iLp (fun s : Nat × List Fm => [.int .i64 (s.1 : Int), .int .i64 (s.2.length : Int)]) (fun s w' => Ext w w' ∧ xs.drop (s.1 * 2) = cellsL s.2 ++ r ∧ s.1 + sizeL s.2 = i + f.size) (fun s => sizeL s.2) (i, [f]) rfl ⟨Ext.refl _, by simpa [cellsL] using hx, by simp [sizeL]⟩ ?_
  rintro ⟨j, fs⟩ w2 Kn ⟨h2, hd, hsum⟩ hKn
  have hd : xs.drop (j * 2) = cellsL fs ++ r := hd
  have hsum : j + sizeL fs = i + f.size := hsum
  intro _
  simp only [gx]
  refine iLt ?_
  cases fs with
  | nil =>
    refine iCndF (by simp) ?_
    have : j = i + f.size := by simpa [sizeL] using hsum
    exact ⟨by rw [this], h2⟩
  | cons g gs =>
    refine iCndT (by simp) ?_
    have hpos : 1 ≤ sizeL (g :: gs) := by simp only [sizeL, List.map_cons, List.sum_cons]; have := g.size_pos; omega
    have hl := congrArg List.length hd
    rw [List.length_drop, List.length_append, cellsL_len] at hl
    have hjn : j < n := by omega
    refine iLenK (hs.ext h2) ?_
    refine iLe ?_
    refine iCndP (fun h => by omega) (fun _ => ?_)
    obtain ⟨hk, -, hd'⟩ := kind_at hd
    refine iFld (hs.ext h2) rfl hjn (by decide) hk ?_
    refine iRet (ok_impl_partsOf g.kind w2) fun w3 h23 => ?_
    have har := g.arity_kids
    have hk2 : g.kids.length ≤ 2 := by cases g <;> simp [Fm.kids]
    have hgl := sizeL_len gs
    have hsg : sizeL (g :: gs) = g.size + sizeL gs := by simp [sizeL]
    refine iSub (by omega) ?_
    refine iAdd (by rw [List.length_cons]; omega) ?_
    refine iAdd (by omega) ?_
    rw [show ((g :: gs).length : Int) + ((arity g.kind : Int) - 1) = ((g.kids ++ gs).length : Int) by rw [har, List.length_append, List.length_cons]; omega]
    have hgk := g.size_kids
    exact hKn (j + 1, g.kids ++ gs) _ ⟨h2.trans h23, hd', by show j + 1 + sizeL (g.kids ++ gs) = _; rw [sizeL_app]; omega⟩ (by show sizeL (g.kids ++ gs) < sizeL (g :: gs); rw [sizeL_app]; omega)
theorem ok_spec_l02Part {v : Value} {n i : Nat} {xs : List Value} {f : Fm} {r : List Value} {w : World} (hs : SlK 2 w v n xs) (hx : xs.drop (i * 2) = f.cells ++ r) (hn : n ≤ 1099511627776) : Ret Tryz.prog f_spec_l02Part #[v, .int .i64 (i : Int)] w (.int .i64 ((i + f.size : Nat) : Int)) := by
  apply c_spec_l02Part; unfold S_spec_l02Part
  have hlen : xs.length = n * 2 := hs.1
  refine iLp (fun s : Nat × List Fm => [.int .i64 (s.1 : Int), .int .i64 (s.2.length : Int)]) (fun s w' => Ext w w' ∧ xs.drop (s.1 * 2) = cellsL s.2 ++ r ∧ s.1 + sizeL s.2 = i + f.size) (fun s => sizeL s.2) (i, [f]) rfl ⟨Ext.refl _, by simpa [cellsL] using hx, by simp [sizeL]⟩ ?_
  rintro ⟨j, fs⟩ w2 Kn ⟨h2, hd, hsum⟩ hKn
  have hd : xs.drop (j * 2) = cellsL fs ++ r := hd
  have hsum : j + sizeL fs = i + f.size := hsum
  intro _
  simp only [gx]
  refine iLt ?_
  cases fs with
  | nil =>
    refine iCndF (by simp) ?_
    have : j = i + f.size := by simpa [sizeL] using hsum
    exact ⟨by rw [this], h2⟩
  | cons g gs =>
    refine iCndT (by simp) ?_
    have hpos : 1 ≤ sizeL (g :: gs) := by simp only [sizeL, List.map_cons, List.sum_cons]; have := g.size_pos; omega
    have hl := congrArg List.length hd
    rw [List.length_drop, List.length_append, cellsL_len] at hl
    have hjn : j < n := by omega
    refine iLenK (hs.ext h2) ?_
    refine iLe ?_
    refine iCndP (fun h => by omega) (fun _ => ?_)
    obtain ⟨hk, -, hd'⟩ := kind_at hd
    have har := g.arity_kids
    have hk2 : g.kids.length ≤ 2 := by cases g <;> simp [Fm.kids]
    have hgl := sizeL_len gs
    have hsg : sizeL (g :: gs) = g.size + sizeL gs := by simp [sizeL]
    refine iSub (by rw [List.length_cons]; omega) ?_
    refine iFld (hs.ext h2) rfl hjn (by decide) hk ?_
    refine iRet (ok_spec_l02Parts g.kind w2) fun w3 h23 => ?_
    refine iAdd (by rw [List.length_cons]; omega) ?_
    refine iAdd (by omega) ?_
    rw [show ((g :: gs).length : Int) - 1 + (arity g.kind : Int) = ((g.kids ++ gs).length : Int) by rw [har, List.length_append, List.length_cons]; omega]
    have hgk := g.size_kids
    exact hKn (j + 1, g.kids ++ gs) _ ⟨h2.trans h23, hd', by show j + 1 + sizeL (g.kids ++ gs) = _; rw [sizeL_app]; omega⟩ (by show sizeL (g.kids ++ gs) < sizeL (g :: gs); rw [sizeL_app]; omega)
theorem drop_one {f g : Fm} {gs : List Fm} (hk : f.kids = g :: gs) : f.cells.drop (1 * 2) = g.cells ++ cellsL gs := by
  rw [f.cells_kids, hk]; simp [cellsL]
theorem drop_two {f g h : Fm} (hk : f.kids = [g, h]) : f.cells.drop ((1 + g.size) * 2) = h.cells ++ [] ∧ f.size = 1 + g.size + h.size := by
  refine ⟨?_, by have := f.size_kids; rw [hk] at this; simp [sizeL] at this; omega⟩
  rw [f.cells_kids, hk, show (1 + g.size) * 2 = 2 + g.cells.length by rw [g.cells_len]; omega, ← List.drop_drop]
  simp [cellsL]
theorem ok_impl_part {v : Value} {n i : Nat} {xs : List Value} {f : Fm} {r : List Value} {w : World} (hs : SlK 2 w v n xs) (hx : xs.drop (i * 2) = f.cells ++ r) (hin : i + f.size ≤ n) (hn : n ≤ 1099511627776) : Cal Tryz.prog f_impl_part #[v, .int .i64 (i : Int)] w fun u w' => Ext w w' ∧ FmS w' u f := by
  apply c_impl_part; unfold S_impl_part
  refine iRet (ok_impl_partEnd hs hx hn) fun w1 h1 => ?_
  refine iRet (ok_impl_partEnd (hs.ext h1) hx hn) fun w2 h2 => ?_
  refine iSlMax u_Simpl_Node i_Simpl_Node ((hs.ext h1).ext h2) (by omega) hin fun u hu => ⟨h1.trans h2, ?_⟩
  rw [hx, Nat.add_sub_cancel_left, ← f.cells_len, List.take_left] at hu
  exact hu
theorem ok_impl_first {v : Value} {f g : Fm} {gs : List Fm} {w : World} (hs : FmS w v f) (hk : f.kids = g :: gs) (hn : f.size ≤ 1099511627776) : Cal Tryz.prog f_impl_first #[v] w fun u w' => Ext w w' ∧ FmS w' u g := by
  apply c_impl_first; unfold S_impl_first
  have hsz := f.size_kids
  rw [hk] at hsz
  simp only [sizeL, List.map_cons, List.sum_cons] at hsz
  refine iCall ((ok_impl_part (i := 1) hs (drop_one hk) (by omega) hn).mono ?_)
  rintro u w1 ⟨h1, hu⟩
  exact ⟨h1, hu⟩
theorem ok_impl_second {v : Value} {f g h : Fm} {w : World} (hs : FmS w v f) (hk : f.kids = [g, h]) (hn : f.size ≤ 1099511627776) : Cal Tryz.prog f_impl_second #[v] w fun u w' => Ext w w' ∧ FmS w' u h := by
  apply c_impl_second; unfold S_impl_second
  obtain ⟨hd, hsz⟩ := drop_two hk
  refine iRet (ok_impl_partEnd (i := 1) hs (drop_one hk) hn) fun w1 h1 => ?_
  refine iCall ((ok_impl_part (i := 1 + g.size) (hs.ext h1) hd (by omega) hn).mono ?_)
  rintro u w2 ⟨h2, hu⟩
  exact ⟨h1.trans h2, hu⟩
theorem kind_fst {w : World} {v : Value} {f : Fm} (hs : FmS w v f) : f.cells[0 * 2 + 0]? = some (.int .i64 (f.kind : Int)) ∧ f.cells[0 * 2 + 1]? = some (.int .i64 (f.sym : Int)) := by
  have _ := hs
  rw [f.cells_kids]
  simp [nd]
end Go.Proofs.YteifjhpddhppcaaGreat

/- Contracts: the kinds of formulas, as their text needs them. Conditions: none. -/
namespace Go.Proofs.YteifjhpddhppcaaGreat
open Go.Vc
theorem ok_impl_isFalsum {v : Value} {f : Fm} {w : World} (hs : FmS w v f) : Ret Tryz.prog f_impl_isFalsum #[v] w (.bool (decide (f = .fls))) := by
  apply c_impl_isFalsum; unfold S_impl_isFalsum
  refine iFld (j := 0) hs rfl f.size_pos (by decide) (kind_fst hs).1 ?_
  refine iEq ⟨?_, Ext.refl _⟩
  congr 1
  refine decide_eq_decide.2 ?_
  cases f <;> simp [Fm.kind]
theorem ok_impl_isNegation {v : Value} {f : Fm} {w : World} (hs : FmS w v f) (hn : f.size ≤ 1099511627776) : Ret Tryz.prog f_impl_isNegation #[v] w (.bool f.isNeg) := by
  apply c_impl_isNegation; unfold S_impl_isNegation
  refine iJnB f.isNeg w (fun J hJ => ?_) (fun w2 h2 => fun _ => ⟨by first | trivial | rfl, h2⟩)
  refine iFld (j := 0) hs rfl f.size_pos (by decide) (kind_fst hs).1 ?_
  refine iEq ?_
  refine iCndP (fun h => ?_) (fun h => ?_)
  · cases f <;> simp only [Fm.kind] at h <;> (try omega)
    rename_i a b
    refine iCall ((ok_impl_second (g := a) (h := b) hs rfl hn).mono ?_)
    rintro u w3 ⟨h3, hu⟩
    exact iRet (ok_impl_isFalsum hu) fun w4 h4 => hJ _ (h3.trans h4)
  · cases f <;> first | exact hJ _ (Ext.refl _) | (simp [Fm.kind] at h)
theorem ok_impl_levelOf {v : Value} {f : Fm} {w : World} (hs : FmS w v f) (hn : f.size ≤ 1099511627776) : Ret Tryz.prog f_impl_levelOf #[v] w (.int .i64 (f.own : Int)) := by
  apply c_impl_levelOf; unfold S_impl_levelOf
  refine iJnB (decide (f.kind = 4) && !f.isNeg) w (fun J hJ => ?_) (fun w2 h2 => ?_)
  · refine iFld (j := 0) hs rfl f.size_pos (by decide) (kind_fst hs).1 ?_
    refine iEq ?_
    refine iCndP (fun h => ?_) (fun h => ?_)
    · rw [decide_eq_true (show f.kind = 4 by omega), Bool.true_and] at hJ
      refine iRet (ok_impl_isNegation hs hn) fun w3 h3 => ?_
      exact iNot (hJ _ h3)
    · rw [decide_eq_false (show ¬ f.kind = 4 by omega), Bool.false_and] at hJ
      exact hJ _ (Ext.refl _)
  · intro _
    simp only [gx]
    have hs2 := hs.ext h2
    cases hc : decide (f.kind = 4) && !f.isNeg
    · refine iCndF rfl ?_
      refine iFld (j := 0) hs2 rfl f.size_pos (by decide) (kind_fst hs).1 ?_
      refine iEq ?_
      refine iCndP (fun h => ?_) (fun h => ?_)
      · refine ⟨?_, h2⟩
        cases f <;> simp only [Fm.kind] at h <;> first | omega | rfl
      · refine iFld (j := 0) hs2 rfl f.size_pos (by decide) (kind_fst hs).1 ?_
        refine iEq ?_
        refine iCndP (fun h' => ?_) (fun h' => ?_)
        · refine ⟨?_, h2⟩
          cases f <;> simp only [Fm.kind] at h' <;> first | omega | rfl
        · refine ⟨?_, h2⟩
          cases f <;> simp [Fm.kind, Fm.isNeg] at h h' hc <;> simp [Fm.own, hc]
    · refine iCndT rfl ⟨?_, h2⟩
      cases f <;> simp [Fm.kind, Fm.isNeg] at hc
      simp [Fm.own, hc]
end Go.Proofs.YteifjhpddhppcaaGreat

/- Contracts: the text of a formula and formulas read from texts, in the program and in the reference. Conditions: none. -/
namespace Go.Vc
/-- The letters of the variables, one of them. -/
theorem letter_at {v : Nat} (hv : v < 6) : (([112, 113, 114, 115, 116, 117] : Str).drop v).take (v + 1 - v) = [vl v] := by
  have : ∀ v : Fin 6, (([112, 113, 114, 115, 116, 117] : Str).drop v.val).take (v.val + 1 - v.val) = [vl v.val] := by decide
  exact this ⟨v, hv⟩
theorem txt_out {f : Fm} {lv : Nat} (h : f.own < lv) : f.txt lv = [40] ++ f.txt 0 ++ [41] := by
  rw [txt_par h, txt_own (Nat.zero_le _)]; simp
def pCode (t : Str) : Int := if 200 < t.length then 3 else if rdOk t then (if 40 < (rd t).1.size then 3 else 0) else 6
def pAt (t : Str) : Nat := if 200 < t.length then 0 else if rdOk t then 0 else rdAt t
theorem pCode_size {t : Str} (h : pCode t = 0) : (rd t).1.size ≤ 40 ∧ t.length ≤ 200 ∧ rdOk t = true := by
  unfold pCode at h
  split at h
  · cases h
  · split at h
    · split at h
      · cases h
      · rename_i h1 h2 h3; exact ⟨by omega, by omega, h2⟩
    · cases h
/-- Texts of formulas. -/
def goodT (t : Str) : Bool := decide (pCode t = 0) && decide ((rd t).1.body = t)
end Go.Vc
namespace Go.Proofs.YteifjhpddhppcaaGreat
open Go.Vc
theorem ok_impl_textAt : ∀ (m : Nat) {v : Value} {f : Fm} {lv : Nat} {w : World}, 2 * f.size + (if f.own < lv then 1 else 0) ≤ m → FmS w v f → f.good → f.size ≤ 1099511627776 → lv ≤ 3 → Ret Tryz.prog f_impl_textAt #[v, .int .i64 (lv : Int)] w (sv (f.txt lv))
  | 0, v, f, lv, w, hm, _, _, _, _ => by have := f.size_pos; omega
  | m + 1, v, f, lv, w, hm, hs, hg, hn, hlv => by
    apply c_impl_textAt; unfold S_impl_textAt
    have hbl := body_len f
    have htl := fun lv => txt_len lv f
    refine iRet (ok_impl_levelOf hs hn) fun w1 h1 => ?_
    have hs1 := hs.ext h1
    refine iLt ?_
    refine iCndP (fun h => ?_) (fun h => ?_)
    · have h : f.own < lv := by omega
      rw [if_pos h] at hm
      refine iRet (ok_impl_textAt m (lv := 0) (by rw [if_neg (by omega)]; omega) hs1 hg hn (by decide)) fun w2 h2 => ?_
      have := htl 0
      refine iCat (a := [40]) (by simp only [List.length_singleton]; omega) ?_
      refine iCat (b := [41]) (by simp only [List.length_append, List.length_singleton]; omega) ?_
      rw [← txt_out h]
      exact ⟨by first | trivial | rfl, h1.trans h2⟩
    · have h : lv ≤ f.own := by omega
      rw [txt_own h]
      rw [if_neg (by omega)] at hm
      have hk := kind_fst hs
      refine iFld (j := 0) hs1 rfl f.size_pos (by decide) hk.1 ?_
      -- any part of the formula, at any level
      have sub : ∀ {g : Fm} {u : Value} {w' : World} {l : Nat}, g.size < f.size → FmS w' u g → g.good → l ≤ 3 → Ret Tryz.prog f_impl_textAt #[u, .int .i64 (l : Int)] w' (sv (g.txt l)) := fun {g u w' l} h1 h2 h3 h4 =>
        ok_impl_textAt m (by split <;> omega) h2 h3 (by omega) h4
      cases f with
      | var x =>
        refine iEq (iCndT rfl ?_)
        refine iFld (j := 0) hs1 rfl (Fm.size_pos _) (by decide) hk.2 ?_
        refine iFld (j := 0) hs1 rfl (Fm.size_pos _) (by decide) hk.2 ?_
        have hx : x < 6 := hg
        refine iAdd (by show _ ≤ (x : Int) + 1 ∧ (x : Int) + 1 ≤ _; omega) ?_
        refine iTxSub (l := [112, 113, 114, 115, 116, 117]) (i := x) (j := x + 1) (by omega) (by show x + 1 ≤ 6; omega) ?_
        intro w3 h3
        rw [letter_at hx]
        exact ⟨by first | trivial | rfl, h1.trans h3⟩
      | fls =>
        refine iEq (iCndF rfl (iEq (iCndT rfl ?_)))
        exact ⟨by first | trivial | rfl, h1⟩
      | and a b =>
        refine iEq (iCndF rfl (iEq (iCndF rfl (iEq (iCndT rfl ?_)))))
        simp only [Fm.size] at hn
        have ha := txt_len 2 a
        have hb := txt_len 3 b
        refine iCall ((ok_impl_first hs1 (g := a) (gs := [b]) rfl (by simp only [Fm.size]; omega)).mono ?_)
        rintro u w4 ⟨h4, hu⟩
        refine iRet (sub (l := 2) (by simp only [Fm.size]; omega) hu hg.1 (by decide)) fun w5 h5 => ?_
        refine iCat (b := [38]) (by simp only [List.length_singleton]; omega) ?_
        have hs5 := (hs1.ext h4).ext h5
        refine iCall ((ok_impl_second hs5 (g := a) (h := b) rfl (by simp only [Fm.size]; omega)).mono ?_)
        rintro u' w6 ⟨h6, hu'⟩
        refine iRet (sub (l := 3) (by simp only [Fm.size]; omega) hu' hg.2 (by decide)) fun w7 h7 => ?_
        refine iCat (by simp only [List.length_append, List.length_singleton]; omega) ?_
        refine ⟨?_, (((h1.trans h4).trans h5).trans h6).trans h7⟩
        simp [Fm.body, Fm.txt]
      | or a b =>
        refine iEq (iCndF rfl (iEq (iCndF rfl (iEq (iCndF rfl (iEq (iCndT rfl ?_)))))))
        simp only [Fm.size] at hn
        have ha := txt_len 1 a
        have hb := txt_len 2 b
        refine iCall ((ok_impl_first hs1 (g := a) (gs := [b]) rfl (by simp only [Fm.size]; omega)).mono ?_)
        rintro u w4 ⟨h4, hu⟩
        refine iRet (sub (l := 1) (by simp only [Fm.size]; omega) hu hg.1 (by decide)) fun w5 h5 => ?_
        refine iCat (b := [124]) (by simp only [List.length_singleton]; omega) ?_
        have hs5 := (hs1.ext h4).ext h5
        refine iCall ((ok_impl_second hs5 (g := a) (h := b) rfl (by simp only [Fm.size]; omega)).mono ?_)
        rintro u' w6 ⟨h6, hu'⟩
        refine iRet (sub (l := 2) (by simp only [Fm.size]; omega) hu' hg.2 (by decide)) fun w7 h7 => ?_
        refine iCat (by simp only [List.length_append, List.length_singleton]; omega) ?_
        refine ⟨?_, (((h1.trans h4).trans h5).trans h6).trans h7⟩
        simp [Fm.body, Fm.txt]
      | box a =>
        refine iEq (iCndF rfl (iEq (iCndF rfl (iEq (iCndF rfl (iEq (iCndF rfl (iEq (iCndT rfl ?_)))))))))
        simp only [Fm.size] at hn
        have ha := txt_len 3 a
        refine iCall ((ok_impl_first hs1 (g := a) (gs := []) rfl (by simp only [Fm.size]; omega)).mono ?_)
        rintro u w4 ⟨h4, hu⟩
        refine iRet (sub (l := 3) (by simp only [Fm.size]; omega) hu hg (by decide)) fun w5 h5 => ?_
        refine iCat (a := [91, 93]) (by simp only [List.length_cons, List.length_nil]; omega) ?_
        exact ⟨by first | trivial | rfl, (h1.trans h4).trans h5⟩
      | dia a =>
        refine iEq (iCndF rfl (iEq (iCndF rfl (iEq (iCndF rfl (iEq (iCndF rfl (iEq (iCndF rfl (iEq (iCndT rfl ?_)))))))))))
        simp only [Fm.size] at hn
        have ha := txt_len 3 a
        refine iCall ((ok_impl_first hs1 (g := a) (gs := []) rfl (by simp only [Fm.size]; omega)).mono ?_)
        rintro u w4 ⟨h4, hu⟩
        refine iRet (sub (l := 3) (by simp only [Fm.size]; omega) hu hg (by decide)) fun w5 h5 => ?_
        refine iCat (a := [60, 62]) (by simp only [List.length_cons, List.length_nil]; omega) ?_
        exact ⟨by first | trivial | rfl, (h1.trans h4).trans h5⟩
      | imp a b =>
        refine iEq (iCndF rfl (iEq (iCndF rfl (iEq (iCndF rfl (iEq (iCndF rfl (iEq (iCndF rfl (iEq (iCndF rfl ?_)))))))))))
        refine iRet (ok_impl_isNegation hs1 hn) fun w16 h16 => ?_
        have hs16 := hs1.ext h16
        have h16' := h1.trans h16
        simp only [Fm.size] at hn
        refine iNot ?_
        have hbd : (Fm.imp a b).body = if b = .fls then (if a = .fls then [84] else 126 :: par (decide (a.own < 3)) a.body) else par (decide (a.own < 1)) a.body ++ 62 :: b.body := by rw [Fm.body]
        rw [hbd]
        by_cases hb : b = .fls
        · rw [if_pos hb]
          refine iCndF (by simp [Fm.isNeg, hb]) ?_
          refine iCall ((ok_impl_first hs16 (g := a) (gs := [b]) rfl (by simp only [Fm.size]; omega)).mono ?_)
          rintro u w21 ⟨h21, hu⟩
          refine iRet (ok_impl_isFalsum hu) fun w22 h22 => ?_
          have hs22 := (hs16.ext h21).ext h22
          have h22' := (h16'.trans h21).trans h22
          refine iCndP (fun ha => ?_) (fun ha => ?_)
          · rw [if_pos ha]
            exact ⟨by first | trivial | rfl, h22'⟩
          · rw [if_neg ha]
            have hal := txt_len 3 a
            refine iCall ((ok_impl_first hs22 (g := a) (gs := [b]) rfl (by simp only [Fm.size]; omega)).mono ?_)
            rintro u' w23 ⟨h23, hu'⟩
            refine iRet (sub (l := 3) (by simp only [Fm.size]; omega) hu' hg.1 (by decide)) fun w24 h24 => ?_
            refine iCat (a := [126]) (by simp only [List.length_singleton]; omega) ?_
            exact ⟨by first | trivial | rfl, (h22'.trans h23).trans h24⟩
        · rw [if_neg hb]
          refine iCndT (by simp [Fm.isNeg, hb]) ?_
          have ha1 := txt_len 1 a
          have hb0 := txt_len 0 b
          refine iCall ((ok_impl_first hs16 (g := a) (gs := [b]) rfl (by simp only [Fm.size]; omega)).mono ?_)
          rintro u w17 ⟨h17, hu⟩
          refine iRet (sub (l := 1) (by simp only [Fm.size]; omega) hu hg.1 (by decide)) fun w18 h18 => ?_
          refine iCat (b := [62]) (by simp only [List.length_singleton]; omega) ?_
          have hs18 := (hs16.ext h17).ext h18
          refine iCall ((ok_impl_second hs18 (g := a) (h := b) rfl (by simp only [Fm.size]; omega)).mono ?_)
          rintro u' w19 ⟨h19, hu'⟩
          refine iRet (sub (l := 0) (by simp only [Fm.size]; omega) hu' hg.2 (by decide)) fun w20 h20 => ?_
          refine iCat (by simp only [List.length_append, List.length_singleton]; omega) ?_
          refine ⟨?_, (((h16'.trans h17).trans h18).trans h19).trans h20⟩
          simp [Fm.txt, par]
theorem ok_impl_text {v : Value} {f : Fm} {w : World} (hs : FmS w v f) (hg : f.good) (hn : f.size ≤ 1099511627776) : Ret Tryz.prog f_impl_text #[v] w (sv f.body) := by
  apply c_impl_text; unfold S_impl_text
  refine iRet (ok_impl_textAt _ (lv := 0) (Nat.le_refl _) hs hg hn (by decide)) fun w1 h1 => ?_
  rw [txt_own (Nat.zero_le _)]
  exact ⟨by first | trivial | rfl, h1⟩
theorem FmW.some {lo : Nat} {w : World} {v : Value} {f : Fm} (h : FmW lo w v f) : ∃ g c, lo ≤ g ∧ g < w.heap.size ∧ v = .slice (some ⟨g, 0, none⟩) f.size c := by
  obtain ⟨_, ⟨_, h0⟩ | ⟨g, cap, cur, hv, hg, hh, _⟩⟩ := h
  · have := f.size_pos; omega
  · exact ⟨g, cap, hg, heap_lt hh, hv⟩
theorem ok_impl_ParseFormula (t : Str) (w : World) : Cal Tryz.prog f_impl_ParseFormula #[sv t] w fun r w' => Ext w w' ∧ ∃ v, r = .tuple #[v, .int .i64 (pAt t : Int), .int .i64 (pCode t)] ∧ (pCode t = 0 → FmW w.heap.size w' v (rd t).1) ∧ (¬ pCode t = 0 → v = .slice none 0 0) := by
  apply c_impl_ParseFormula; unfold S_impl_ParseFormula
  refine iLenT ?_
  refine iLt ?_
  refine iCndP (fun h => ?_) (fun h => ?_)
  · have e1 : pCode t = 3 := by unfold pCode; rw [if_pos (by omega)]
    have e2 : pAt t = 0 := by unfold pAt; rw [if_pos (by omega)]
    rw [e1, e2]
    exact ⟨Ext.refl _, _, rfl, (fun h => by cases h), fun _ => rfl⟩
  · have e1 : pCode t = if rdOk t then (if 40 < (rd t).1.size then 3 else 0) else 6 := by unfold pCode; rw [if_neg (by omega)]
    have e2 : pAt t = if rdOk t then 0 else rdAt t := by unfold pAt; rw [if_neg (by omega)]
    refine iBuild (cs := #[sv t, .int .i64 0, .bool false]) (by simp [Instr.fill, Value.cells]) ?_
    refine iNew fun b w1 hb h1 hB => ?_
    refine iCall ((ok_impl_reader_imply (by omega) (RdS.new hB)).mono ?_)
    rintro v w2 ⟨h2, hc2, hv2⟩
    rw [← rd_rdL] at h2 hv2
    have hX2 : Ext w w2 := h1.thenCh hc2 fun c hc => by omega
    have hB2 := h2.place
    have hrl := rd_len t
    refine iJnB (!rdOk t) w2 (fun J hJ => ?_) (fun w4 h4 => ?_)
    · unfold rdOk at hJ
      ((with_reducible refine iNil ?_; refine iFa ?_); refine iLdB (by assumption) (by first | rfl | simp) ?_)
      cases hbad : (rd t).2.2
      · rw [hbad] at hJ
        refine iCndF rfl ?_
        ((with_reducible refine iNil ?_; refine iFa ?_); refine iLdB (by assumption) (by first | rfl | simp) ?_)
        refine iLenT ?_
        ((with_reducible refine iLt ?_))
        have : decide (((t.length - (rd t).2.1.length : Nat) : Int) < (t.length : Nat)) = !(!false && decide ((rd t).2.1 = [])) := by
          by_cases he : (rd t).2.1 = []
          · rw [he]; simp
          · have : 1 ≤ (rd t).2.1.length := by
              rcases Nat.eq_zero_or_pos (rd t).2.1.length with h0 | h0
              · exact absurd (List.length_eq_zero_iff.1 h0) he
              · exact h0
            simp [he]; omega
        rw [this]
        exact hJ w2 (Ext.refl _)
      · rw [hbad] at hJ
        exact iCndT rfl (hJ w2 (Ext.refl _))
    · intro _
      simp only [gx]
      have hB4 := hB2.ext h4
      cases hok : rdOk t
      · refine iCndT rfl ?_
        rw [e1, e2, hok]
        ((with_reducible refine iNil ?_; refine iFa ?_); refine iLdB (by assumption) (by first | rfl | simp) ?_)
        intro w5 h5
        exact ⟨(hX2.trans h4).trans h5, _, rfl, (fun h => by cases h), fun _ => rfl⟩
      · refine iCndF rfl ?_
        have hv4 := OwK.ext hv2 h4
        rw [e1, e2, hok]
        refine iLenK hv4.sl ?_
        refine iLt ?_
        refine iCndP (fun h' => ?_) (fun h' => ?_)
        · rw [if_pos rfl, if_pos (show 40 < (rd t).1.size by omega)]
          exact ⟨hX2.trans h4, _, rfl, (fun h => by cases h), fun _ => rfl⟩
        · rw [if_pos rfl, if_neg (show ¬ 40 < (rd t).1.size by omega)]
          exact ⟨hX2.trans h4, _, rfl, fun _ => hv4.mono h1.size, fun h => absurd rfl h⟩
theorem ok_impl_parsed (t : Str) (w : World) : Cal Tryz.prog f_impl_parsed #[sv t] w fun v w' => Ext w w' ∧ (pCode t = 0 → FmW w.heap.size w' v (rd t).1) ∧ (¬ pCode t = 0 → v = .slice none 0 0) := by
  apply c_impl_parsed; unfold S_impl_parsed
  refine iCall ((ok_impl_ParseFormula t w).mono ?_)
  rintro r w1 ⟨h1, v, rfl, hv, hn⟩
  refine iE30 ?_
  refine iE31 ?_
  refine iE32 ?_
  exact ⟨h1, hv, hn⟩
theorem ok_impl_isText (t : Str) (w : World) : Ret Tryz.prog f_impl_isText #[sv t] w (.bool (goodT t)) := by
  apply c_impl_isText; unfold S_impl_isText
  refine iCall ((ok_impl_parsed t w).mono ?_)
  rintro v w1 ⟨h1, hv, hn⟩
  refine iJnB (goodT t) w1 (fun J hJ => ?_) (fun w3 h3 => fun _ => ⟨by first | trivial | rfl, h1.trans h3⟩)
  unfold goodT at hJ
  by_cases hc : pCode t = 0
  · rw [decide_eq_true hc, Bool.true_and] at hJ
    have hs := (hv hc).sl
    obtain ⟨g, c, -, -, he⟩ := FmW.some (hv hc)
    subst he
    refine ⟨trivial, rfl, ?_⟩
    refine iCndT rfl ?_
    refine iRet (ok_impl_text hs (rd_good t) (by have := (pCode_size hc).1; omega)) fun w4 h4 => ?_
    exact iEqT (hJ _ h4)
  · rw [decide_eq_false hc, Bool.false_and] at hJ
    rw [hn hc]
    exact ⟨trivial, rfl, iCndF rfl (hJ _ (Ext.refl _))⟩
end Go.Proofs.YteifjhpddhppcaaGreat
