/- The proof of FnExactMergeNotebooksCard, part 5 of 6. Conditions: none. -/
import Derived.Test.YtombcpghgdabaaaGreatDoorKR49d
import Derived.Lib.AppendZerosOnto
import Derived.Lib.Overlaps
import Derived.Lib.ConvBytes
import Derived.Lib.AppendIntMem
/- Memory: rows of elements of three cells that a call turns in place: slices.Insert, slices.Delete on []Item. Conditions: none. -/
namespace Go.Vc
/-- A row of cap elements of three cells, whole. -/
def Rw (e : TypeId) (w : World) (g cap : Nat) (cur : List Value) : Prop := Blk e w g cur ∧ cur.length = cap * 3 ∧ cap ≤ 9223372036854775807
theorem OwK.rw {lo n : Nat} {e : TypeId} {w : World} {v : Value} {xs : List Value} (h : OwK 3 lo e w v n xs) (hn : 0 < n) :
    ∃ g cap cur, v = .slice (some ⟨g, 0, none⟩) n cap ∧ lo ≤ g ∧ n ≤ cap ∧ Rw e w g cap cur ∧ cur.take (n * 3) = xs := by
  obtain ⟨_, ⟨_, h0⟩ | ⟨g, cap, cur, hv, hg, hh, h1, h2, h3, h4⟩⟩ := h
  · omega
  · exact ⟨g, cap, cur.toList, hv, hg, h1, ⟨by unfold Blk; rw [Array.toArray_toList]; exact hh, by simpa using h3, h2⟩, h4⟩
section
variable {P : Program} {w : World} {e : TypeId} {g cap : Nat} {cur : List Value}
theorem Rw.own {lo n : Nat} {xs : List Value} (h : Rw e w g cap cur) (hl : lo ≤ g) (hn : n ≤ cap) (hx : cur.take (n * 3) = xs) : OwK 3 lo e w (.slice (some ⟨g, 0, none⟩) n cap) n xs :=
  ⟨by rw [← hx, List.length_take, h.2.1]; omega, .inr ⟨g, cap, cur.toArray, rfl, hl, h.1, hn, h.2.2, by simpa using h.2.1, by simpa using hx⟩⟩
theorem Rw.ext {w' : World} (h : Rw e w g cap cur) (x : Ext w w') : Rw e w' g cap cur := ⟨h.1.ext x, h.2⟩
theorem Rw.lt (h : Rw e w g cap cur) : g < w.heap.size := heap_lt h.1
theorem Rw.ch {w' : World} {S : Nat → Prop} (h : Rw e w g cap cur) (hc : Ch S w w') (hn : ¬ S g) : Rw e w' g cap cur := ⟨by unfold Blk; rw [hc.block g h.lt hn]; exact h.1, h.2⟩
theorem Rw.cell (h : Rw e w g cap cur) (i : Nat) : w.cell? ⟨g, i, none⟩ = cur[i]? := by
  have := h.1
  unfold Blk at this
  simp [World.cell?, this]
theorem Rw.sl (h : Rw e w g cap cur) {l m c o : Nat} (ho : 0 < m → o = l * 3) (hm : l + m ≤ cap) (hc : m ≤ c) (hcm : c ≤ 9223372036854775807) : SlK 3 w (.slice (some ⟨g, o, none⟩) m c) m ((cur.drop (l * 3)).take (m * 3)) := by
  rcases Nat.eq_zero_or_pos m with rfl | h0
  · exact ⟨by simp, _, c, rfl, hc, hcm, .inl rfl⟩
  · have ho := ho h0
    subst ho
    refine ⟨by rw [List.length_take, List.length_drop, h.2.1]; omega, _, c, rfl, hc, hcm, .inr ⟨g, l * 3, rfl, fun i hi => ?_⟩⟩
    rw [h.cell (l * 3 + i), List.getElem?_take, if_pos hi, List.getElem?_drop]
/-- A part of a list put anew. -/
def putL (cur : List Value) (o : Nat) (ys : List Value) : List Value := cur.take o ++ ys ++ cur.drop (o + ys.length)
theorem putL_len {cur : List Value} {o : Nat} {ys : List Value} (h : o + ys.length ≤ cur.length) : (putL cur o ys).length = cur.length := by
  unfold putL; rw [List.length_append, List.length_append, List.length_take, List.length_drop]; omega
theorem putL_take {cur : List Value} {o n : Nat} {ys : List Value} (h : o + ys.length ≤ cur.length) (hn : n = o + ys.length) : (putL cur o ys).take n = cur.take o ++ ys := by
  unfold putL
  have hl : (cur.take o ++ ys).length = n := by rw [List.length_append, List.length_take]; omega
  rw [List.take_append_of_le_length (by omega), List.take_of_length_le (by omega)]
theorem putL_low {cur : List Value} {o n : Nat} {ys : List Value} (h : o + ys.length ≤ cur.length) (hn : n ≤ o) : (putL cur o ys).take n = cur.take n := by
  unfold putL
  rw [List.append_assoc, List.take_append_of_le_length (by rw [List.length_take]; omega), List.take_take, Nat.min_eq_left hn]
theorem putL_over {cur : List Value} {o n : Nat} {ys : List Value} (h : o + ys.length ≤ cur.length) (hn : o + ys.length ≤ n) : (putL cur o ys).take n = cur.take o ++ ys ++ (cur.drop (o + ys.length)).take (n - (o + ys.length)) := by
  unfold putL
  have hl : (cur.take o ++ ys).length = o + ys.length := by rw [List.length_append, List.length_take]; omega
  rw [List.take_append, List.take_of_length_le (by omega), hl]
theorem putL_drop {cur : List Value} {o : Nat} {ys : List Value} (h : o ≤ cur.length) : (putL cur o ys).drop o = ys ++ cur.drop (o + ys.length) := by
  unfold putL
  have hl : (cur.take o).length = o := by rw [List.length_take]; omega
  rw [List.append_assoc, List.drop_append, List.drop_of_length_le (by omega), List.nil_append, hl, Nat.sub_self, List.drop_zero]
theorem Rw.set (h : Rw e w g cap cur) {cur' : List Value} (hl : cur'.length = cur.length) : Rw e (w.setRow g cur'.toArray) g cap cur' ∧ Ch (fun c => c = g) w (w.setRow g cur'.toArray) :=
  ⟨⟨setRow_heap w g cur.toArray _ e (0, 0) h.1, by rw [hl]; exact h.2.1, h.2.2⟩, ⟨rfl, rfl, rfl, by rw [setRow_size]; exact Nat.le_refl _, fun c _ hc => setRow_other w g c _ hc⟩⟩
theorem SlK.src {k m : Nat} {x : Value} {ys : List Value} (hs : SlK k w x m ys) : ∃ a c, x = .slice a m c ∧ ys.length = m * k ∧ ((a = none ∧ m = 0) ∨ ∃ ad, a = some ad ∧ ∀ j u, ys[j]? = some u → w.cell? (ad.add j) = some u) := by
  obtain ⟨hyl, a, c, rfl, hlc, hcm, hcells⟩ := hs
  refine ⟨a, c, rfl, hyl, ?_⟩
  rcases hcells with rfl | ⟨b, o, rfl, hc⟩
  · cases a with
    | none => exact .inl ⟨rfl, rfl⟩
    | some ad =>
      refine .inr ⟨ad, rfl, fun j u hu => ?_⟩
      have : ys = [] := List.length_eq_zero_iff.1 (by omega)
      rw [this] at hu; simp at hu
  · refine .inr ⟨_, rfl, fun j u hu => ?_⟩
    have hj : j < ys.length := (List.getElem?_eq_some_iff.1 hu).1
    rw [addr_add, hc j (by omega), hu]
/-- 'append(s, x...)' where s has room. -/
theorem iAppRm {t ty : TypeId} {i m bytes : Nat} {x z : Value} {ys : List Value} {K : Value → World → Prop} (ht : P.underlying t = some (.slice e)) (hi : (P.info? e).map (fun i => (i.zero, i.size, i.bytes)) = some (some z, 3, bytes))
    (hR : Rw e w g cap cur) (hs : SlK 3 w x m ys) (hy : ∀ u ∈ ys, isCell u = true) (hroom : i + m ≤ cap)
    (h : ∀ w', Rw e w' g cap (putL cur (i * 3) ys) → Ch (fun c => c = g) w w' → K (.slice (some ⟨g, 0, none⟩) (i + m) cap) w') :
    xOp P (Builtin.append_ #[t, t] ty #[.slice (some ⟨g, 0, none⟩) i cap, x]) w K := by
  obtain ⟨inf, hi, h3⟩ := Option.map_eq_some_iff.1 hi
  simp only [Prod.mk.injEq] at h3
  obtain ⟨-, hsz, -⟩ := h3
  obtain ⟨a, c, rfl, hyl, ⟨rfl, rfl⟩ | ⟨ad, rfl, hsrc⟩⟩ := hs.src
  · have : ys = [] := List.length_eq_zero_iff.1 (by omega)
    subst this
    refine ⟨_, w, ?_, h w (by simpa [putL] using hR) ⟨rfl, rfl, rfl, Nat.le_refl _, fun _ _ _ => rfl⟩⟩
    have : i ≤ cap := by omega
    simp [Builtin.append_, run_underlying ht, sizeOf, typeInfo, hi, Builtin.lenOf, Builtin.firstCells, this, storeCells]
  · have hl3 := hR.2.1
    have hr := run_append_room (P := P) w t ty e inf ht hi g i cap cur.toArray hR.1 ad m c ys (by rw [hsz]; exact hyl) hsrc (fun u hu => isCell_one (hy u hu)) hroom (by simp [hsz]; omega)
    rw [hsz] at hr
    obtain ⟨h1, h2⟩ := hR.set (cur' := putL cur (i * 3) ys) (putL_len (by omega))
    exact ⟨_, _, hr, h _ h1 h2⟩
/-- 'append(s[:i], make([]T, k)...)' where there is no room. -/
theorem iAppGz {t tn ty : TypeId} {i k bytes : Nat} {kq kn : IntKind} {z : Value} {K : Value → World → Prop} (ht : P.underlying t = some (.slice e)) (htn : P.underlying tn = some (.int kn)) (hi : (P.info? e).map (fun i => (i.zero, i.size, i.bytes)) = some (some z, 3, bytes)) (hz : z.cells.size = 3)
    (hR : Rw e w g cap cur) (hic : i ≤ cap) (hk : cap < i + k) (hm : (i + k) * bytes ≤ 140737488355328) (hm2 : i + k ≤ 1099511627776)
    (h : ∀ w' cap' cur', Rw e w' w.heap.size cap' cur' → Ext w w' → i + k ≤ cap' → cur'.take (i * 3) = cur.take (i * 3) → K (.slice (some ⟨w.heap.size, 0, none⟩) (i + k) cap') w') :
    xOp P (Builtin.append_ #[t, tn] ty #[.slice (some ⟨g, 0, none⟩) i cap, .int kq (k : Int)]) w K := by
  obtain ⟨inf, hi, h3⟩ := Option.map_eq_some_iff.1 hi
  simp only [Prod.mk.injEq] at h3
  obtain ⟨hz0, hsz, hby⟩ := h3
  have hl3 := hR.2.1
  have hold : (Builtin.firstCells inf.size i (.slice (some ⟨g, 0, none⟩) i cap)).run P w.drew = .ok (cur.take (i * 3)).toArray w.drew := by
    refine run_firstCells_some _ _ _ _ _ _ _ (by rw [hsz, List.length_take]; omega) fun j u hu => ?_
    rw [addr_add, Nat.zero_add]
    have hj : j < i * 3 := by
      have := (List.getElem?_eq_some_iff.1 hu).1
      rw [List.length_take] at this; omega
    rw [List.getElem?_take, if_pos hj] at hu
    have := hR.cell j
    rw [hu] at this
    exact this
  have hnc : Builtin.nextslicecap (i + k) cap * inf.bytes ≤ 281474976710656 := growslice_fits hk (by rw [hby]; exact hm)
  have hkb : k * inf.bytes ≤ 281474976710656 := by
    have := Nat.mul_le_mul_right inf.bytes (show k ≤ i + k by omega)
    rw [hby] at this ⊢; omega
  have hr := Lib.run_append_grow_zeros (P := P) w t tn ty e inf z kq kn ht htn hi hz0 (some ⟨g, 0, none⟩) i cap (cur.take (i * 3)) hold k (by omega) (by omega) hk (by omega) hkb hnc
  have hge := grownCap_ge w (i + k) cap e
  have hcm := grownCap_le_maxLen w (i + k) cap e (by simp only [maxLen]; omega)
  have hB := Blk.new w.drew ((cur.take (i * 3)).toArray ++ Builtin.zeroCells z.cells k ++ Builtin.zeroCells z.cells (grownCap w (i + k) cap e - (i + k))) e
  have hlt : (cur.take (i * 3)).length = i * 3 := by rw [List.length_take]; omega
  refine ⟨_, _, hr, h _ (grownCap w (i + k) cap e) _ ⟨hB, ?_, by simpa [maxLen] using hcm⟩ ((Ext.drew w).trans (Ext.alloc _ _)) hge ?_⟩
  · rw [Array.length_toList, Array.size_append, Array.size_append, size_zeroCells, size_zeroCells, hz, List.size_toArray, hlt]
    omega
  · rw [Array.toList_append, Array.toList_append, List.append_assoc, List.take_append_of_le_length (by rw [List.toList_toArray, hlt]; exact Nat.le_refl _), List.toList_toArray, List.take_take, Nat.min_self]
/-- 'copy(d, s)'. -/
theorem iCp {tD tS ty : TypeId} {o l dl dc m bytes n : Nat} {x z : Value} {ys : List Value} {K : Value → World → Prop} (ht : P.underlying tD = some (.slice e)) (hi : (P.info? e).map (fun i => (i.zero, i.size, i.bytes)) = some (some z, 3, bytes))
    (hR : Rw e w g cap cur) (hs : SlK 3 w x m ys) (hy : ∀ u ∈ ys.take (n * 3), isCell u = true) (hn : n = Nat.min m dl) (ho : o = l * 3) (hfit : l + n ≤ cap)
    (h : ∀ v w', Rw e w' g cap (putL cur (l * 3) (ys.take (n * 3))) → Ch (fun c => c = g) w w' → K v w') :
    xOp P (Builtin.copy_ #[tD, tS] ty #[.slice (some ⟨g, o, none⟩) dl dc, x]) w K := by
  subst ho
  obtain ⟨inf, hi, h3⟩ := Option.map_eq_some_iff.1 hi
  simp only [Prod.mk.injEq] at h3
  obtain ⟨-, hsz, -⟩ := h3
  have hl3 := hR.2.1
  have hnm : n ≤ m := by rw [hn]; exact Nat.min_le_left _ _
  obtain ⟨a, c, rfl, hyl, ha⟩ := hs.src
  have hyt : (ys.take (n * 3)).length = n * 3 := by rw [List.length_take]; omega
  have hf : (Builtin.firstCells 3 n (.slice a m c)).run P w = .ok (ys.take (n * 3)).toArray w := by
    rcases ha with ⟨rfl, h0⟩ | ⟨ad, rfl, hsrc⟩
    · have : n = 0 := by omega
      subst this
      rw [run_firstCells_none]; simp
    · refine run_firstCells_some _ _ _ _ _ _ _ hyt fun j u hu => hsrc j u ?_
      have hj : j < n * 3 := by
        have := (List.getElem?_eq_some_iff.1 hu).1
        omega
      rwa [List.getElem?_take, if_pos hj] at hu
  have hst := run_storeCells_at P g (l * 3) e (ys.take (n * 3)) 0 cur.toArray w hR.1 (by simp only [List.size_toArray]; omega) (fun u hu => isCell_one (hy u hu))
  obtain ⟨h1, h2⟩ := hR.set (cur' := putL cur (l * 3) (ys.take (n * 3))) (putL_len (by omega))
  have hn' : m.min dl = n := hn.symm
  refine ⟨goInt n, _, ?_, h _ _ h1 h2⟩
  simp only [Nat.add_zero] at hst
  simp [Builtin.copy_, run_underlying ht, Builtin.lenOf, sizeOf, typeInfo, hi, hsz, hn', hf, hst, putL]
/-- 'clear' of n elements. -/
theorem iClr3 {t ty : TypeId} {o l n c bytes : Nat} {z : Value} {K : Value → World → Prop} (ht : P.underlying t = some (.slice e)) (hi : (P.info? e).map (fun i => (i.zero, i.size, i.bytes)) = some (some z, 3, bytes)) (hz : z.cells.size = 3) (hzc : ∀ u ∈ z.cells.toList, isCell u = true)
    (hR : Rw e w g cap cur) (ho : o = l * 3) (hn : 0 < n) (hfit : l + n ≤ cap)
    (h : ∀ ys w', ys.length = n * 3 → Rw e w' g cap (putL cur (l * 3) ys) → Ch (fun c => c = g) w w' → K (.tuple #[]) w') :
    xOp P (Builtin.clear_ #[t] ty #[.slice (some ⟨g, o, none⟩) n c]) w K := by
  subst ho
  obtain ⟨inf, hi, h3⟩ := Option.map_eq_some_iff.1 hi
  simp only [Prod.mk.injEq] at h3
  obtain ⟨hz0, hsz, -⟩ := h3
  have hl3 := hR.2.1
  have hzl : (Builtin.zeroCells z.cells n).toList.length = n * 3 := by rw [Array.length_toList, size_zeroCells, hz]
  have hst := run_storeCells_at P g (l * 3) e (Builtin.zeroCells z.cells n).toList 0 cur.toArray w hR.1 (by simp only [List.size_toArray]; omega) (fun u hu => isCell_one (by
    obtain ⟨i, hi, rfl⟩ := List.getElem_of_mem hu
    rw [hzl] at hi
    simp only [Builtin.zeroCells, Array.getElem_toList, Array.getElem_map]
    refine hzc _ ?_
    have hlt : (Array.range (n * z.cells.size))[i]'(by rw [Array.size_range, hz]; exact hi) % z.cells.size < z.cells.size := Nat.mod_lt _ (by omega)
    rw [getElem!_pos z.cells _ hlt]
    simp))
  obtain ⟨h1, h2⟩ := hR.set (cur' := putL cur (l * 3) (Builtin.zeroCells z.cells n).toList) (putL_len (by omega))
  simp only [Nat.add_zero] at hst
  refine ⟨_, _, ?_, h _ _ hzl h1 h2⟩
  obtain ⟨m, rfl⟩ : ∃ m, n = m + 1 := ⟨n - 1, by omega⟩
  simp [Builtin.clear_, run_underlying ht, zeroValue, run_info hi, hz0, hst, putL]
end
/-! ### Parts of slices of elements of three cells -/
theorem iT3 {g o n c l : Nat} {ki : IntKind} {K : Value → Prop} (hl : l ≤ n) (hc : n ≤ c) (h : ∀ o', (l < c → o' = o + l * 3) → K (.slice (some ⟨g, o', none⟩) (n - l) (c - l))) : xSl 3 (.slice (some ⟨g, o, none⟩) n c) (some (.int ki (l : Int))) none K := by
  refine ⟨_, _, _, l, n, rfl, rfl, ⟨ki, rfl⟩, hl, hc, ?_⟩
  split
  · rename_i e
    exact h o (fun hlt => by omega)
  · rw [Option.map_some, addr_add]
    exact h _ fun _ => rfl
theorem iH3 {g o n c k : Nat} {ki : IntKind} {K : Value → Prop} (hk : k ≤ c) (h : K (.slice (some ⟨g, o, none⟩) k c)) : xSl 3 (.slice (some ⟨g, o, none⟩) n c) none (some (.int ki (k : Int))) K := by
  refine ⟨_, _, _, 0, k, rfl, ⟨ki, rfl⟩, rfl, Nat.zero_le _, hk, ?_⟩
  have e : (if c = 0 then some (⟨g, o, none⟩ : Addr) else (some (⟨g, o, none⟩ : Addr)).map (·.add (0 * 3))) = some ⟨g, o, none⟩ := by
    split
    · rfl
    · rw [Option.map_some, addr_add, Nat.zero_mul, Nat.add_zero]
  rw [e, Nat.sub_zero, Nat.sub_zero]
  exact h
theorem iM3 {g o n c l k : Nat} {ki kj : IntKind} {K : Value → Prop} (hl : l ≤ k) (hk : k ≤ c) (hlc : l < c) (h : K (.slice (some ⟨g, o + l * 3, none⟩) (k - l) (c - l))) : xSl 3 (.slice (some ⟨g, o, none⟩) n c) (some (.int ki (l : Int))) (some (.int kj (k : Int))) K := by
  refine ⟨_, _, _, l, k, rfl, ⟨kj, rfl⟩, ⟨ki, rfl⟩, hl, hk, ?_⟩
  rw [if_neg (by omega), Option.map_some, addr_add]
  exact h
theorem cellsI_take (L : List Itm) (k : Nat) : (cellsI L).take (k * 3) = cellsI (L.take k) := by
  rcases Nat.lt_or_ge L.length k with h | h
  · rw [List.take_of_length_le (by rw [cellsI_len]; omega), List.take_of_length_le (by omega)]
  · conv => lhs; rw [← List.take_append_drop k L, cellsI_app]
    rw [List.take_append_of_le_length (by rw [cellsI_len, List.length_take]; omega), List.take_of_length_le (by rw [cellsI_len, List.length_take]; omega)]
theorem cellsI_drop (L : List Itm) (k : Nat) : (cellsI L).drop (k * 3) = cellsI (L.drop k) := by
  rcases Nat.lt_or_ge L.length k with h | h
  · rw [List.drop_of_length_le (by rw [cellsI_len]; omega), List.drop_of_length_le (by omega)]; rfl
  · conv => lhs; rw [← List.take_append_drop k L, cellsI_app]
    rw [List.drop_append, List.drop_of_length_le (by rw [cellsI_len, List.length_take]; omega), List.nil_append, cellsI_len, List.length_take, Nat.min_eq_left h, Nat.sub_self, List.drop_zero]
end Go.Vc
namespace Go.Proofs.YtombcpghgdabaaaGreatDoor
open Go.Vc
theorem iChk {k n i : Nat} {w : World} {v : Value} {xs : List Value} {ki : IntKind} {G : Prop} (hs : SlK k w v n xs) (hi : i ≤ n) (h : G) : xSl k v (some (.int ki (i : Int))) none fun _ => G := by
  obtain ⟨_, a, c, rfl, h2, _, _⟩ := hs
  exact ⟨_, _, _, i, n, rfl, rfl, ⟨ki, rfl⟩, hi, h2, h⟩
theorem ItmS {q : Nat} {x : Itm} {w : World} (hq : Blk t_impl_Item w q x.cs) : SlK 3 w (.slice (some ⟨q, 0, none⟩) 1 1) 1 x.cs := (OwK.ofBlk (k := 3) (lo := 0) (n := 1) hq (Nat.zero_le _) rfl (by omega)).sl
theorem itm_cell (x : Itm) : ∀ u ∈ x.cs, isCell u = true := fun u hu => cellsI_cell [x] u (by simpa [cellsI] using hu)
theorem run_over {w : World} {q g o n c cap : Nat} {x : Itm} {cur : List Value} (hq : Blk t_impl_Item w q x.cs) (hR : Rw t_impl_Item w g cap cur) (hne : g ≠ q) (h0 : 0 < cap) :
    (callFunc 149 #[.slice (some ⟨q, 0, none⟩) 1 1, .slice (some ⟨g, o, none⟩) n c]).run Tryz.prog w = .ok (.value (.bool false)) w := by
  have h1 := hq
  have h2 := hR.1
  have h3 := hR.2.1
  unfold Blk at h1 h2
  rw [run_callFunc_extern Tryz.func149 (by kernel_rfl) (by kernel_rfl) (by kernel_rfl) (e := Extern.SlicesOverlaps.overlaps #[t_Simpl_Item, t_Simpl_Item] #[4]) (by kernel_rfl),
    Lib.run_overlaps_apart w t_Simpl_Item 4 t_impl_Item u_Simpl_Item 3 Tryz.sizeOf34 ⟨q, 0, none⟩ ⟨g, o, none⟩ 1 1 n c (fun e => hne e.symm) t_impl_Item t_impl_Item 3 cur.length (by simp [World.shape?, h1, Itm.cs]) (by simp [World.shape?, h2]) (by omega) (by simp [World.frozen?, h1]) (by simp [World.frozen?, h1])]
  rfl
theorem ok_slices_InsertI {lo q i : Nat} {v : Value} {L : List Itm} {x : Itm} {w : World} (hs : ItW lo w v L) (hlo : lo ≤ w.heap.size) (hL : L.length ≤ 1048576) (hi : i ≤ L.length) (hq : Blk t_impl_Item w q x.cs) (hne : v.ownBlock ≠ some q) :
    Cal Tryz.prog f_slices_Insert_Simpl_Item_impl_Item #[v, .int .i64 (i : Int), .slice (some ⟨q, 0, none⟩) 1 1] w fun r w' =>
      ItW lo w' r (L.take i ++ x :: L.drop i) ∧ Ch (fun c => v.ownBlock = some c) w w' ∧ (r.ownBlock = v.ownBlock ∨ ∃ c, r.ownBlock = some c ∧ w.heap.size ≤ c) := by
  apply c_slices_Insert_Simpl_Item_impl_Item; unfold S_slices_Insert_Simpl_Item_impl_Item
  have hlen : (L.take i ++ x :: L.drop i).length = L.length + 1 := by rw [List.length_append, List.length_cons, List.length_take, List.length_drop]; omega
  have hres : cellsI (L.take i ++ x :: L.drop i) = cellsI (L.take i) ++ x.cs ++ cellsI (L.drop i) := by simp [cellsI]
  have hx3 : x.cs.length = 3 := rfl
  have hxt : x.cs.take (1 * 3) = x.cs := rfl
  refine iChk hs.sl hi ?_
  refine iLenL (iEq (iCndF (by simp) ?_))
  refine iLenK hs.sl (iEq (iCndP (fun he => ?_) (fun he => ?_)))
  · have hiL : i = L.length := by omega
    refine iAppK u_Simpl_Item i_Simpl_Item rfl (by omega) hs (ItmS hq) (itm_cell x) (by omega) (by omega) hlo fun v' w' ho hg hb => ?_
    refine ⟨?_, grown_ch hg fun b hb => hb, hb⟩
    show OwK 3 lo _ w' v' _ _
    rw [hlen, hres, hiL, List.take_length, List.drop_length]
    have e : cellsI ([] : List Itm) = [] := rfl
    rw [e, List.append_nil]
    exact ho
  · have hil : i < L.length := by omega
    obtain ⟨g, cap, cur, rfl, hg, hcap, hR, hx⟩ := hs.rw (by omega)
    have hgq : g ≠ q := fun e => hne (by rw [e]; rfl)
    have hgl := hR.lt
    have hcl := hR.2.1
    have hA : cur.take (i * 3) = cellsI (L.take i) := by rw [← cellsI_take, ← hx, List.take_take, Nat.min_eq_left (by omega)]
    have hB : (cur.drop (i * 3)).take ((L.length - i) * 3) = cellsI (L.drop i) := by rw [← cellsI_drop, ← hx, List.drop_take]; congr 1; omega
    have hcm := hR.2.2
    have hcell : ∀ w', Rw t_impl_Item w' g cap cur → ∀ u ∈ (cur.drop (i * 3)).take ((L.length - i) * 3), isCell u = true := fun _ _ u hu => cellsI_cell (L.drop i) u (by rw [← hB]; exact hu)
    refine iAdd (by omega) ?_
    refine iCapL (e := t_impl_Item) u_Simpl_Item ?_
    refine iLt (iCndP (fun hgrow => ?_) (fun hroom => ?_))
    · refine iH3 (k := i) (by omega) ?_
      refine iAdd (by omega) (iSub (by omega) ?_)
      rw [show ((L.length : Nat) : Int) + ((1 : Nat) : Int) - (i : Int) = ((L.length + 1 - i : Nat) : Int) by omega]
      refine iAppGz (k := L.length + 1 - i) (kn := .i64) u_Simpl_Item (by kernel_rfl) i_Simpl_Item rfl hR (by omega) (by omega) (by omega) (by omega) fun w2 cap2 cur2 hR2 x2 hc2 ht2 => ?_
      have hn2 : i + (L.length + 1 - i) = L.length + 1 := by omega
      rw [hn2] at hc2 ⊢
      have hc2m := hR2.2.2
      have hc2l := hR2.2.1
      refine iT3 (l := i) (by omega) hc2 fun o1 ho1 => ?_
      have ho1 := ho1 (by omega)
      refine iCp (l := i) (n := 1) u_Simpl_Item i_Simpl_Item hR2 (ItmS (hq.ext x2)) (itm_cell x) (Nat.min_eq_left (by omega)).symm (by omega) (by omega) fun _ w3 hR3 hc3 => ?_
      refine iAdd (by omega) ?_
      rw [show (i : Int) + ((1 : Nat) : Int) = ((i + 1 : Nat) : Int) by omega]
      refine iT3 (l := i + 1) (by omega) hc2 fun o2 ho2 => ?_
      have ho2 := ho2 (by omega)
      refine iT3 (l := i) (by omega) hcap fun o3 ho3 => ?_
      intro w4 x4
      have hRg : Rw t_impl_Item w4 g cap cur := ((hR.ext x2).ch hc3 (by omega)).ext x4
      refine iCp (l := i + 1) (n := L.length - i) u_Simpl_Item i_Simpl_Item (hR3.ext x4) (hRg.sl (l := i) (m := L.length - i) (fun _ => by rw [ho3 (by omega)]; omega) (by omega) (by omega) (by omega)) (fun u hu => hcell w4 hRg u (List.mem_of_mem_take hu)) (by rw [show L.length + 1 - (i + 1) = L.length - i by omega]; exact (Nat.min_self _).symm) (by omega) (by omega) fun _ w5 hR5 hc5 => ?_
      intro w6 x6
      have x36 : Ext w w6 := ((((x2.thenCh hc3 fun c hc => by omega).trans x4).thenCh hc5 fun c hc => by omega).trans x6)
      refine ⟨?_, x36.ch, .inr ⟨_, rfl, Nat.le_refl _⟩⟩
      show OwK 3 lo _ w6 _ _ _
      rw [hlen, hres]
      have hyl : (((cur.drop (i * 3)).take ((L.length - i) * 3)).take ((L.length - i) * 3)).length = (L.length - i) * 3 := by rw [List.length_take, List.length_take, List.length_drop]; omega
      refine (hR5.ext x6).own hlo hc2 ?_
      rw [putL_take (by rw [putL_len (by rw [hxt, hx3]; omega), hyl]; omega) (by rw [hyl]; omega), putL_take (by rw [hxt, hx3]; omega) (by rw [hxt, hx3]; omega), hxt, ht2, hA, List.take_take, Nat.min_self, hB]
    · have hr2 : L.length + 1 ≤ cap := by omega
      refine iAdd (by omega) ?_
      rw [show ((L.length : Nat) : Int) + ((1 : Nat) : Int) = ((L.length + 1 : Nat) : Int) by omega]
      refine iH3 (k := L.length + 1) hr2 ?_
      refine iAdd (by omega) ?_
      rw [show (i : Int) + ((1 : Nat) : Int) = ((i + 1 : Nat) : Int) by omega]
      refine iT3 (l := i + 1) (by omega) hr2 fun o1 ho1 => ?_
      refine iExt (run_over hq hR hgq (by omega)) ?_
      refine iNot (iCndT rfl ?_)
      refine iAdd (by omega) ?_
      rw [show (i : Int) + ((1 : Nat) : Int) = ((i + 1 : Nat) : Int) by omega]
      refine iT3 (l := i + 1) (by omega) hr2 fun o2 ho2 => ?_
      have ho2 := ho2 (by omega)
      refine iT3 (l := i) (by omega) hr2 fun o3 ho3 => ?_
      have ho3 := ho3 (by omega)
      intro w8 x8
      have hR8 := hR.ext x8
      have hyl : (((cur.drop (i * 3)).take ((L.length + 1 - i) * 3)).take ((L.length - i) * 3)) = cellsI (L.drop i) := by rw [List.take_take, Nat.min_eq_left (by omega), hB]
      have hyl2 : (cellsI (L.drop i)).length = (L.length - i) * 3 := by rw [cellsI_len, List.length_drop]
      refine iCp (l := i + 1) (n := L.length - i) u_Simpl_Item i_Simpl_Item hR8 (hR8.sl (l := i) (m := L.length + 1 - i) (fun _ => by omega) (by omega) (by omega) (by omega)) (by rw [hyl]; exact cellsI_cell _) (by show L.length - i = min (L.length + 1 - i) (L.length + 1 - (i + 1)); omega) (by omega) (by omega) fun _ w9 hR9 hc9 => ?_
      intro w10 x10
      rw [hyl] at hR9
      refine iT3 (l := i) (by omega) hr2 fun o4 ho4 => ?_
      have ho4 := ho4 (by omega)
      refine iCp (l := i) (n := 1) u_Simpl_Item i_Simpl_Item (hR9.ext x10) (ItmS (((hq.ext x8).ch hc9 fun e => hgq e.symm).ext x10)) (itm_cell x) (Nat.min_eq_left (by omega)).symm (by omega) (by omega) fun _ w11 hR11 hc11 => ?_
      have hS : ∀ c, c = g → (Value.slice (some ⟨g, 0, none⟩) L.length cap).ownBlock = some c := fun c e => by rw [e]; rfl
      refine ⟨?_, ((x8.ch.trans (hc9.mono hS) fun _ h => .inl h).trans (x10.ch (S := fun _ => False)) (fun _ h => h.elim)).trans (hc11.mono hS) fun _ h => .inl h, .inl rfl⟩
      show OwK 3 lo _ w11 _ _ _
      rw [hlen, hres]
      refine hR11.own hg hr2 ?_
      have h9l : (putL cur ((i + 1) * 3) (cellsI (L.drop i))).length = cap * 3 := by rw [putL_len (by omega), hcl]
      rw [hxt, putL_over (by omega) (by omega), putL_low (by omega) (by omega), hA, hx3, show i * 3 + 3 = (i + 1) * 3 by omega, putL_drop (by omega), List.take_append_of_le_length (by omega), List.take_of_length_le (l := cellsI (L.drop i)) (by omega)]
theorem ok_slices_DeleteI {lo i : Nat} {v : Value} {L : List Itm} {w : World} (hs : ItW lo w v L) (hi : i < L.length) (hL : L.length ≤ 1048576) :
    Cal Tryz.prog f_slices_Delete_Simpl_Item_impl_Item #[v, .int .i64 (i : Int), .int .i64 ((i + 1 : Nat) : Int)] w fun r w' => ItW lo w' r (L.take i ++ L.drop (i + 1)) ∧ Ch (fun c => v.ownBlock = some c) w w' ∧ r.ownBlock = v.ownBlock := by
  apply c_slices_Delete_Simpl_Item_impl_Item; unfold S_slices_Delete_Simpl_Item_impl_Item
  obtain ⟨g, cap, cur, rfl, hg, hcap, hR, hx⟩ := hs.rw (by omega)
  have hcl := hR.2.1
  have hcm := hR.2.2
  have hA : cur.take (i * 3) = cellsI (L.take i) := by rw [← cellsI_take, ← hx, List.take_take, Nat.min_eq_left (by omega)]
  have hB : (cur.drop ((i + 1) * 3)).take ((L.length - (i + 1)) * 3) = cellsI (L.drop (i + 1)) := by rw [← cellsI_drop, ← hx, List.drop_take]; congr 1; omega
  have hB2 : (cellsI (L.drop (i + 1))).length = (L.length - (i + 1)) * 3 := by rw [cellsI_len, List.length_drop]
  refine iLenL ?_
  refine ⟨.slice (if L.length = i then some ⟨g, 0, none⟩ else (some (⟨g, 0, none⟩ : Addr)).map (·.add (i * 3))) (i + 1 - i) (L.length - i), fun w' _ => ?_, ?_⟩
  · have h1 : ((i + 1 : Nat) : Int) ≤ (L.length : Int) := by omega
    have h2 : (L.length : Int) ≤ (cap : Int) := by omega
    have h3 : (i : Int) ≤ ((i + 1 : Nat) : Int) := by omega
    have hz : ∀ w, (sizeOf t_impl_Item).run Tryz.prog w = .ok 3 w := Tryz.sizeOf34
    have b1 := run_sliceBound (P := Tryz.prog) w' .i64 (L.length : Int) cap .slice3Acap (by omega) h2
    have b2 := run_sliceBound (P := Tryz.prog) w' .i64 ((i + 1 : Nat) : Int) L.length .slice3B (by omega) h1
    have b3 := run_sliceBound (P := Tryz.prog) w' .i64 (i : Int) (i + 1) .slice3C (by omega) h3
    rw [Int.toNat_natCast] at b1 b2 b3
    simp only [Instr.sliceAt, Instr.slice, Instr.sliceBounds, Sem.run_bind, Sem.run_pure, run_underlying u_Simpl_Item, Result.andThen_ok, b1, b2, b3, hz, if_true, Option.isSome_some]
  refine iEq (iCndF (decide_eq_false (by omega)) ?_)
  refine iLenL ?_
  refine iH3 (k := i) (by omega) ?_
  refine iT3 (l := i + 1) (by omega) hcap fun o2 ho2 => ?_
  intro w1 x1
  have hR1 := hR.ext x1
  refine iAppRm (i := i) (m := L.length - (i + 1)) u_Simpl_Item i_Simpl_Item hR1 (hR1.sl (l := i + 1) (m := L.length - (i + 1)) (fun _ => by have := ho2 (by omega); omega) (by omega) (by omega) (by omega)) (by rw [hB]; exact cellsI_cell _) (by omega) fun w2 hR2 hc2 => ?_
  rw [hB] at hR2
  intro w3 x3
  have hR3 := hR2.ext x3
  have hn : i + (L.length - (i + 1)) = L.length - 1 := by omega
  rw [hn]
  refine iLenL ?_
  refine iM3 (l := L.length - 1) (k := L.length) (by omega) (by omega) (by omega) ?_
  refine iClr3 (l := L.length - 1) u_Simpl_Item i_Simpl_Item rfl (by simp [Value.cells, isCell]) hR3 (by omega) (by omega) (by omega) fun ys w4 hys hR4 hc4 => ?_
  have hS : ∀ c, c = g → (Value.slice (some ⟨g, 0, none⟩) L.length cap).ownBlock = some c := fun c e => by rw [e]; rfl
  refine ⟨?_, ((x1.ch.trans (hc2.mono hS) fun _ h => .inl h).trans (x3.ch (S := fun _ => False)) (fun _ h => h.elim)).trans (hc4.mono hS) fun _ h => .inl h, rfl⟩
  show OwK 3 lo _ w4 _ _ _
  have hlen : (L.take i ++ L.drop (i + 1)).length = L.length - 1 := by rw [List.length_append, List.length_take, List.length_drop]; omega
  rw [hlen, cellsI_app]
  refine hR4.own hg (by omega) ?_
  have h2l : (putL cur (i * 3) (cellsI (L.drop (i + 1)))).length = cap * 3 := by rw [putL_len (by omega), hcl]
  rw [putL_low (by omega) (by omega), putL_take (by omega) (by omega), hA]
end Go.Proofs.YtombcpghgdabaaaGreatDoor

/- Contracts: entries of a journal, their lines and checks, in the program and in the reference. Conditions: the table of powers of ten (FormatInt reads it). -/
namespace Go.Vc
def Ent.cs (e : Ent) : List Value := [.int .i64 e.kd, sv e.nm, sv e.fm]
def Ent.val (e : Ent) : Value := .agg #[.int .i64 e.kd, sv e.nm, sv e.fm]
section
variable {P : Program} {w : World}
/-- '[]byte(s)'. -/
theorem iBytes {s d e : TypeId} {t : Str} {K : Value → World → Prop} (hs : P.underlying s = some .string) (hd : P.underlying d = some (.slice e)) (he : P.underlying e = some (.int .u8)) (ht : t.length ≤ 1099511627776)
    (h : ∀ v w', Ext w w' → Sl w' v (t.map fun b => .int .u8 (b.toNat : Int)) → K v w') : xOp P (convert s d (sv t)) w K := by
  have hr := Lib.run_convert_string_bytes (P := P) w s d e ⟨t.toArray⟩ hs hd he
  have hsz : (⟨t.toArray⟩ : ByteArray).size = t.length := rfl
  have hge := grownCap_ge w t.length 0 e
  have hcm := grownCap_le_maxLen w t.length 0 e (by simp only [maxLen]; omega)
  refine ⟨_, _, hr, h _ _ ⟨rfl, rfl, rfl, by rw [Lib.bytesWorld_size]; omega, fun j hj => Lib.bytesWorld_at_old w e _ j hj⟩ ⟨_, _, by rw [List.length_map, hsz], by rw [List.length_map]; exact hge, by simpa [maxLen] using hcm, .inr ⟨w.heap.size, 0, rfl, fun i hi => ?_⟩⟩⟩
  rw [List.length_map] at hi
  rw [Nat.zero_add, Lib.bytesWorld_cell w e ⟨t.toArray⟩ i hi]
  simp [hi]
theorem iIaB {v : Value} {t : Str} {j : Nat} {k : IntKind} {K : Value → Prop} (hs : Sl w v (t.map fun b => .int .u8 (b.toNat : Int))) (hj : j < t.length) (h : K (.int .u8 ((t.getD j 0).toNat : Int))) : xIa 1 v (.int k (j : Int)) fun p => xLd w p K := by
  refine iIa hs (by omega) (by rw [List.length_map]; omega) fun p hc => ?_
  exact iLd (hc.trans (by rw [Int.toNat_natCast]; simp [List.getD_eq_getElem?_getD, hj])) h
/-- A byte as a text, where what comes later waits for it. -/
theorem iChrE {s d e : TypeId} {c : UInt8} {z : Int} {K : Value → World → Prop} (hs : P.underlying s = some (.slice e)) (he : P.underlying e = some (.int .u8)) (hd : P.underlying d = some .string) (hz : z = (c.toNat : Int)) (h : ∀ w', Ext w w' → K (sv [c]) w') :
    xBs e (Value.cells (.int .u8 0)) 1 1 [(0, .int .u8 z)] w fun v w3 => Ext w w3 ∧ xR P w3 (convert s d v) fun r => K r w3 := by
  obtain ⟨cs, h1, v, h2, h3, h4⟩ := iChr (P := P) (w := w) (K := fun r w3 => Ext w w3 ∧ K r w3) hs he hd hz fun w' x => ⟨x, h w' x⟩
  exact ⟨cs, h1, h3, v, h2, h4⟩
end
theorem chkT_snoc (c : Nat) (t : Str) (b : UInt8) : chkT c (t ++ [b]) = (37 * chkT c t + b.toNat) % 999983 := by rw [chkT_app]; rfl
theorem take_snoc {t : Str} {i : Nat} (h : i < t.length) : t.take (i + 1) = t.take i ++ [t.getD i 0] := by
  rw [List.take_succ_eq_append_getElem h]; simp [List.getD_eq_getElem?_getD, h]
theorem chk_step (c : Nat) (b : UInt8) : ((37 * (c : Int) + (b.toNat : Int)) % 999983) = (((37 * c + b.toNat) % 999983 : Nat) : Int) := by omega
theorem decT_rec {n : Nat} (h : ¬ n < 10) : decT n = decT (n / 10) ++ [UInt8.ofNat (48 + n % 10)] := by unfold decT; conv => lhs; rw [Lib.decDigits, dif_neg h]
theorem decT_len (n : Nat) : (decT n).length ≤ n + 1 := by
  induction n using Nat.strongRecOn with
  | _ n ih =>
    by_cases h : n < 10
    · unfold decT; rw [Lib.decDigits, dif_pos h]; simp
    · rw [decT_rec h, List.length_append]
      have := ih (n / 10) (by omega)
      simp only [List.length_cons, List.length_nil]; omega
end Go.Vc
namespace Go.Proofs.YtombcpghgdabaaaGreatDoor
open Go.Vc
/-- The table that FormatInt reads. -/
def TabOk (w : World) : Prop := Lib.TabIs Tryz.prog w "internal/strconv.uint64pow10" .u64 Lib.pow10Tab
theorem TabOk.ext {w w' : World} (h : TabOk w) (x : Ext w w') : TabOk w' := by
  unfold TabOk Lib.TabIs World.var? at h ⊢
  cases hg : Tryz.prog.globalNamed "internal/strconv.uint64pow10" with
  | none => rw [hg] at h; exact h
  | some g =>
    rw [hg] at h
    simp only [Option.bind_some] at h ⊢
    have hlt : g < w.heap.size := by
      rcases Nat.lt_or_ge g w.heap.size with h' | h'
      · exact h'
      · rw [Array.getElem?_eq_none h'] at h; cases h
    rw [Go.RowKit.Below.block x g hlt]
    exact h
theorem ok_impl_checkOf {c : Nat} {t : Str} (hc : c < 999983) (ht : t.length ≤ 1099511627776) (w : World) : Ret Tryz.prog f_impl_checkOf #[.int .i64 (c : Int), sv t] w (.int .i64 (chkT c t : Int)) := by
  apply c_impl_checkOf; unfold S_impl_checkOf
  refine iBytes Tryz.underlying9 u_Suint8 (by kernel_rfl) ht fun v w1 x1 hs => ?_
  refine iLenS hs ?_
  rw [List.length_map]
  refine iLp (fun s : Nat × Nat => [.int .i64 (s.1 : Int), .int .i64 (s.2 : Int)]) (fun s w' => s.2 ≤ t.length ∧ s.1 = chkT c (t.take s.2) ∧ Ext w1 w') (fun s => t.length - s.2) (c, 0) rfl ⟨Nat.zero_le _, rfl, Ext.refl _⟩ ?_
  rintro ⟨m, i⟩ w2 Kn ⟨hi, hm, x2⟩ hKn
  have hi : i ≤ t.length := hi
  have hm : m = chkT c (t.take i) := hm
  have hml : m < 999983 := by rw [hm]; exact chkT_lt hc _
  intro _
  simp only [gx]
  refine iLt (iCndP (fun h => ?_) (fun h => ?_))
  · have hil : i < t.length := by omega
    refine iIaB (hs.ext x2) hil ?_
    have hb := (t.getD i 0).toNat_lt
    refine iMul (by omega) (iConv64 (by omega) (iAdd (by omega) (iRem (by omega) ?_)))
    refine iAdd (by omega) ?_
    rw [chk_step]
    refine hKn ((37 * m + (t.getD i 0).toNat) % 999983, i + 1) _ ⟨hil, ?_, x2⟩ (by show t.length - (i + 1) < t.length - i; omega)
    show _ = chkT c (t.take (i + 1))
    rw [take_snoc hil, chkT_snoc, ← hm]
  · have e : i = t.length := by omega
    subst e
    rw [List.take_length] at hm
    rw [hm]
    exact ⟨rfl, x1.trans x2⟩
theorem ok_spec_l35Check {t : Str} (ht : t.length ≤ 1099511627776) (w : World) : Ret Tryz.prog f_spec_l35Check #[sv t] w (.int .i64 (chkT 11 t : Int)) := by
  apply c_spec_l35Check; unfold S_spec_l35Check
  refine iLp (fun s : Nat × Nat => [.int .i64 (s.1 : Int), .int .i64 (s.2 : Int)]) (fun s w' => s.2 ≤ t.length ∧ s.1 = chkT 11 (t.take s.2) ∧ Ext w w') (fun s => t.length - s.2) (11, 0) rfl ⟨Nat.zero_le _, rfl, Ext.refl _⟩ ?_
  rintro ⟨m, i⟩ w2 Kn ⟨hi, hm, x2⟩ hKn
  have hi : i ≤ t.length := hi
  have hm : m = chkT 11 (t.take i) := hm
  have hml : m < 999983 := by rw [hm]; exact chkT_lt (by omega) _
  intro _
  simp only [gx]
  refine iLenT (iLt (iCndP (fun h => ?_) (fun h => ?_)))
  · have hil : i < t.length := by omega
    have hb := (t.getD i 0).toNat_lt
    refine iMul (by omega) ?_
    refine iIs hil ?_
    refine iConv64 (by omega) (iAdd (by omega) (iRem (by omega) ?_))
    refine iAdd (by omega) ?_
    rw [chk_step]
    refine hKn ((37 * m + (t.getD i 0).toNat) % 999983, i + 1) _ ⟨hil, ?_, x2⟩ (by show t.length - (i + 1) < t.length - i; omega)
    show _ = chkT 11 (t.take (i + 1))
    rw [take_snoc hil, chkT_snoc, ← hm]
  · have e : i = t.length := by omega
    subst e
    rw [List.take_length] at hm
    rw [hm]
    exact ⟨rfl, x2⟩
theorem ok_impl_decimal {n : Nat} (hn : n ≤ 1099511627776) {w : World} (hT : TabOk w) : Ret Tryz.prog f_impl_decimal #[.int .i64 (n : Int)] w (sv (decT n)) := by
  apply c_impl_decimal; unfold S_impl_decimal
  refine iRet (v := sv (decT n)) ?_ fun w' x => ⟨rfl, x⟩
  apply c_strconv_FormatInt; unfold S_strconv_FormatInt
  refine iCall (Cal.mono (R := fun v w' => v = sv (decT n) ∧ Ext w w') ⟨⟨_, laysM246.f246, by kernel_rfl, by kernel_rfl⟩, ?_⟩ fun v w' h => h)
  refine (Go.Proofs.Any.internal_strconv_FormatInt_10 laysM246 (n : Int) (by omega) (by omega) w hT).mono ?_
  rintro e w' ⟨rfl, k, os, rfl⟩
  refine ⟨_, rfl, ?_, Lib.below_grow _ _ (Nat.le_refl _) _ _⟩
  have : Lib.itoa (n : Int) = decT n := by
    unfold Lib.itoa
    rw [if_neg (by omega), Int.toNat_natCast]
  rw [this]
theorem ok_spec_l01Dec : ∀ {n : Nat}, n ≤ 1099511627776 → ∀ w : World, Ret Tryz.prog f_spec_l01Dec #[.int .i64 (n : Int)] w (sv (decT n)) := by
  intro n
  induction n using Nat.strongRecOn with
  | _ n ih =>
    intro hn w
    apply c_spec_l01Dec; unfold S_spec_l01Dec
    have hchr : ∀ d : Nat, d < 10 → ((48 : Int) + (d : Int)) = ((UInt8.ofNat (48 + d)).toNat : Int) := fun d hd => by
      rw [UInt8.toNat_ofNat', Nat.mod_eq_of_lt (by omega)]; omega
    have hcv : ∀ {d : Nat} {K : Value → Prop}, d < 10 → K (.int .u8 ((UInt8.ofNat (48 + d)).toNat : Int)) → xConv .u8 (.int .i64 ((48 : Int) + (d : Int))) K := fun {d K} hd h => by
      refine ⟨_, _, rfl, ?_⟩
      rw [show IntKind.u8.wrap ((48 : Int) + (d : Int)) = ((UInt8.ofNat (48 + d)).toNat : Int) by
        rw [hchr d hd]; simp [IntKind.wrap, IntKind.bits, IntKind.signed]]
      exact h
    refine iLt (iCndP (fun h => ?_) (fun h => ?_))
    · refine iAdd (by omega) ?_
      refine hcv (by omega) ?_
      refine iChr u_Suint8 (by kernel_rfl) Tryz.underlying9 rfl fun w1 x1 => ⟨?_, x1⟩
      rw [show decT n = [UInt8.ofNat (48 + n)] from by unfold decT; rw [Lib.decDigits, dif_pos (by omega)]]
    · refine iQuo (by omega) ?_
      rw [show (n : Int) / 10 = ((n / 10 : Nat) : Int) by omega]
      refine iRetQ (fun w' hw' => ih (n / 10) (by omega) (by omega) w') ?_
      refine iRem (by omega) ?_
      rw [show (n : Int) % 10 = ((n % 10 : Nat) : Int) by omega]
      refine iAdd (by omega) ?_
      refine hcv (by omega) ?_
      intro w2 x2
      refine iChrE u_Suint8 (by kernel_rfl) Tryz.underlying9 rfl fun w3 x3 => ?_
      have hl := decT_len (n / 10)
      refine iCat (by simp only [List.length_cons, List.length_nil]; omega) ?_
      intro w4 x4
      exact ⟨by rw [decT_rec (n := n) (by omega)], (x2.trans x3).trans x4⟩
end Go.Proofs.YtombcpghgdabaaaGreatDoor

/- Contracts: entries as texts, entries of words, in the program and in the reference. Conditions: the table of powers of ten. -/
namespace Go.Vc
theorem entOf_let {W : List Str} (h : W.length = 3) (h0 : gt W 0 = kLet) : entOf W = ⟨1, gt W 1, gt W 2⟩ := by
  rcases W with _ | ⟨a, _ | ⟨b, _ | ⟨c, _ | ⟨d, r⟩⟩⟩⟩ <;> simp at h
  have h0 : a = kLet := h0
  subst h0; rfl
theorem entOf_drop {W : List Str} (h : W.length = 2) (h0 : gt W 0 = kDrop) : entOf W = ⟨2, gt W 1, []⟩ := by
  rcases W with _ | ⟨a, _ | ⟨b, _ | ⟨c, r⟩⟩⟩ <;> simp at h
  have h0 : a = kDrop := h0
  subst h0; rfl
theorem entOf_claim {W : List Str} (h : W.length = 2) (h0 : gt W 0 = kClaim) : entOf W = ⟨3, gt W 1, []⟩ := by
  rcases W with _ | ⟨a, _ | ⟨b, _ | ⟨c, r⟩⟩⟩ <;> simp at h
  have h0 : a = kClaim := h0
  subst h0; rfl
theorem entOf_no {W : List Str} (h1 : ¬ (W.length = 3 ∧ gt W 0 = kLet)) (h2 : ¬ (W.length = 2 ∧ gt W 0 = kDrop)) (h3 : ¬ (W.length = 2 ∧ gt W 0 = kClaim)) : entOf W = ⟨0, [], []⟩ := by
  unfold entOf
  split
  · rename_i k a b
    rw [if_neg fun e : k = kLet => h1 ⟨rfl, e⟩]
  · rename_i k a
    rw [if_neg fun e : k = kDrop => h2 ⟨rfl, e⟩, if_neg fun e : k = kClaim => h3 ⟨rfl, e⟩]
  · rfl
theorem lineC_app (t : Str) (e : Ent) : t ++ lineC (chkT 11 t) e = (t ++ lineT e) ++ 32 :: (decT (chkT 11 (t ++ lineT e)) ++ [10]) := by
  unfold lineC
  rw [chkT_app, List.append_assoc]
/-- How long an entry is. -/
def Ent.sz (e : Ent) : Nat := e.nm.length + e.fm.length
theorem lineT_len (e : Ent) : (lineT e).length ≤ e.sz + 6 := by
  unfold lineT Ent.sz
  split
  · simp [kLet] <;> omega
  · split
    · simp [kDrop] <;> omega
    · simp [kClaim] <;> omega
end Go.Vc
namespace Go.Proofs.YtombcpghgdabaaaGreatDoor
open Go.Vc
theorem ok_impl_entryText {e : Ent} (hl : e.sz ≤ 1099511627776) (w : World) : Ret Tryz.prog f_impl_entryText #[e.val] w (sv (lineT e)) := by
  apply c_impl_entryText; unfold S_impl_entryText
  unfold Ent.sz at hl
  refine iNew3 fun q w1 hq x1 hB => ?_
  refine iFa (iLdB hB rfl ?_)
  refine iEq (iCndP (fun h => ?_) (fun h => ?_))
  · refine iFa (iLdB hB rfl ?_)
    refine iCat (a := [108, 101, 116, 32]) (by simp only [List.length_cons, List.length_nil]; omega) ?_
    refine iCat (b := [32]) (by simp only [List.length_append, List.length_cons, List.length_nil]; omega) ?_
    refine iFa (iLdB hB rfl ?_)
    refine iCat (by simp only [List.length_append, List.length_cons, List.length_nil]; omega) ?_
    exact ⟨by unfold lineT; rw [if_pos h]; simp [kLet], x1⟩
  · refine iEq (iCndP (fun h2 => ?_) (fun h2 => ?_))
    · refine iFa (iLdB hB rfl ?_)
      refine iCat (a := [100, 114, 111, 112, 32]) (by simp only [List.length_cons, List.length_nil]; omega) ?_
      exact ⟨by unfold lineT; rw [if_neg h, if_pos h2]; simp [kDrop], x1⟩
    · refine iFa (iLdB hB rfl ?_)
      refine iCat (a := [99, 108, 97, 105, 109, 32]) (by simp only [List.length_cons, List.length_nil]; omega) ?_
      exact ⟨by unfold lineT; rw [if_neg h, if_neg h2]; simp [kClaim], x1⟩
theorem ok_spec_l35Line {e : Ent} (hl : e.sz ≤ 1099511627776) (w : World) : Ret Tryz.prog f_spec_l35Line #[e.val] w (sv (lineT e)) := by
  apply c_spec_l35Line; unfold S_spec_l35Line
  unfold Ent.sz at hl
  refine iNew3 fun q w1 hq x1 hB => ?_
  refine iFa (iLdB hB rfl ?_)
  refine iEq (iCndP (fun h => ?_) (fun h => ?_))
  · refine iFa (iLdB hB rfl ?_)
    refine iCat (a := [108, 101, 116, 32]) (by simp only [List.length_cons, List.length_nil]; omega) ?_
    refine iCat (b := [32]) (by simp only [List.length_append, List.length_cons, List.length_nil]; omega) ?_
    refine iFa (iLdB hB rfl ?_)
    refine iCat (by simp only [List.length_append, List.length_cons, List.length_nil]; omega) ?_
    exact ⟨by unfold lineT; rw [if_pos h]; simp [kLet], x1⟩
  · refine iEq (iCndP (fun h2 => ?_) (fun h2 => ?_))
    · refine iFa (iLdB hB rfl ?_)
      refine iCat (a := [100, 114, 111, 112, 32]) (by simp only [List.length_cons, List.length_nil]; omega) ?_
      exact ⟨by unfold lineT; rw [if_neg h, if_pos h2]; simp [kDrop], x1⟩
    · refine iFa (iLdB hB rfl ?_)
      refine iCat (a := [99, 108, 97, 105, 109, 32]) (by simp only [List.length_cons, List.length_nil]; omega) ?_
      exact ⟨by unfold lineT; rw [if_neg h, if_neg h2]; simp [kClaim], x1⟩
theorem ok_impl_journal_line {b c : Nat} {vi ve : Value} {tx : Str} {e : Ent} {w : World} (hB : Blk 75 w b [vi, ve, sv tx, .int .i64 (c : Int)]) (hc : c < 999983) (hl : e.sz ≤ 68719476736) (hT : TabOk w) :
    Ret Tryz.prog f_impl_journal_line #[.pointer (some ⟨b, 0, none⟩), e.val] w (sv (lineC c e)) := by
  apply c_impl_journal_line; unfold S_impl_journal_line
  have hll := lineT_len e
  refine iNew3 fun q w1 hq x1 hQ => ?_
  refine iLd3 hQ ?_
  refine iRet (ok_impl_entryText (e := e) (by omega) w1) fun w2 x2 => ?_
  refine iCat (b := [32]) (by simp only [List.length_cons, List.length_nil]; omega) ?_
  refine iNil (iFa (iLdB ((hB.ext x1).ext x2) rfl ?_))
  refine iRet (ok_impl_checkOf hc (by omega) w2) fun w3 x3 => ?_
  have hlt := chkT_lt hc (lineT e)
  have hdl := decT_len (chkT c (lineT e))
  refine iRet (ok_impl_decimal (by omega) (((hT.ext x1).ext x2).ext x3)) fun w4 x4 => ?_
  refine iCat (by simp only [List.length_append, List.length_cons, List.length_nil]; omega) ?_
  refine iCat (b := [10]) (by simp only [List.length_append, List.length_cons, List.length_nil]; omega) ?_
  exact ⟨by unfold lineC; simp, ((x1.trans x2).trans x3).trans x4⟩
theorem ok_spec_l35Put {tx : Str} {e : Ent} (ht : tx.length ≤ 68719476736) (hl : e.sz ≤ 68719476736) (w : World) : Ret Tryz.prog f_spec_l35Put #[sv tx, e.val] w (sv (tx ++ lineC (chkT 11 tx) e)) := by
  apply c_spec_l35Put; unfold S_spec_l35Put
  have hll := lineT_len e
  refine iNew3 fun q w1 hq x1 hQ => ?_
  refine iLd3 hQ ?_
  refine iRet (ok_spec_l35Line (e := e) (by omega) w1) fun w2 x2 => ?_
  refine iCat (by omega) ?_
  refine iCat (b := [32]) (by simp only [List.length_append, List.length_cons, List.length_nil]; omega) ?_
  refine iRet (ok_spec_l35Check (by rw [List.length_append]; omega) w2) fun w3 x3 => ?_
  have hlt := chkT_lt (show 11 < 999983 by omega) (tx ++ lineT e)
  have hdl := decT_len (chkT 11 (tx ++ lineT e))
  refine iRet (ok_spec_l01Dec (by omega) w3) fun w4 x4 => ?_
  refine iCat (by simp only [List.length_append, List.length_cons, List.length_nil]; omega) ?_
  refine iCat (b := [10]) (by simp only [List.length_append, List.length_cons, List.length_nil]; omega) ?_
  exact ⟨by rw [lineC_app]; simp, ((x1.trans x2).trans x3).trans x4⟩
theorem ok_impl_isEntry {e : Ent} (hl : e.sz ≤ 1099511627776) (w : World) : Ret Tryz.prog f_impl_isEntry #[e.val] w (.bool (entB e)) := by
  apply c_impl_isEntry; unfold S_impl_isEntry
  unfold Ent.sz at hl
  unfold entB
  refine iNew3 fun q w1 hq x1 hB => ?_
  refine iFa (iLdB hB rfl ?_)
  refine iEq (iCndP (fun h => ?_) (fun h => ?_))
  · rw [if_pos h]
    refine iJnB (nameOk e.nm && goodT e.fm) w1 (fun J hJ => ?_) (fun w3 x3 => fun _ => ⟨by first | trivial | rfl, x1.trans x3⟩)
    refine iFa (iLdB hB rfl ?_)
    refine iRet (ok_impl_isName (by omega) w1) fun w4 x4 => ?_
    refine iCnd (fun h2 => ?_) (fun h2 => ?_)
    · rw [h2, Bool.true_and] at hJ
      refine iFa (iLdB (hB.ext x4) rfl ?_)
      refine iRet (ok_impl_isText _ w4) fun w5 x5 => ?_
      exact hJ _ (x4.trans x5)
    · rw [h2, Bool.false_and] at hJ
      exact hJ _ x4
  · rw [if_neg h]
    refine iEq ?_
    refine iJnB (decide (e.kd = 2) || decide (e.kd = 3)) w1 (fun J hJ => ?_) (fun w3 x3 => ?_)
    · refine iCndP (fun h2 => ?_) (fun h2 => ?_)
      · rw [decide_eq_true h2, Bool.true_or] at hJ
        exact hJ _ (Ext.refl _)
      · rw [decide_eq_false h2, Bool.false_or] at hJ
        exact iEq (hJ _ (Ext.refl _))
    intro _
    simp only [gx]
    have hB3 := hB.ext x3
    refine iCnd (fun h3 => ?_) (fun h3 => ?_)
    · rw [Bool.or_eq_true, decide_eq_true_eq, decide_eq_true_eq] at h3
      rw [if_pos h3]
      refine iJnB (nameOk e.nm && decide (e.fm = [])) w3 (fun J hJ => ?_) (fun w5 x5 => fun _ => ⟨by first | trivial | rfl, (x1.trans x3).trans x5⟩)
      refine iFa (iLdB hB3 rfl ?_)
      refine iRet (ok_impl_isName (by omega) w3) fun w4 x4 => ?_
      refine iCnd (fun h2 => ?_) (fun h2 => ?_)
      · rw [h2, Bool.true_and] at hJ
        refine iFa (iLdB (hB3.ext x4) rfl ?_)
        exact iEqT (b := []) (hJ _ x4)
      · rw [h2, Bool.false_and] at hJ
        exact hJ _ x4
    · rw [Bool.or_eq_false_iff, decide_eq_false_iff_not, decide_eq_false_iff_not] at h3
      rw [if_neg (by omega)]
      exact ⟨rfl, x1.trans x3⟩
theorem ok_spec_l35Is {e : Ent} (hl : e.sz ≤ 1099511627776) (w : World) : Ret Tryz.prog f_spec_l35Is #[e.val] w (.bool (entB e)) := by
  apply c_spec_l35Is; unfold S_spec_l35Is
  unfold Ent.sz at hl
  unfold entB
  refine iNew3 fun q w1 hq x1 hB => ?_
  refine iFa (iLdB hB rfl ?_)
  refine iRet (ok_spec_l35Name (by omega) w1) fun w2 x2 => ?_
  have hB2 := hB.ext x2
  refine iNot (iCnd (fun h0 => ?_) (fun h0 => ?_))
  · rw [Bool.not_eq_true'] at h0
    refine ⟨?_, x1.trans x2⟩
    rw [h0, Bool.false_and, Bool.false_and]; simp
  rw [Bool.not_eq_false'] at h0
  rw [h0, Bool.true_and, Bool.true_and]
  refine iFa (iLdB hB2 rfl ?_)
  refine iEq (iCndP (fun h => ?_) (fun h => ?_))
  · rw [if_pos h]
    refine iFa (iLdB hB2 rfl ?_)
    refine iCall ((ok_spec_l02Good _ w2).mono ?_)
    rintro r w3 ⟨x3, v, rfl, -⟩
    exact iE20 (iE21 ⟨by first | trivial | rfl, (x1.trans x2).trans x3⟩)
  · rw [if_neg h]
    refine iEq ?_
    refine iJnB (decide (e.kd = 2) || decide (e.kd = 3)) w2 (fun J hJ => ?_) (fun w3 x3 => ?_)
    · refine iCndP (fun h2 => ?_) (fun h2 => ?_)
      · rw [decide_eq_true h2, Bool.true_or] at hJ
        exact hJ _ (Ext.refl _)
      · rw [decide_eq_false h2, Bool.false_or] at hJ
        exact iEq (hJ _ (Ext.refl _))
    intro _
    simp only [gx]
    refine iCnd (fun h3 => ?_) (fun h3 => ?_)
    · rw [Bool.or_eq_true, decide_eq_true_eq, decide_eq_true_eq] at h3
      rw [if_pos h3]
      refine iFa (iLdB (hB2.ext x3) rfl ?_)
      exact iEqT (b := []) ⟨by first | trivial | rfl, (x1.trans x2).trans x3⟩
    · rw [Bool.or_eq_false_iff, decide_eq_false_iff_not, decide_eq_false_iff_not] at h3
      rw [if_neg (by omega)]
      exact ⟨rfl, (x1.trans x2).trans x3⟩
theorem ok_impl_entryOf {v : Value} {W : List Str} {w : World} (hs : SlT w v W) : Ret Tryz.prog f_impl_entryOf #[v] w (entOf W).val := by
  apply c_impl_entryOf; unfold S_impl_entryOf
  refine iNew3 fun q w1 hq x1 hB => ?_
  have key : ∀ (n : Nat) (k : Str) (w2 : World) (J : List Value → World → Prop), SlT w2 v W → 0 < n → (∀ w4, Ext w2 w4 → J [.bool (decide (W.length = n) && decide (gt W 0 = k))] w4) →
      xLenS v fun u => xEq .i64 u (.int .i64 (n : Int)) fun y => cnd y (xIa 1 v (.int .i64 0) fun p => xLd w2 p fun x => xStr .eql x (sv k) fun z => J [z] w2) (J [.bool false] w2) := fun n k w2 J hs2 hn hJ => by
    refine iLenStr hs2 (iEq (iCndP (fun h => ?_) (fun h => ?_)))
    · rw [decide_eq_true (show W.length = n by omega), Bool.true_and] at hJ
      refine iIaG (L := W) hs2 (j := 0) rfl (by omega) ?_
      exact iEqT (hJ _ (Ext.refl _))
    · rw [decide_eq_false (show ¬ W.length = n by omega), Bool.false_and] at hJ
      exact hJ _ (Ext.refl _)
  refine iJnB (decide (W.length = 3) && decide (gt W 0 = kLet)) w1 (fun J hJ => key 3 kLet w1 J (Sl.ext hs x1) (by omega) hJ) (fun w3 x3 => ?_)
  intro _
  simp only [gx]
  have X3 := x1.trans x3
  have hs3 : SlT w3 v W := Sl.ext hs X3
  have hB3 := hB.ext x3
  have fin : ∀ (kd : Int) (a b : Str) (w4 : World), Ext w3 w4 → entOf W = ⟨kd, a, b⟩ → xStA Tryz.prog w4 3 (.pointer (some ⟨q, 0, none⟩)) (.agg #[.int .i64 kd, sv a, sv b]) fun w5 => ∀ w6, Ext w5 w6 → xLdA w6 3 (.pointer (some ⟨q, 0, none⟩)) fun r => r = (entOf W).val ∧ Ext w w6 := fun kd a b w4 x4 he => by
    refine iSt3 (hB3.ext x4) rfl rfl rfl rfl fun w5 hB5 hc5 => ?_
    intro w6 x6
    refine iLd3 (hB5.ext x6) ⟨?_, ((X3.trans x4).thenCh hc5 fun c hc => by omega).trans x6⟩
    rw [he]; rfl
  refine iCnd (fun h => ?_) (fun h => ?_)
  · rw [Bool.and_eq_true, decide_eq_true_eq, decide_eq_true_eq] at h
    refine iIaG (L := W) hs3 (j := 1) rfl (by omega) ?_
    refine iIaG (L := W) hs3 (j := 2) rfl (by omega) ?_
    refine iBuild (cs := #[.int .i64 1, sv (gt W 1), sv (gt W 2)]) (by simp [Instr.fill, Value.cells]) ?_
    intro w4 x4
    exact fin _ _ _ w4 x4 (entOf_let h.1 h.2)
  have h1 : ¬ (W.length = 3 ∧ gt W 0 = kLet) := fun e => by rw [decide_eq_true e.1, decide_eq_true e.2] at h; cases h
  have fin2 : ∀ (kd : Int) (a b : Str) (w4 : World), Ext w3 w4 → entOf W = ⟨kd, a, b⟩ → xStA Tryz.prog w4 3 (.pointer (some ⟨q, 0, none⟩)) (.agg #[.int .i64 kd, sv a, sv b]) fun w5 => xLdA w5 3 (.pointer (some ⟨q, 0, none⟩)) fun r => r = (entOf W).val ∧ Ext w w5 := fun kd a b w4 x4 he => by
    refine iSt3 (hB3.ext x4) rfl rfl rfl rfl fun w5 hB5 hc5 => ?_
    refine iLd3 hB5 ⟨?_, (X3.trans x4).thenCh hc5 fun c hc => by omega⟩
    rw [he]; rfl
  refine iJnB (decide (W.length = 2) && decide (gt W 0 = kDrop)) w3 (fun J hJ => key 2 kDrop w3 J hs3 (by omega) hJ) (fun w9 x9 => ?_)
  intro _
  simp only [gx]
  have hs9 : SlT w9 v W := Sl.ext hs3 x9
  refine iCnd (fun h => ?_) (fun h => ?_)
  · rw [Bool.and_eq_true, decide_eq_true_eq, decide_eq_true_eq] at h
    refine iIaG (L := W) hs9 (j := 1) rfl (by omega) ?_
    refine iBuild (cs := #[.int .i64 2, sv (gt W 1), sv []]) (by simp [Instr.fill, Value.cells]) ?_
    exact fin2 _ _ _ w9 x9 (entOf_drop h.1 h.2)
  have h2 : ¬ (W.length = 2 ∧ gt W 0 = kDrop) := fun e => by rw [decide_eq_true e.1, decide_eq_true e.2] at h; cases h
  refine iJnB (decide (W.length = 2) && decide (gt W 0 = kClaim)) w9 (fun J hJ => key 2 kClaim w9 J hs9 (by omega) hJ) (fun w13 x13 => ?_)
  intro _
  simp only [gx]
  have X13 := x9.trans x13
  refine iCnd (fun h => ?_) (fun h => ?_)
  · rw [Bool.and_eq_true, decide_eq_true_eq, decide_eq_true_eq] at h
    refine iIaG (L := W) (Sl.ext hs9 x13) (j := 1) rfl (by omega) ?_
    refine iBuild (cs := #[.int .i64 3, sv (gt W 1), sv []]) (by simp [Instr.fill, Value.cells]) ?_
    exact fin2 _ _ _ w13 X13 (entOf_claim h.1 h.2)
  have h3 : ¬ (W.length = 2 ∧ gt W 0 = kClaim) := fun e => by rw [decide_eq_true e.1, decide_eq_true e.2] at h; cases h
  refine iBuild (cs := #[.int .i64 0, sv [], sv []]) (by simp [Instr.fill]) ?_
  exact fin2 _ _ _ w13 X13 (entOf_no h1 h2 h3)
end Go.Proofs.YtombcpghgdabaaaGreatDoor

/- Contracts: the program's journal: entered, enter, readJournal. Conditions: the table of powers of ten. -/
namespace Go.Vc
def cellsE (L : List Ent) : List Value := L.flatMap Ent.cs
theorem cellsE_app (L M : List Ent) : cellsE (L ++ M) = cellsE L ++ cellsE M := by simp [cellsE]
theorem cellsI_set {L : List Itm} {i : Nat} (x : Itm) (hi : i < L.length) : cellsI (L.set i x) = putL (cellsI L) (i * 3) x.cs := by
  unfold putL
  rw [List.set_eq_take_append_cons_drop, if_pos hi, cellsI_take, show i * 3 + x.cs.length = (i + 1) * 3 by show i * 3 + 3 = _; omega, cellsI_drop]
  simp [cellsI]
section
variable {P : Program} {w : World} {e : TypeId} {g cap : Nat} {cur : List Value}
/-- A struct stored in a row. -/
theorem iStR {n l : Nat} {k : IntKind} {a b c : Value} {K : World → Prop} (hR : Rw e w g cap cur) (hl : l < n) (hn : n ≤ cap) (ha : isCell a = true) (hb : isCell b = true) (hc : isCell c = true)
    (h : ∀ w', Rw e w' g cap (putL cur (l * 3) [a, b, c]) → Ch (fun c => c = g) w w' → K w') : xIa 3 (.slice (some ⟨g, 0, none⟩) n cap) (.int k (l : Int)) fun p => xStA P w 3 p (.agg #[a, b, c]) K := by
  have hcl := hR.2.1
  refine ⟨_, _, _, _, _, rfl, rfl, by omega, by omega, ?_⟩
  rw [Int.toNat_natCast, addr_add, Nat.zero_add]
  have hst := run_storeCells_at P g (l * 3) e [a, b, c] 0 cur.toArray w hR.1 (by simp only [List.size_toArray, List.length_cons, List.length_nil]; omega) (fun u hu => isCell_one (by simp at hu; rcases hu with rfl | rfl | rfl <;> assumption))
  simp only [Nat.add_zero] at hst
  obtain ⟨h1, h2⟩ := hR.set (cur' := putL cur (l * 3) [a, b, c]) (putL_len (by simp only [List.length_cons, List.length_nil]; omega))
  exact ⟨_, _, rfl, by simp [Value.cells], by simpa [Value.cells, putL] using hst, h _ h1 h2⟩
/-- A cell of a row stored. -/
theorem iStRC {o : Nat} {u : Value} {K : World → Prop} (hR : Rw e w g cap cur) (ho : o < cap * 3) (hu : isCell u = true)
    (h : ∀ w', Rw e w' g cap (cur.set o u) → Ch (fun c => c = g) w w' → K w') : xSt w (.pointer (some ⟨g, o, none⟩)) u K := by
  have hcl := hR.2.1
  refine iStB hR.1 (by omega) hu fun h2 => h _ ⟨h2, by rw [List.length_set]; exact hR.2.1, hR.2.2⟩ ((Upd.setCell w g o u).ch rfl)
theorem iStRF {n l f : Nat} {k : IntKind} {u : Value} {K : World → Prop} (hR : Rw e w g cap cur) (hl : l < n) (hn : n ≤ cap) (hf : f < 3) (hu : isCell u = true)
    (h : ∀ w', Rw e w' g cap (cur.set (l * 3 + f) u) → Ch (fun c => c = g) w w' → K w') : xIa 3 (.slice (some ⟨g, 0, none⟩) n cap) (.int k (l : Int)) fun p => xFa f p fun q => xSt w q u K := by
  refine ⟨_, _, _, _, _, rfl, rfl, by omega, by omega, ?_⟩
  rw [Int.toNat_natCast, addr_add, Nat.zero_add]
  exact iFa (iStRC hR (by omega) hu h)
theorem putL_in {cur : List Value} {o n : Nat} {ys : List Value} (h : o + ys.length ≤ n) (hn : n ≤ cur.length) : (putL cur o ys).take n = putL (cur.take n) o ys := by
  rw [putL_over (by omega) h]
  unfold putL
  rw [List.take_take, Nat.min_eq_left (by omega), List.drop_take]
/-- One element of three cells. -/
theorem iBs31 {t : TypeId} {z0 z1 z2 a b c : Value} {K : Value → World → Prop} (h : ∀ q w', q = w.heap.size ∧ w'.heap.size = q + 1 → Ext w w' → Blk t w' q [a, b, c] → K (.slice (some ⟨q, 0, none⟩) 1 1) w') :
    xBs t (Value.cells (.agg #[z0, z1, z2])) 3 1 [(0, .agg #[a, b, c])] w K := by
  refine ⟨#[a, b, c], ?_, h _ _ ⟨rfl, by simp⟩ (Ext.alloc w _) (Blk.new w #[a, b, c] t)⟩
  simp [Instr.fill, Value.cells, show Array.range 3 = #[0, 1, 2] from rfl]
theorem OwK.ne_own {k k' lo lo' n n' : Nat} {e' : TypeId} {v v' : Value} {xs xs' : List Value} (h : OwK k lo e w v n xs) (h' : OwK k' lo' e' w v' n' xs') (hne : e ≠ e') : ∀ c, v.ownBlock = some c → ¬ v'.ownBlock = some c := by
  intro c hc hc'
  obtain ⟨cur, h1⟩ := h.ty hc
  obtain ⟨cur', h2⟩ := h'.ty hc'
  rw [h1] at h2
  injection h2 with h2
  injection h2 with _ h2 _
  exact hne h2
end
end Go.Vc
namespace Go.Proofs.YtombcpghgdabaaaGreatDoor
open Go.Vc
abbrev EnW (lo : Nat) (w : World) (v : Value) (L : List Ent) : Prop := OwK 3 lo t_impl_Entry w v L.length (cellsE L)
/-- The program's journal in memory, beyond w0. -/
structure JnW (w0 w : World) (b : Nat) (vi ve : Value) (j : Jn) : Prop where
  lo : w0.heap.size ≤ b
  blk : Blk 75 w b [vi, ve, sv j.text, .int .i64 (j.chk : Int)]
  it : ItW w0.heap.size w vi j.items
  en : EnW w0.heap.size w ve j.ents
  ji : JI j.items
theorem JnW.ext {w0 w w' : World} {b : Nat} {vi ve : Value} {j : Jn} (h : JnW w0 w b vi ve j) (x : Ext w w') : JnW w0 w' b vi ve j := ⟨h.lo, h.blk.ext x, h.it.ext x, h.en.ext x, h.ji⟩
theorem jn_ne_it {w0 w : World} {b : Nat} {vi ve : Value} {j : Jn} (h : JnW w0 w b vi ve j) : vi.ownBlock ≠ some b := h.it.ne_blk h.blk (by decide)
theorem ok_impl_entered {w0 w : World} {v : Value} {L : List Itm} {e : Ent} (h0 : Ext w0 w) (hs : ItW w0.heap.size w v L) (hJ : JI L) :
    Cal Tryz.prog f_impl_entered #[v, e.val] w fun r w' => Ext w0 w' ∧ ∃ v', match stepI L e with
      | some L' => r = .tuple #[v', .bool true] ∧ ItW w0.heap.size w' v' L' ∧ Ch (fun c => v.ownBlock = some c) w w' ∧ (v'.ownBlock = v.ownBlock ∨ ∃ c, v'.ownBlock = some c ∧ w.heap.size ≤ c)
      | none => r = .tuple #[v', .bool false] ∧ Ext w w' := by
  apply c_impl_entered; unfold S_impl_entered
  have hLl := hJ.len
  refine iNew3 fun q w1 hq x1 hB => ?_
  refine iFa (iLdB hB rfl ?_)
  have hs1 := hs.ext x1
  refine iCall ((ok_impl_itemAt (n := e.nm) hs1.sl (by omega)).mono ?_)
  rintro r w2 ⟨x2, i, y, rfl, hF⟩
  have hin := hJ.incI
  have hy := hF.2.2 hin
  have hp : posI L e.nm = i := pos_at hF.1.1 (hF.1.2 hin).1 (hF.1.2 hin).2
  have X2 := x1.trans x2
  have X02 := h0.trans X2
  have hB2 := hB.ext x2
  have hs2 := hs1.ext x2
  have hown : ∀ c, v.ownBlock = some c → w0.heap.size ≤ c := fun c hc => (hs.blk c hc).1
  have s0 := h0.size
  refine iE20 (iE21 ?_)
  refine iFa (iLdB hB2 rfl ?_)
  refine iEq (iCndP (fun hk => ?_) (fun hk => ?_))
  · refine iFa (iLdB hB2 rfl (iFa (iLdB hB2 rfl ?_)))
    refine iBuild (cs := #[sv e.nm, sv e.fm, .int .i64 0]) (by simp [Instr.fill, Value.cells]) ?_
    refine iNew3 fun q3 w3 hq3 x3 hB3 => ?_
    refine iSt3 hB3 rfl rfl rfl rfl fun w4 hB4 hc4 => ?_
    have s2 := X2.size
    have X4 : Ext w w4 := (X2.trans x3).thenCh hc4 fun c hc => by omega
    have hs4 : ItW w0.heap.size w4 v L := hs.ext X4
    refine iCnd (fun hy1 => ?_) (fun hy1 => ?_)
    · obtain ⟨hil, hnm⟩ := hF.2.1 hy1
      refine iLd3 hB4 ?_
      obtain ⟨g, cap, cur, rfl, hg, hcap, hR, hx⟩ := hs4.rw (by omega)
      refine iStR (n := L.length) hR hil hcap rfl rfl rfl fun w5 hR5 hc5 => ?_
      have hst : stepI L e = some (L.set i ⟨e.nm, e.fm, 0⟩) := by
        unfold stepI
        rw [if_pos hk, if_pos (hy.symm.trans hy1), hp]
      have hS : ∀ c, c = g → (Value.slice (some ⟨g, 0, none⟩) L.length cap).ownBlock = some c := fun c e => by rw [e]; rfl
      have hcl := hR.2.1
      refine ⟨(h0.trans X4).thenCh hc5 fun c hc => by omega, .slice (some ⟨g, 0, none⟩) L.length cap, ?_⟩
      rw [hst]
      refine ⟨rfl, ?_, X4.ch.trans (hc5.mono hS) fun _ h => .inl h, .inl rfl⟩
      show OwK 3 _ _ w5 _ (L.set i ⟨e.nm, e.fm, 0⟩).length _
      rw [List.length_set, cellsI_set _ hil, ← hx, ← putL_in (by show i * 3 + 3 ≤ _; omega) (by omega)]
      exact hR5.own hg hcap rfl
    · have hno : hasI L e.nm = false := hy.symm.trans hy1
      refine iLenK hs4.sl (iEq (iCndP (fun h12 => ?_) (fun h12 => ?_)))
      · have hst : stepI L e = none := by
          unfold stepI
          rw [if_pos hk, if_neg (by rw [hno]; decide), if_pos (by omega)]
        refine ⟨h0.trans X4, v, ?_⟩
        rw [hst]
        exact ⟨rfl, X4⟩
      · have hst : stepI L e = some (L.take i ++ ⟨e.nm, e.fm, 0⟩ :: L.drop i) := by
          unfold stepI
          rw [if_pos hk, if_neg (by rw [hno]; decide), if_neg (by omega), hp]
        refine iLd3 hB4 ?_
        refine iBs31 fun q6 w6 hq6 x6 hB6 => ?_
        have X6 := X4.trans x6
        refine iCall ((ok_slices_InsertI (x := ⟨e.nm, e.fm, 0⟩) (hs4.ext x6) (by have := (h0.trans X6).size; omega) (by omega) hF.1.1 hB6 (fun hc => by have := (hs4.blk _ hc).2; omega)).mono ?_)
        rintro r w7 ⟨hi7, hc7, ho7⟩
        refine ⟨(h0.trans X6).thenCh hc7 fun c hc => hown c hc, r, ?_⟩
        rw [hst]
        refine ⟨rfl, hi7, X6.ch.trans hc7 fun _ h => .inl h, ho7.imp id fun ⟨c, h1, h2⟩ => ⟨c, h1, by have := X6.size; omega⟩⟩
  · refine iEq (iCndP (fun hk2 => ?_) (fun hk2 => ?_))
    · refine iNot (iCnd (fun hy1 => ?_) (fun hy1 => ?_))
      · have hno : hasI L e.nm = false := by rw [Bool.not_eq_true'] at hy1; exact hy.symm.trans hy1
        have hst : stepI L e = none := by
          unfold stepI
          rw [if_neg hk, if_pos hno]
        refine ⟨X02, v, ?_⟩
        rw [hst]
        exact ⟨rfl, X2⟩
      · rw [Bool.not_eq_false'] at hy1
        obtain ⟨hil, hnm⟩ := hF.2.1 hy1
        have hst : stepI L e = some (L.take i ++ L.drop (i + 1)) := by
          unfold stepI
          rw [if_neg hk, if_neg (by rw [← hy, hy1]; decide), if_pos hk2, hp]
        refine iAdd (by omega) ?_
        rw [show (i : Int) + 1 = ((i + 1 : Nat) : Int) by omega]
        refine iCall ((ok_slices_DeleteI hs2 hil (by omega)).mono ?_)
        rintro r w7 ⟨hi7, hc7, ho7⟩
        refine ⟨X02.thenCh hc7 fun c hc => hown c hc, r, ?_⟩
        rw [hst]
        exact ⟨rfl, hi7, X2.ch.trans hc7 fun _ h => .inl h, .inl ho7⟩
    · refine iJnB (!(y && claimB (gt L i).fm)) w2 (fun J hJ' => ?_) (fun w10 x10 => ?_)
      · refine iNot (iCnd (fun hy1 => ?_) (fun hy1 => ?_))
        · rw [Bool.not_eq_true'] at hy1
          rw [hy1, Bool.false_and] at hJ'
          exact hJ' _ (Ext.refl _)
        · rw [Bool.not_eq_false'] at hy1
          obtain ⟨hil, hnm⟩ := hF.2.1 hy1
          rw [hy1, Bool.true_and] at hJ'
          refine iFm hs2.sl rfl hil ?_
          have hg := (hJ.ok (gt L i) (by rw [gt_eq hil]; exact List.getElem_mem _)).2.1
          refine iRet (ok_impl_isClaimable hg w2) fun w11 x11 => ?_
          exact iNot (hJ' _ x11)
      intro _
      simp only [gx]
      have X10 := X2.trans x10
      refine iCnd (fun hc => ?_) (fun hc => ?_)
      · rw [Bool.not_eq_true', Bool.and_eq_false_iff] at hc
        have hst : stepI L e = none := by
          unfold stepI
          rw [if_neg hk]
          by_cases hh : hasI L e.nm = false
          · rw [if_pos hh]
          · rw [if_neg hh, if_neg hk2, hp]
            rcases hc with hc | hc
            · exact absurd (hy.symm.trans hc) hh
            · rw [hc]; rfl
        refine ⟨h0.trans X10, v, ?_⟩
        rw [hst]
        exact ⟨rfl, X10⟩
      · rw [Bool.not_eq_false', Bool.and_eq_true] at hc
        obtain ⟨hil, hnm⟩ := hF.2.1 hc.1
        have hst : stepI L e = some (L.set i ⟨(gt L i).nm, (gt L i).fm, 1⟩) := by
          unfold stepI
          rw [if_neg hk, if_neg (by rw [← hy, hc.1]; decide), if_neg hk2, hp, if_pos hc.2]
        have hs10 : ItW w0.heap.size w10 v L := hs.ext X10
        obtain ⟨g, cap, cur, rfl, hg, hcap, hR, hx⟩ := hs10.rw (by omega)
        refine iStRF (n := L.length) hR hil hcap (by omega) rfl fun w12 hR12 hc12 => ?_
        have hS : ∀ c, c = g → (Value.slice (some ⟨g, 0, none⟩) L.length cap).ownBlock = some c := fun c e => by rw [e]; rfl
        refine ⟨(h0.trans X10).thenCh hc12 fun c hc => by omega, .slice (some ⟨g, 0, none⟩) L.length cap, ?_⟩
        rw [hst]
        refine ⟨rfl, ?_, X10.ch.trans (hc12.mono hS) fun _ h => .inl h, .inl rfl⟩
        show OwK 3 _ _ w12 _ (L.set i ⟨(gt L i).nm, (gt L i).fm, 1⟩).length _
        rw [List.length_set, show cellsI (L.set i ⟨(gt L i).nm, (gt L i).fm, 1⟩) = (cellsI L).set (i * 3 + 2) (.int .i64 1) from (cellsI_set2 1 hil).symm, ← hx, ← List.take_set]
        exact hR12.own hg hcap rfl
end Go.Proofs.YtombcpghgdabaaaGreatDoor

/- Contracts: the program's journal: enter, readJournal. Conditions: the table of powers of ten. -/
namespace Go.Vc
theorem chk_add (j : Jn) (e : Ent) : chkT 11 (j.text ++ lineC j.chk e) = chkT j.chk (lineC j.chk e) := chkT_app _ _ _
theorem jn_chk_lt (j : Jn) : j.chk < 999983 := chkT_lt (by omega) _
theorem hit_ex {t : Str} (h : 10 ∈ t) : ∃ l r, t = l ++ 10 :: r ∧ ∀ x ∈ l, x ≠ 10 := by
  induction t with
  | nil => cases h
  | cons a t ih =>
    by_cases ha : a = 10
    · exact ⟨[], t, by rw [ha]; rfl, by simp⟩
    · obtain ⟨l, r, e, hl⟩ := ih ((List.mem_cons.1 h).resolve_left fun e => ha e.symm)
      refine ⟨a :: l, r, by rw [e]; rfl, fun x hx => ?_⟩
      rcases List.mem_cons.1 hx with rfl | hx
      · exact ha
      · exact hl x hx
theorem entOf_sz {W : List Str} {n : Nat} (h : ∀ s ∈ W, s.length ≤ n) : (entOf W).sz ≤ 2 * n := by
  unfold entOf Ent.sz
  split
  · split
    · have := h _ (List.mem_cons_of_mem _ (List.mem_cons_self ..))
      have := h _ (List.mem_cons_of_mem _ (List.mem_cons_of_mem _ (List.mem_cons_self ..)))
      simp only; omega
    · simp
  · split
    · have := h _ (List.mem_cons_of_mem _ (List.mem_cons_self ..))
      simp only [List.length_nil]; omega
    · split
      · have := h _ (List.mem_cons_of_mem _ (List.mem_cons_self ..))
        simp only [List.length_nil]; omega
      · simp
  · simp
theorem lineC_len {c : Nat} (hc : c < 999983) (e : Ent) : (lineC c e).length ≤ e.sz + 1000000 := by
  have h1 := lineT_len e
  have h2 := decT_len (chkT c (lineT e))
  have h3 := chkT_lt hc (lineT e)
  unfold lineC
  simp only [List.length_append, List.length_cons, List.length_nil]
  omega
end Go.Vc
namespace Go.Proofs.YtombcpghgdabaaaGreatDoor
open Go.Vc
theorem ok_impl_journal_enter {w0 w : World} {b : Nat} {vi ve : Value} {j : Jn} {e : Ent} (h0 : Ext w0 w) (hj : JnW w0 w b vi ve j) (he : entB e = true) (hl : e.sz ≤ 4294967296) (hn : j.ents.length ≤ 1048576) (ht : j.text.length ≤ 68719476736) (hT : TabOk w0) :
    Cal Tryz.prog f_impl_journal_enter #[.pointer (some ⟨b, 0, none⟩), e.val] w fun r w' => Ext w0 w' ∧ match addJ j e with
      | some j' => r = .bool true ∧ ∃ vi' ve', JnW w0 w' b vi' ve' j'
      | none => r = .bool false ∧ JnW w0 w' b vi ve j := by
  apply c_impl_journal_enter; unfold S_impl_journal_enter
  have hchk := jn_chk_lt j
  have hLl := hj.ji.len
  refine iNew3 fun q w1 hq x1 hQ => ?_
  have hj1 := hj.ext x1
  refine iNil (iFa (iLdB hj1.blk rfl ?_))
  refine iLd3 hQ ?_
  intro w2 x2
  have X2 := x1.trans x2
  have hj2 := hj1.ext x2
  have hQ2 := hQ.ext x2
  refine iCall ((ok_impl_entered (h0.trans X2) hj2.it hj.ji).mono ?_)
  rintro r w3 ⟨X03, v', hm⟩
  cases hst : stepI j.items e with
  | none =>
    rw [hst] at hm
    obtain ⟨rfl, x3⟩ := hm
    have hadd : addJ j e = none := by unfold addJ; rw [hst]; rfl
    rw [hadd]
    refine iE20 (iE21 ?_)
    intro w4 x4
    exact iNot (iCndT rfl ⟨X03.trans x4, rfl, (hj2.ext x3).ext x4⟩)
  | some L' =>
    rw [hst] at hm
    obtain ⟨rfl, hi3, hc3, ho3⟩ := hm
    have hadd : addJ j e = some ⟨L', j.ents ++ [e], j.text ++ lineC j.chk e, j.hist ++ [L']⟩ := by unfold addJ; rw [hst]; rfl
    rw [hadd]
    have hJ' := stepI_JI hj.ji he hst
    refine iE20 (iE21 ?_)
    intro w4 x4
    refine iNot (iCndF rfl ?_)
    -- what stands behind 'entered'
    have hB4 : Blk 75 w4 b [vi, ve, sv j.text, .int .i64 (j.chk : Int)] := (hj2.blk.ch hc3 (jn_ne_it hj2)).ext x4
    have hQ4 : Blk t_impl_Entry w4 q e.cs := (hQ2.ch hc3 (hj2.it.ne_blk hQ2 (by decide))).ext x4
    have hE4 : EnW w0.heap.size w4 ve j.ents := (hj2.en.ch hc3 fun c hc hd => hj2.en.ne_own hj2.it (by decide) c hc hd).ext x4
    have hI4 := hi3.ext x4
    have X04 := X03.trans x4
    refine iLd3 hQ4 ?_
    refine iRet (ok_impl_journal_line (e := e) hB4 hchk (by omega) (hT.ext X04)) fun w5 x5 => ?_
    have hB5 := hB4.ext x5
    refine iNil (iFa (iLdB hB5 rfl ?_))
    refine iLd3 (hQ4.ext x5) ?_
    intro w6 x6
    refine iBs31 fun q7 w7 hq7 x7 hB7 => ⟨x7, ?_⟩
    intro w8 x8
    have X48 := ((x5.trans x6).trans x7).trans x8
    have X08 := X04.trans X48
    have hE8 : EnW w0.heap.size w8 ve j.ents := hE4.ext X48
    refine iAppK u_Simpl_Entry i_Simpl_Entry rfl (by omega) hE8 (OwK.ofBlk (k := 3) (lo := 0) (n := 1) (hB7.ext x8) (Nat.zero_le _) rfl (by omega)).sl (by intro u hu; simp at hu; rcases hu with rfl | rfl | rfl <;> rfl) (by omega) (by omega) X08.size fun v9 w9 ho9 hg9 hb9 => ?_
    have hc9 : Ch (fun c => ve.ownBlock = some c) w8 w9 := grown_ch hg9 fun c hc => hc
    have X09 : Ext w0 w9 := X08.thenCh hc9 fun c hc => (hE8.blk c hc).1
    have hB8 := hB4.ext X48
    have hB9 : Blk 75 w9 b [vi, ve, sv j.text, .int .i64 (j.chk : Int)] := hB8.ch hc9 (hE8.ne_blk hB8 (by decide))
    have hI9 : ItW w0.heap.size w9 v' L' := (hI4.ext X48).ch hc9 fun c hc hd => (hI4.ext X48).ne_own hE8 (by decide) c hc hd
    have hblo := hj.lo
    refine iNil (iFa ?_)
    intro w10 x10
    refine iStU (hB9.ext x10) (by simp) hi3.cell fun w11 hB11 hu11 => ?_
    refine iNil (iFa ?_)
    intro w12 x12
    have ho9' : OwK 3 w0.heap.size t_impl_Entry w9 v9 (j.ents.length + 1) (cellsE j.ents ++ e.cs) := ho9
    refine iStU (hB11.ext x12) (by simp) ho9'.cell fun w13 hB13 hu13 => ?_
    intro w14 x14
    have hB14 := hB13.ext x14
    refine iNil (iFa (iLdB hB14 rfl ?_))
    have hlc := lineC_len hchk e
    refine iCat (by omega) ?_
    refine iNil (iFa ?_)
    refine iStU hB14 (by simp) rfl fun w15 hB15 hu15 => ?_
    refine iNil (iFa (iLdB hB15 rfl ?_))
    refine iRet (ok_impl_checkOf hchk (by omega) w15) fun w16 x16 => ?_
    refine iNil (iFa ?_)
    refine iStU (hB15.ext x16) (by simp) rfl fun w17 hB17 hu17 => ?_
    -- only b turned since w9
    have hSb : ∀ (c : Nat), c = b → c = b := fun _ h => h
    have C1 : Ch (fun c => c = b) w9 w11 := x10.ch.trans (hu11.ch (S := fun c => c = b) rfl) fun _ h => .inl h
    have C2 : Ch (fun c => c = b) w9 w13 := (C1.trans (x12.ch (S := fun _ => False)) fun _ h => h.elim).trans (hu13.ch (S := fun c => c = b) rfl) fun _ h => .inl h
    have C3 : Ch (fun c => c = b) w9 w15 := (C2.trans (x14.ch (S := fun _ => False)) fun _ h => h.elim).trans (hu15.ch (S := fun c => c = b) rfl) fun _ h => .inl h
    have C4 : Ch (fun c => c = b) w9 w17 := (C3.trans (x16.ch (S := fun _ => False)) fun _ h => h.elim).trans (hu17.ch (S := fun c => c = b) rfl) fun _ h => .inl h
    have X017 : Ext w0 w17 := X09.thenCh C4 fun c hc => by omega
    refine ⟨X017, rfl, v', v9, ⟨hblo, ?_, hI9.ch C4 fun c hc hd => ?_, ?_, hJ'⟩⟩
    · show Blk _ w17 b [v', v9, sv (j.text ++ lineC j.chk e), .int .i64 (chkT 11 (j.text ++ lineC j.chk e) : Int)]
      rw [chk_add]
      exact hB17
    · subst hd
      exact hI9.ne_blk hB9 (by decide) hc
    · show OwK 3 _ _ w17 v9 (j.ents ++ [e]).length (cellsE (j.ents ++ [e]))
      rw [List.length_append, cellsE_app]
      refine OwK.ch (n := j.ents.length + 1) ho9' C4 fun c hc hd => ?_
      subst hd
      exact ho9'.ne_blk hB9 (by decide) hc
end Go.Proofs.YtombcpghgdabaaaGreatDoor

/- Contracts: the program's readJournal. Conditions: the table of powers of ten. -/
namespace Go.Vc
theorem Sl.head {w : World} {g n cap k : Nat} {xs : List Value} (hs : Sl w (.slice (some ⟨g, 0, none⟩) n cap) xs) (hk : k ≤ n) : Sl w (.slice (some ⟨g, 0, none⟩) k cap) (xs.take k) := by
  obtain ⟨a, c, hv, h2, h3, h4⟩ := hs
  injection hv with e1 e2 e3
  subst e1 e2 e3
  have hl : (xs.take k).length = k := by rw [List.length_take]; omega
  refine ⟨_, _, by rw [hl], by omega, h3, ?_⟩
  rcases h4 with h4 | ⟨b, o, ha, hc⟩
  · exact .inl (by rw [h4]; simp)
  · refine .inr ⟨b, o, ha, fun i hi => ?_⟩
    rw [hl] at hi
    rw [hc i (by omega), List.getElem?_take, if_pos hi]
end Go.Vc
namespace Go.Proofs.YtombcpghgdabaaaGreatDoor
open Go.Vc
theorem ok_impl_newJournal (w : World) : Cal Tryz.prog f_impl_newJournal #[] w fun r w' => Ext w w' ∧ ∃ b, r = .pointer (some ⟨b, 0, none⟩) ∧ JnW w w' b (.slice none 0 0) (.slice none 0 0) jn0 := by
  apply c_impl_newJournal; unfold S_impl_newJournal
  refine iBuild (cs := #[.slice none 0 0, .slice none 0 0, sv [], .int .i64 11]) (by simp [Instr.fill, Value.cells]) ?_
  refine iNew fun b w1 hb x1 hB => ?_
  refine ⟨x1, b, rfl, by omega, ?_, OwK.nil _ _ _ _, OwK.nil _ _ _ _, JI.nil⟩
  have hB' : Blk 75 w1 b [.slice none 0 0, .slice none 0 0, sv [], .int .i64 11] := by simpa [Value.cells] using hB
  exact hB'
theorem ok_impl_readJournal {t : Str} {m : Nat} (hm : m ≤ 1048576) (ht : t.length ≤ 4194304) {w : World} (hT : TabOk w) : Cal Tryz.prog f_impl_readJournal #[sv t, .int .i64 (m : Int)] w fun r w' =>
    Ext w w' ∧ ∃ b vi ve, r = .pointer (some ⟨b, 0, none⟩) ∧ JnW w w' b vi ve (readJ m t jn0) ∧ (readJ m t jn0).ents.length ≤ m ∧ (readJ m t jn0).text.length ≤ t.length := by
  apply c_impl_readJournal; unfold S_impl_readJournal
  refine iCall ((ok_impl_newJournal w).mono ?_)
  rintro r w1 ⟨x1, b, rfl, hj1⟩
  refine iLp (fun s : Str × Jn => [sv s.1]) (fun s w' => Ext w w' ∧ (∃ vi ve, JnW w w' b vi ve s.2) ∧ s.2.text ++ s.1 = t ∧ s.2.ents.length ≤ m ∧ readJ (m - s.2.ents.length) s.1 s.2 = readJ m t jn0) (fun s => s.1.length) (t, jn0) rfl ⟨x1, ⟨_, _, hj1⟩, rfl, Nat.zero_le _, rfl⟩ ?_
  rintro ⟨s, j⟩ w3 Kn ⟨X3, ⟨vi, ve, hj⟩, htx, hen, hrd⟩ hKn
  have hj : JnW w w3 b vi ve j := hj
  have htx : j.text ++ s = t := htx
  have hen : j.ents.length ≤ m := hen
  have hrd : readJ (m - j.ents.length) s j = readJ m t jn0 := hrd
  have hlen : j.text.length + s.length = t.length := by rw [← htx, List.length_append]
  intro _
  simp only [gx]
  refine iNil (iFa (iLdB hj.blk rfl ?_))
  refine iLenK hj.en.sl (iLt (iCndP (fun hlt => ?_) (fun hlt => ?_)))
  · obtain ⟨k, hk⟩ : ∃ k, m - j.ents.length = k + 1 := ⟨m - j.ents.length - 1, by omega⟩
    rw [hk] at hrd
    by_cases h10 : 10 ∈ s
    · obtain ⟨l, r, rfl, hl⟩ := hit_ex h10
      rw [readJ_hit hl] at hrd
      rw [List.length_append, List.length_cons] at hlen
      refine iRet (ok_strings_Cut_hit hl (by rw [List.length_append, List.length_cons]; omega) w3) fun w4 x4 => ?_
      refine iE30 (iE31 (iE32 (iNot (iCndF rfl ?_))))
      refine iCall ((ok_strings_Split1 32 (by omega) w4).mono ?_)
      rintro v w5 ⟨x5, ho⟩
      have hwl := splitT_len 32 l
      have hwm := splitT_mem 32 l
      obtain ⟨g, cap, hv, hcap, hcm⟩ := Ow.open ho (by intro e; have := strs_len (splitT 32 l); rw [e] at this; simp at this; omega)
      have hos := ho.sl
      rw [strs_len] at hv hcap
      refine iLenStr ho.sl (iSub (by omega) ?_)
      rw [show ((splitT 32 l).length : Int) - 1 = (((splitT 32 l).length - 1 : Nat) : Int) by omega]
      subst hv
      refine iSlHead (by omega) hcap ?_
      have hd : SlT w5 (.slice (some ⟨g, 0, none⟩) ((splitT 32 l).length - 1) cap) (splitT 32 l).dropLast := by
        rw [List.dropLast_eq_take]
        have := Sl.head (k := (splitT 32 l).length - 1) hos (by omega)
        rw [strs_take] at this
        exact this
      refine iRet (ok_impl_entryOf hd) fun w6 x6 => ?_
      have hsz : (entOf (splitT 32 l).dropLast).sz ≤ 2 * l.length := entOf_sz fun s hs => hwm s (List.dropLast_subset _ hs)
      have hpS : pStep j l = if entB (entOf (splitT 32 l).dropLast) && decide (lineC j.chk (entOf (splitT 32 l).dropLast) = l ++ [10]) then addJ j (entOf (splitT 32 l).dropLast) else none := rfl
      generalize entOf (splitT 32 l).dropLast = e at hsz hpS ⊢
      refine iNew3 fun q w7 hq x7 hQ => ?_
      refine iSt3 hQ rfl rfl rfl rfl fun w8 hQ8 hc8 => ?_
      have X6 := ((X3.trans x4).trans x5).trans x6
      have x36 := (x4.trans x5).trans x6
      have s6 := x36.size
      have x38 : Ext w3 w8 := (x36.trans x7).thenCh hc8 fun c hc => by omega
      have X8 := X3.trans x38
      have hj8 := hj.ext x38
      refine iJnX (fun xs w' => Ext w w' ∧ xs = [.bool (pStep j l).isNone] ∧ match pStep j l with | some j' => ∃ vi' ve', JnW w w' b vi' ve' j' | none => JnW w w' b vi ve j) (fun J hJ => ?_) ?_
      · refine iLd3 hQ8 ?_
        refine iRet (ok_impl_isEntry (e := e) (by omega) w8) fun w11 x11 => ?_
        refine iNot (iCnd (fun he => ?_) (fun he => ?_))
        · rw [Bool.not_eq_true'] at he
          have : pStep j l = none := by rw [hpS, he]; rfl
          refine hJ _ _ ⟨X8.trans x11, by rw [this]; rfl, ?_⟩
          rw [this]; exact hj8.ext x11
        rw [Bool.not_eq_false'] at he
        refine iLd3 (hQ8.ext x11) ?_
        refine iRet (ok_impl_journal_line (e := e) (hj8.ext x11).blk (jn_chk_lt j) (by omega) (hT.ext (X8.trans x11))) fun w12 x12 => ?_
        refine iCat (b := [10]) (by simp only [List.length_cons, List.length_nil]; omega) ?_
        refine iNeT ?_
        have X12 := (X8.trans x11).trans x12
        refine iCndP (fun hne => ?_) (fun hne => ?_)
        · have : pStep j l = none := by rw [hpS, he, decide_eq_false hne]; rfl
          refine hJ _ _ ⟨X12, by rw [this]; rfl, ?_⟩
          rw [this]; exact (hj8.ext x11).ext x12
        have heq : lineC j.chk e = l ++ [10] := Classical.not_not.1 hne
        refine iLd3 ((hQ8.ext x11).ext x12) ?_
        refine iCall ((ok_impl_journal_enter (e := e) X12 ((hj8.ext x11).ext x12) he (by omega) (show j.ents.length ≤ 1048576 by omega) (show j.text.length ≤ 68719476736 by omega) hT).mono ?_)
        rintro r' w13 ⟨X13, hm'⟩
        have hps : pStep j l = addJ j e := by rw [hpS, he, decide_eq_true heq]; rfl
        rw [hps] at hJ
        cases had : addJ j e with
        | none =>
          rw [had] at hm' hJ
          obtain ⟨rfl, hjj⟩ := hm'
          exact iNot (hJ _ _ ⟨X13, rfl, hjj⟩)
        | some j' =>
          rw [had] at hm' hJ
          obtain ⟨rfl, hjj⟩ := hm'
          exact iNot (hJ _ _ ⟨X13, rfl, hjj⟩)
      · rintro xs w10 ⟨X10, rfl, hm'⟩
        intro _
        simp only [gx]
        cases hp : pStep j l with
        | none =>
          rw [hp] at hm' hrd
          refine iCndT rfl ⟨X10, b, vi, ve, rfl, ?_⟩
          rw [← hrd]
          exact ⟨hm', hen, show j.text.length ≤ t.length by omega⟩
        | some j' =>
          rw [hp] at hm' hrd
          have hj' : j'.text = j.text ++ (l ++ [10]) ∧ j'.ents.length = j.ents.length + 1 := by
            rw [hpS] at hp
            split at hp
            · rename_i hb
              rw [Bool.and_eq_true, decide_eq_true_eq] at hb
              unfold addJ at hp
              cases hst : stepI j.items e with
              | none => rw [hst] at hp; cases hp
              | some L' =>
                rw [hst] at hp
                cases hp
                exact ⟨by show j.text ++ _ = _; rw [hb.2], by show (j.ents ++ [e]).length = _; simp⟩
            · cases hp
          refine iCndF rfl ?_
          refine hKn (r, j') _ ⟨X10, hm', ?_, ?_, ?_⟩ (by show r.length < (l ++ 10 :: r).length; simp; omega)
          · show j'.text ++ r = t
            rw [hj'.1, ← htx]; simp
          · show j'.ents.length ≤ m
            omega
          · show readJ (m - j'.ents.length) r j' = _
            rw [← hrd, show m - j'.ents.length = k by omega]
    · have hmiss : ∀ x ∈ s, x ≠ 10 := fun x hx e => h10 (e ▸ hx)
      refine iRet (ok_strings_Cut_miss hmiss w3) fun w4 x4 => ?_
      refine iE30 (iE31 (iE32 (iNot (iCndT rfl ?_))))
      rw [readJ_miss hmiss] at hrd
      refine ⟨X3.trans x4, b, vi, ve, rfl, ?_⟩
      rw [← hrd]
      exact ⟨hj.ext x4, hen, show j.text.length ≤ t.length by omega⟩
  · have h0 : m - j.ents.length = 0 := by omega
    rw [h0] at hrd
    have hrd : j = readJ m t jn0 := hrd
    refine ⟨X3, b, vi, ve, rfl, ?_⟩
    rw [← hrd]
    exact ⟨hj, hen, show j.text.length ≤ t.length by omega⟩
theorem ok_impl_goodPart {t : Str} (ht : t.length ≤ 4194304) {w : World} (hT : TabOk w) : Cal Tryz.prog f_impl_goodPart #[sv t] w fun r w' =>
    Ext w w' ∧ ∃ b vi ve, r = .pointer (some ⟨b, 0, none⟩) ∧ JnW w w' b vi ve (openJ t) ∧ (openJ t).ents.length ≤ 60 ∧ (openJ t).text.length ≤ t.length := by
  apply c_impl_goodPart; unfold S_impl_goodPart
  refine iCall ((ok_impl_readJournal (m := 60) (by omega) ht hT).mono ?_)
  rintro r w1 h
  exact h
end Go.Proofs.YtombcpghgdabaaaGreatDoor

/- Contracts: the reference's journal: l35Apply, l35Parse. Conditions: none. -/
namespace Go.Vc
theorem iHK {k n i : Nat} {ki : IntKind} {w : World} {v : Value} {xs : List Value} {K : Value → Prop} (hs : SlK k w v n xs) (hi : i ≤ n) (h : ∀ v', SlK k w v' i (xs.take (i * k)) → K v') : xSl k v none (some (.int ki (i : Int))) K := by
  obtain ⟨h0, a, c, rfl, h2, h3, h4⟩ := hs
  have hle : i * k ≤ n * k := Nat.mul_le_mul_right _ hi
  refine ⟨_, _, _, 0, i, rfl, ⟨ki, rfl⟩, rfl, Nat.zero_le _, by omega, ?_⟩
  refine h _ ⟨by rw [List.length_take]; omega, _, _, by rw [Nat.sub_zero], by omega, by omega, ?_⟩
  rcases Nat.eq_zero_or_pos i with hz | hz
  · exact .inl hz
  · rcases h4 with h4 | ⟨b, o, rfl, hc⟩
    · omega
    · refine .inr ⟨b, o, ?_, fun j hj => ?_⟩
      · rw [if_neg (by omega), Option.map_some, addr_add, Nat.zero_mul, Nat.add_zero]
      · rw [hc j (by omega), List.getElem?_take, if_pos hj]
theorem iTK {k n i : Nat} {ki : IntKind} {w : World} {v : Value} {xs : List Value} {z : Int} {K : Value → Prop} (hs : SlK k w v n xs) (hz : z = (i : Int)) (hi : i ≤ n) (h : ∀ v', SlK k w v' (n - i) (xs.drop (i * k)) → K v') : xSl k v (some (.int ki z)) none K := by
  subst hz
  obtain ⟨h0, a, c, rfl, h2, h3, h4⟩ := hs
  have hle : i * k ≤ n * k := Nat.mul_le_mul_right _ hi
  have hsub : (n - i) * k = n * k - i * k := Nat.sub_mul ..
  refine ⟨_, _, _, i, n, rfl, rfl, ⟨ki, rfl⟩, hi, h2, ?_⟩
  refine h _ ⟨by rw [List.length_drop]; omega, _, _, rfl, by omega, by omega, ?_⟩
  rcases Nat.eq_zero_or_pos (n - i) with hz | hz
  · exact .inl hz
  · rcases h4 with h4 | ⟨b, o, rfl, hc⟩
    · omega
    · refine .inr ⟨b, o + i * k, ?_, fun j hj => ?_⟩
      · rw [if_neg (by omega), Option.map_some, addr_add]
      · rw [Nat.add_assoc, hc _ (by omega), List.getElem?_drop]
end Go.Vc
namespace Go.Proofs.YtombcpghgdabaaaGreatDoor
open Go.Vc
theorem iBs03 {w : World} {e : TypeId} {z0 z1 z2 : Value} {K : Value → World → Prop} (h : ∀ v w', Ext w w' → OwK 3 w.heap.size e w' v 0 [] → K v w') : xBs e (Value.cells (.agg #[z0, z1, z2])) 3 0 [] w K := by
  refine ⟨#[], ?_, h _ _ (Ext.alloc w _) (OwK.ofBlk (k := 3) (n := 0) (Blk.new w #[] e) (Nat.le_refl _) rfl (by omega))⟩
  simp [Instr.fill]
theorem ok_spec_l35Apply {w : World} {v : Value} {L : List Itm} {e : Ent} (hs : SlIt w v L) (hJ : JI L) :
    Cal Tryz.prog f_spec_l35Apply #[v, e.val] w fun r w' => Ext w w' ∧ ∃ v', match stepI L e with
      | some L' => r = .tuple #[v', .bool true] ∧ ItW w.heap.size w' v' L'
      | none => r = .tuple #[v', .bool false] := by
  apply c_spec_l35Apply; unfold S_spec_l35Apply
  have hLl := hJ.len
  refine iNew3 fun q w1 hq x1 hB => ?_
  refine iFa (iLdB hB rfl ?_)
  have hs1 := hs.ext x1
  refine iCall ((ok_spec_l35Place (n := e.nm) hs1).mono ?_)
  rintro r w2 ⟨x2, i, y, rfl, hF⟩
  have hin := hJ.incI
  have hy := hF.2.2 hin
  have hil := hF.1.1
  have hp : posI L e.nm = i := pos_at hil (hF.1.2 hin).1 (hF.1.2 hin).2
  have X2 := x1.trans x2
  have hs2 := hs1.ext x2
  refine iE20 (iE21 ?_)
  refine iBs03 fun v19 w3 x3 ho3 => ?_
  have X3 := X2.trans x3
  refine iHK (hs2.ext x3) hil fun v22 hh => ?_
  rw [cellsI_take] at hh
  have app : ∀ {w4 : World} {u x : Value} {A M : List Itm} {m : Nat} {K : Value → World → Prop}, Ext w w4 → ItW w.heap.size w4 u A → SlK 3 w4 x m (cellsI M) → m = M.length → A.length ≤ 1048576 → M.length ≤ 1048576 →
      (∀ u' w5, Ext w w5 → ItW w.heap.size w5 u' (A ++ M) → Ch (fun c => u.ownBlock = some c) w4 w5 → K u' w5) → xOp Tryz.prog (Builtin.append_ #[t_Simpl_Item, t_Simpl_Item] t_Simpl_Item #[u, x]) w4 K := by
    intro w4 u x A M m K X4 hu hx hm hA hM h
    subst hm
    refine iAppK u_Simpl_Item i_Simpl_Item rfl (by omega) hu hx (cellsI_cell M) (by omega) (by omega) X4.size fun u' w5 ho hg hb => ?_
    have hc := grown_ch hg (S := fun c => u.ownBlock = some c) fun c hc => hc
    refine h u' w5 (X4.thenCh hc fun c hc => (hu.blk c hc).1) ?_ hc
    show OwK 3 _ _ w5 u' (A ++ M).length (cellsI (A ++ M))
    rw [List.length_append, cellsI_app]
    exact ho
  have hi0 : ItW w.heap.size w3 v19 [] := OwK.mono (lo' := w.heap.size) ho3 X2.size
  refine app X3 hi0 hh (by rw [List.length_take]; omega) (by simp) (by rw [List.length_take]; omega) fun v23 w4 X4 ho4 hc4 => ?_
  rw [List.nil_append] at ho4
  have hB3 := (hB.ext x2).ext x3
  have hB4 : Blk t_impl_Entry w4 q e.cs := hB3.ch hc4 (hi0.ne_blk hB3 (by decide))
  have hs4 := hs.ext X4
  have tl : (L.take i).length ≤ 1048576 := by rw [List.length_take]; omega
  have dl : ∀ k, (L.drop k).length ≤ 1048576 := fun k => by rw [List.length_drop]; omega
  refine iFa (iLdB hB4 rfl ?_)
  refine iEq (iCndP (fun hk => ?_) (fun hk => ?_))
  · refine iJnB (!y && decide (12 ≤ L.length)) w4 (fun J hJ' => ?_) (fun w6 x6 => ?_)
    · refine iNot (iCnd (fun hy1 => ?_) (fun hy1 => ?_))
      · rw [hy1, Bool.true_and] at hJ'
        refine iLenK hs4 (iLe ?_)
        rw [show decide ((12 : Int) ≤ (L.length : Int)) = decide (12 ≤ L.length) from decide_eq_decide.2 (by omega)]
        exact hJ' _ (Ext.refl _)
      · rw [hy1, Bool.false_and] at hJ'
        exact hJ' _ (Ext.refl _)
    intro _
    simp only [gx]
    have X6 := X4.trans x6
    refine iCnd (fun hc => ?_) (fun hc => ?_)
    · rw [Bool.and_eq_true, Bool.not_eq_true', decide_eq_true_eq] at hc
      have hst : stepI L e = none := by
        unfold stepI
        rw [if_pos hk, if_neg (by rw [← hy, hc.1]; decide), if_pos hc.2]
      refine ⟨X6, .slice none 0 0, ?_⟩
      rw [hst]
    · refine iTK hs rfl hil fun v36 h36 => ?_
      rw [cellsI_drop] at h36
      refine iJnX (fun xs w' => Ext w6 w' ∧ ∃ u m, xs = [u] ∧ SlK 3 w u m (cellsI (if y then L.drop (i + 1) else L.drop i)) ∧ m = (if y then L.drop (i + 1) else L.drop i).length) (fun J hJ' => ?_) ?_
      · refine iCnd (fun hy1 => ?_) (fun hy1 => ?_)
        · obtain ⟨hil', -⟩ := hF.2.1 hy1
          refine iAdd (by omega) ?_
          refine iTK (i := i + 1) hs (by omega) hil' fun v41 h41 => ?_
          rw [cellsI_drop] at h41
          refine hJ' _ _ ⟨Ext.refl _, v41, L.length - (i + 1), rfl, ?_, ?_⟩
          · rw [if_pos hy1]; exact h41
          · rw [if_pos hy1, List.length_drop]
        · refine hJ' _ _ ⟨Ext.refl _, v36, L.length - i, rfl, ?_, ?_⟩
          · rw [if_neg (by rw [hy1]; decide)]; exact h36
          · rw [if_neg (by rw [hy1]; decide), List.length_drop]
      rintro xs w8 ⟨x8, u, m, rfl, hu, hm⟩
      intro _
      simp only [gx]
      have X8 := X6.trans x8
      have x48 := x6.trans x8
      have hB8 := hB4.ext x48
      refine iFa (iLdB hB8 rfl (iFa (iLdB hB8 rfl ?_)))
      refine iBuild (cs := #[sv e.nm, sv e.fm, .int .i64 0]) (by simp [Instr.fill, Value.cells]) ?_
      refine iBs31 fun q9 w9 hq9 x9 hB9 => ?_
      have X9 := X8.trans x9
      refine app (M := [⟨e.nm, e.fm, 0⟩]) X9 (ho4.ext (x48.trans x9)) (ItmS (x := ⟨e.nm, e.fm, 0⟩) hB9) rfl tl (by simp) fun v49 w10 X10 ho10 hc10 => ?_
      refine app X10 ho10 (hu.ext X10) hm (by simp only [List.length_append, List.length_cons, List.length_nil, List.length_take]; omega) (by split <;> exact dl _) fun v52 w11 X11 ho11 hc11 => ?_
      have hst : stepI L e = some (L.take i ++ [⟨e.nm, e.fm, 0⟩] ++ if y then L.drop (i + 1) else L.drop i) := by
        unfold stepI
        rw [if_pos hk, ← hy, hp]
        cases hyy : y with
        | true =>
          obtain ⟨hil', -⟩ := hF.2.1 hyy
          rw [if_pos rfl, List.set_eq_take_append_cons_drop, if_pos hil']; simp
        | false =>
          rw [hyy] at hc
          have : ¬ 12 ≤ L.length := by simpa using hc
          rw [if_neg (by decide), if_neg this]; simp
      refine ⟨X11, v52, ?_⟩
      rw [hst]
      exact ⟨rfl, ho11⟩
  · refine iNot (iCnd (fun hy1 => ?_) (fun hy1 => ?_))
    · rw [Bool.not_eq_true'] at hy1
      have hst : stepI L e = none := by
        unfold stepI
        rw [if_neg hk, if_pos (hy.symm.trans hy1)]
      refine ⟨X4, .slice none 0 0, ?_⟩
      rw [hst]
    · rw [Bool.not_eq_false'] at hy1
      obtain ⟨hil', hnm⟩ := hF.2.1 hy1
      have hhas : ¬ hasI L e.nm = false := by rw [← hy, hy1]; decide
      refine iFa (iLdB hB4 rfl ?_)
      refine iEq (iCndP (fun hk2 => ?_) (fun hk2 => ?_))
      · refine iAdd (by omega) ?_
        refine iTK (i := i + 1) hs (by omega) hil' fun v62 h62 => ?_
        rw [cellsI_drop] at h62
        refine app X4 ho4 (h62.ext X4) (by rw [List.length_drop]) tl (dl _) fun v63 w12 X12 ho12 hc12 => ?_
        have hst : stepI L e = some (L.take i ++ L.drop (i + 1)) := by
          unfold stepI
          rw [if_neg hk, if_neg hhas, if_pos hk2, hp]
        refine ⟨X12, v63, ?_⟩
        rw [hst]
        exact ⟨rfl, ho12⟩
      · have hgt := (hJ.ok (gt L i) (by rw [gt_eq hil']; exact List.getElem_mem _)).2.1
        have hpc : pCode (gt L i).fm = 0 := by unfold goodT at hgt; rw [Bool.and_eq_true, decide_eq_true_eq] at hgt; exact hgt.1
        refine iFm hs4 rfl hil' ?_
        refine iCall ((ok_spec_l02Good (gt L i).fm w4).mono ?_)
        rintro r w13 ⟨x13, a, rfl, ha⟩
        have ha : FmW w4.heap.size w13 a (fT (gt L i).fm) := ha hpc
        refine iE20 (iE21 ?_)
        refine iJnB (!claimB (gt L i).fm) w13 (fun J hJ' => ?_) (fun w15 x15 => ?_)
        · unfold claimB at hJ'
          refine iRet (ok_spec_l02Plain ha.sl) fun w16 x16 => ?_
          refine iNot (iCnd (fun hp1 => ?_) (fun hp1 => ?_))
          · rw [Bool.not_eq_true'] at hp1
            rw [hp1, Bool.false_and] at hJ'
            exact hJ' _ x16
          rw [Bool.not_eq_false'] at hp1
          rw [hp1, Bool.true_and] at hJ'
          refine iLenK (ha.sl.ext x16) (iLt (iCndP (fun hz => ?_) (fun hz => ?_)))
          · rw [decide_eq_false (show ¬ (fT (gt L i).fm).size ≤ 20 by omega), Bool.false_and] at hJ'
            exact hJ' _ x16
          rw [decide_eq_true (show (fT (gt L i).fm).size ≤ 20 by omega), Bool.true_and] at hJ'
          refine iBs0 fun v82 w17 hw17 x17 ho17 => ?_
          have hsq : SqF [] (fT (gt L i).fm) := ⟨fun a ha => by simp at ha, hp1, by have := w2_small hp1 (by omega); show 0 + _ ≤ _; omega⟩
          refine iRet (ok_spec_l23Search _ (Nat.lt_succ_self _) hsq ⟨[], ho17.sl, FmsS.nil _⟩ ((ha.sl.ext x16).ext x17)) fun w18 x18 => ?_
          exact iNot (hJ' _ ((x16.trans x17).trans x18))
        intro _
        simp only [gx]
        have x415 := x13.trans x15
        have X15 := X4.trans x415
        refine iCnd (fun hc => ?_) (fun hc => ?_)
        · rw [Bool.not_eq_true'] at hc
          have hst : stepI L e = none := by
            unfold stepI
            rw [if_neg hk, if_neg hhas, if_neg hk2, hp, hc]; rfl
          refine ⟨X15, .slice none 0 0, ?_⟩
          rw [hst]
        rw [Bool.not_eq_false'] at hc
        refine iFa (iLdB (hB4.ext x415) rfl ?_)
        refine iFm (hs.ext X15) rfl hil' ?_
        refine iBuild (cs := #[sv e.nm, sv (gt L i).fm, .int .i64 1]) (by simp [Instr.fill, Value.cells]) ?_
        intro w19 x19
        refine iBs31 fun q20 w20 hq20 x20 hB20 => ?_
        intro w21 x21
        have x421 := (((x415.trans x19).trans x20).trans x21)
        refine app (M := [⟨e.nm, (gt L i).fm, 1⟩]) (X4.trans x421) (ho4.ext x421) (ItmS (x := ⟨e.nm, (gt L i).fm, 1⟩) (hB20.ext x21)) rfl tl (by simp) fun v97 w22 X22 ho22 hc22 => ?_
        intro w23 x23
        refine iAdd (by omega) ?_
        refine iTK (i := i + 1) hs (by omega) hil' fun v102 h102 => ?_
        rw [cellsI_drop] at h102
        have X23 := X22.trans x23
        refine app X23 (ho22.ext x23) (h102.ext X23) (by rw [List.length_drop]) (by simp only [List.length_append, List.length_cons, List.length_nil, List.length_take]; omega) (dl _) fun v103 w24 X24 ho24 hc24 => ?_
        have hst : stepI L e = some (L.take i ++ [⟨e.nm, (gt L i).fm, 1⟩] ++ L.drop (i + 1)) := by
          unfold stepI
          rw [if_neg hk, if_neg hhas, if_neg hk2, hp, if_pos hc, hnm, List.set_eq_take_append_cons_drop, if_pos hil']; simp
        refine ⟨X24, v103, ?_⟩
        rw [hst]
        exact ⟨rfl, ho24⟩
theorem ok_spec_l35Parse {t : Str} (ht : t.length ≤ 4194304) (w : World) : Ret Tryz.prog f_spec_l35Parse #[sv t] w (.tuple #[(entOf (splitT 32 t)).val, .bool (entB (entOf (splitT 32 t)))]) := by
  apply c_spec_l35Parse; unfold S_spec_l35Parse
  refine iNew3 fun q2 w1 hq2 x1 hB2 => ?_
  refine iCall ((ok_spec_l01Split 32 rfl ht w1).mono ?_)
  rintro v w2 ⟨x2, ho⟩
  have hwm := splitT_mem 32 t
  have hsz : (entOf (splitT 32 t)).sz ≤ 2 * t.length := entOf_sz hwm
  generalize splitT 32 t = W at ho hsz ⊢
  refine iBuild (cs := #[.int .i64 0, sv [], sv []]) (by simp [Instr.fill]) ?_
  refine iNew3 fun q5 w3 hq5 x3 hB3 => ?_
  refine iSt3 hB3 rfl rfl rfl rfl fun w4 hB4 hc4 => ?_
  have X2 := x1.trans x2
  have s1 := x1.size
  have s2 := x2.size
  have X4 : Ext w w4 := (X2.trans x3).thenCh hc4 fun c hc => by omega
  have x24 : Ext w2 w4 := x3.thenCh hc4 fun c hc => by omega
  have hs4 : SlT w4 v W := Sl.ext ho.sl x24
  have hQ4 := (hB2.ext x2).ext x24
  have key : ∀ (n : Nat) (k : Str) (w2 : World) (J : List Value → World → Prop), SlT w2 v W → 0 < n → (∀ w4, Ext w2 w4 → J [.bool (decide (W.length = n) && decide (gt W 0 = k))] w4) →
      xLenS v fun u => xEq .i64 u (.int .i64 (n : Int)) fun y => cnd y (xIa 1 v (.int .i64 0) fun p => xLd w2 p fun x => xStr .eql x (sv k) fun z => J [z] w2) (J [.bool false] w2) := fun n k w2 J hs2 hn hJ => by
    refine iLenStr hs2 (iEq (iCndP (fun h => ?_) (fun h => ?_)))
    · rw [decide_eq_true (show W.length = n by omega), Bool.true_and] at hJ
      refine iIaG (L := W) hs2 (j := 0) rfl (by omega) ?_
      exact iEqT (hJ _ (Ext.refl _))
    · rw [decide_eq_false (show ¬ W.length = n by omega), Bool.false_and] at hJ
      exact hJ _ (Ext.refl _)
  refine iJnB (decide (W.length = 3) && decide (gt W 0 = kLet)) w4 (fun J hJ => key 3 kLet w4 J hs4 (by omega) hJ) (fun w6 x6 => ?_)
  intro _
  simp only [gx]
  have hB6 := hB4.ext x6
  have hs6 : SlT w6 v W := Sl.ext hs4 x6
  have st : ∀ {kd : Int} {a b : Str} {w' : World} {K : World → Prop}, Ext w4 w' → entOf W = ⟨kd, a, b⟩ → (∀ w'', Blk t_impl_Entry w'' q5 (entOf W).cs → Ch (fun c => c = q5) w' w'' → K w'') → xStA Tryz.prog w' 3 (.pointer (some ⟨q5, 0, none⟩)) (.agg #[.int .i64 kd, sv a, sv b]) K := fun {kd a b w' K} x he hK => by
    refine iSt3 (hB4.ext x) rfl rfl rfl rfl fun w'' hB hc => hK w'' ?_ hc
    rw [he]; exact hB
  refine iJnX (fun xs w' => Ch (fun c => c = q5) w4 w' ∧ xs = [] ∧ Blk t_impl_Entry w' q5 (entOf W).cs) (fun J7 hJ7 => ?_) ?_
  · refine iCnd (fun h => ?_) (fun h => ?_)
    · rw [Bool.and_eq_true, decide_eq_true_eq, decide_eq_true_eq] at h
      refine iIaG (L := W) hs6 (j := 1) rfl (by omega) ?_
      refine iIaG (L := W) hs6 (j := 2) rfl (by omega) ?_
      refine iBuild (cs := #[.int .i64 1, sv (gt W 1), sv (gt W 2)]) (by simp [Instr.fill, Value.cells]) ?_
      intro w9 x9
      refine st (x6.trans x9) (entOf_let h.1 h.2) fun w10 hB10 hc10 => ?_
      intro w11 x11
      exact hJ7 _ _ ⟨((x6.trans x9).ch.trans hc10 fun _ h => .inl h).trans (x11.ch (S := fun _ => False)) fun _ h => h.elim, rfl, hB10.ext x11⟩
    have h1 : ¬ (W.length = 3 ∧ gt W 0 = kLet) := fun e => by rw [decide_eq_true e.1, decide_eq_true e.2] at h; cases h
    refine iJnB (decide (W.length = 2) && decide (gt W 0 = kDrop)) w6 (fun J hJ => key 2 kDrop w6 J hs6 (by omega) hJ) (fun w13 x13 => ?_)
    intro _
    simp only [gx]
    have hs13 : SlT w13 v W := Sl.ext hs6 x13
    have X13 := x6.trans x13
    refine iJnX (fun xs w' => Ch (fun c => c = q5) w4 w' ∧ xs = [] ∧ Blk t_impl_Entry w' q5 (entOf W).cs) (fun J14 hJ14 => ?_) (fun xs w15 hh => ?_)
    · refine iCnd (fun h => ?_) (fun h => ?_)
      · rw [Bool.and_eq_true, decide_eq_true_eq, decide_eq_true_eq] at h
        refine iIaG (L := W) hs13 (j := 1) rfl (by omega) ?_
        refine iBuild (cs := #[.int .i64 2, sv (gt W 1), sv []]) (by simp [Instr.fill, Value.cells]) ?_
        refine st X13 (entOf_drop h.1 h.2) fun w16 hB16 hc16 => ?_
        exact hJ14 _ _ ⟨X13.ch.trans hc16 fun _ h => .inl h, rfl, hB16⟩
      have h2 : ¬ (W.length = 2 ∧ gt W 0 = kDrop) := fun e => by rw [decide_eq_true e.1, decide_eq_true e.2] at h; cases h
      refine iJnB (decide (W.length = 2) && decide (gt W 0 = kClaim)) w13 (fun J hJ => key 2 kClaim w13 J hs13 (by omega) hJ) (fun w18 x18 => ?_)
      intro _
      simp only [gx]
      have X18 := X13.trans x18
      refine iJnX (fun xs w' => Ch (fun c => c = q5) w4 w' ∧ xs = [] ∧ Blk t_impl_Entry w' q5 (entOf W).cs) (fun J19 hJ19 => ?_) (fun xs w20 hh => ?_)
      · refine iCnd (fun h => ?_) (fun h => ?_)
        · rw [Bool.and_eq_true, decide_eq_true_eq, decide_eq_true_eq] at h
          refine iIaG (L := W) (Sl.ext hs13 x18) (j := 1) rfl (by omega) ?_
          refine iBuild (cs := #[.int .i64 3, sv (gt W 1), sv []]) (by simp [Instr.fill, Value.cells]) ?_
          refine st X18 (entOf_claim h.1 h.2) fun w21 hB21 hc21 => ?_
          exact hJ19 _ _ ⟨X18.ch.trans hc21 fun _ h => .inl h, rfl, hB21⟩
        have h3 : ¬ (W.length = 2 ∧ gt W 0 = kClaim) := fun e => by rw [decide_eq_true e.1, decide_eq_true e.2] at h; cases h
        refine hJ19 _ _ ⟨X18.ch, rfl, ?_⟩
        rw [entOf_no h1 h2 h3]
        exact hB4.ext X18
      · obtain ⟨h1', rfl, h3'⟩ := hh
        exact fun _ => hJ14 _ _ ⟨h1', rfl, h3'⟩
    · obtain ⟨h1', rfl, h3'⟩ := hh
      exact fun _ => hJ7 _ _ ⟨h1', rfl, h3'⟩
  · rintro xs w8 ⟨hc8, rfl, hB8⟩
    intro _
    have X8 : Ext w w8 := X4.thenCh hc8 fun c hc => by omega
    refine iLd3 hB8 (iLd3 hB8 ?_)
    refine iRetQ (fun w' hw' => ok_spec_l35Is (e := entOf W) (by omega) w') ?_
    intro w22 x22
    have hQ8 : Blk t_impl_Entry w8 q2 _ := hQ4.ch hc8 (by omega)
    refine iSt3 (hQ8.ext x22) rfl rfl rfl rfl fun w23 hB23 hc23 => ?_
    intro w24 x24'
    refine iLd3 (hB23.ext x24') ⟨rfl, ((X8.trans x22).thenCh hc23 fun c hc => by omega).trans x24'⟩
end Go.Proofs.YtombcpghgdabaaaGreatDoor

/- Contracts: the reference's journal: l35Open, l35Last. Conditions: none. -/
namespace Go.Vc
theorem gt_snoc {α : Type} [Inhabited α] (L : List α) (x : α) : gt (L ++ [x]) L.length = x := by unfold gt; simp
theorem gt_app {α : Type} [Inhabited α] {L M : List α} {k : Nat} (h : k < L.length) : gt (L ++ M) k = gt L k := by unfold gt; simp [List.getD_eq_getElem?_getD, List.getElem?_append_left h]
end Go.Vc
namespace Go.Proofs.YtombcpghgdabaaaGreatDoor
open Go.Vc
/-- A row of rows of items, all of the call's own. -/
def HsW (lo : Nat) (w : World) (v : Value) (H : List (List Itm)) : Prop := ∃ xs, OwK 1 lo t_Simpl_Item w v H.length xs ∧ ∀ k, k < H.length → ∃ x, xs[k]? = some x ∧ isCell x = true ∧ ItW lo w x (gt H k)
theorem HsW.ext {lo : Nat} {w w' : World} {v : Value} {H : List (List Itm)} (h : HsW lo w v H) (x : Ext w w') : HsW lo w' v H :=
  let ⟨xs, h1, h2⟩ := h; ⟨xs, h1.ext x, fun k hk => let ⟨u, a, b, c⟩ := h2 k hk; ⟨u, a, b, c.ext x⟩⟩
theorem HsW.ch {S : Nat → Prop} {lo : Nat} {w w' : World} {v : Value} {H : List (List Itm)} (h : HsW lo w v H) (hc : Ch S w w') (h1 : ∀ c, v.ownBlock = some c → ¬ S c) (h2 : ∀ (x : Value) (L : List Itm), ItW lo w x L → ∀ c, x.ownBlock = some c → ¬ S c) : HsW lo w' v H :=
  let ⟨xs, k1, k2⟩ := h; ⟨xs, k1.ch hc h1, fun k hk => let ⟨u, a, b, c⟩ := k2 k hk; ⟨u, a, b, c.ch hc (h2 u _ c)⟩⟩
theorem HsW.cell {lo : Nat} {w : World} {v : Value} {H : List (List Itm)} (h : HsW lo w v H) : isCell v = true := let ⟨_, k1, _⟩ := h; OwK.cell k1
/-- An element of such a row. -/
theorem iHs {lo : Nat} {w : World} {v : Value} {H : List (List Itm)} {k : Nat} {ki : IntKind} {z : Int} {K : Value → Prop} (h : HsW lo w v H) (hz : z = (k : Int)) (hk : k < H.length) (hK : ∀ x, isCell x = true → ItW lo w x (gt H k) → K x) : xIa 1 v (.int ki z) fun p => xLd w p K := by
  subst hz
  obtain ⟨xs, h1, h2⟩ := h
  obtain ⟨x, hx, hc, hi⟩ := h2 k hk
  have hl := h1.len
  refine iIa (OwK.toOw h1).sl (by omega) (by omega) fun p hp => ?_
  rw [Int.toNat_natCast, hx] at hp
  exact iLd hp (hK x hc hi)
/-- What the reference knows of a journal. -/
structure LsW (w0 w : World) (vs ve : Value) (j : Jn) : Prop where
  st : HsW w0.heap.size w vs j.hist
  en : EnW w0.heap.size w ve j.ents
  ji : JI j.items
  hl : j.hist.length = j.ents.length + 1
  hx : gt j.hist j.ents.length = j.items
theorem LsW.ext {w0 w w' : World} {vs ve : Value} {j : Jn} (h : LsW w0 w vs ve j) (x : Ext w w') : LsW w0 w' vs ve j := ⟨h.st.ext x, h.en.ext x, h.ji, h.hl, h.hx⟩
theorem ok_spec_l35Last {w0 w : World} {vs ve : Value} {z : Int} {j : Jn} (h : LsW w0 w vs ve j) : Cal Tryz.prog f_spec_l35Last #[.agg #[vs, ve, .int .i64 z]] w fun r w' => Ext w w' ∧ ItW w0.heap.size w' r j.items := by
  apply c_spec_l35Last; unfold S_spec_l35Last
  refine iNew3 fun q w1 hq x1 hB => ?_
  refine iFa (iLdB hB rfl (iFa (iLdB hB rfl ?_)))
  have h1 := h.ext x1
  have hlen := h.hl
  have hb : j.hist.length ≤ 9223372036854775807 := by
    obtain ⟨xs, k1, _⟩ := h.st
    exact k1.sl.len
  obtain ⟨xs, k1, k2⟩ := h1.st
  refine iLenK k1.sl (iSub (by omega) ?_)
  refine iHs (k := j.ents.length) ⟨xs, k1, k2⟩ (by omega) (by omega) fun x hc hi => ?_
  rw [h.hx] at hi
  exact ⟨x1, hi⟩
theorem ok_spec_l35Open {t : Str} (ht : t.length ≤ 4194304) (w : World) : Cal Tryz.prog f_spec_l35Open #[sv t] w fun r w' =>
    Ext w w' ∧ ∃ vs ve, r = .agg #[vs, ve, .int .i64 ((openJ t).text.length : Int)] ∧ LsW w w' vs ve (openJ t) ∧ (openJ t).ents.length ≤ 60 ∧ t.take (openJ t).text.length = (openJ t).text := by
  apply c_spec_l35Open; unfold S_spec_l35Open
  refine iNew3 fun q2 w1 hq2 x1 hB2 => ?_
  refine iBs03 fun v11 w2 x2 ho11 => ?_
  refine iBs1 rfl ho11.cell fun q12 w3 hq12 x3 hB12 => ?_
  refine iBuild (cs := #[.slice (some ⟨q12, 0, none⟩) 1 1, .slice none 0 0, .int .i64 0]) (by simp [Instr.fill, Value.cells]) ?_
  refine iNew3 fun q3 w4 hq3 x4 hB3 => ?_
  refine iSt3 hB3 rfl rfl rfl rfl fun w5 hB5 hc5 => ?_
  have s1 := x1.size
  have s2 := x2.size
  have s3 := x3.size
  have X4 := ((x1.trans x2).trans x3).trans x4
  have X5 : Ext w w5 := X4.thenCh hc5 fun c hc => by omega
  have x35 : Ext w3 w5 := x4.thenCh hc5 fun c hc => by omega
  have hq23 : ¬ q2 = q3 := by omega
  have hlo3 : w.heap.size ≤ q3 := by omega
  have hlo2 : w.heap.size ≤ q2 := by omega
  have hQ5 : Blk 68 w5 q2 [.slice none 0 0, .slice none 0 0, .int .i64 0] := (((hB2.ext x2).ext x3).ext x4).ch hc5 hq23
  have hst5 : HsW w.heap.size w5 (.slice (some ⟨q12, 0, none⟩) 1 1) [[]] := by
    refine ⟨[v11], OwK.ofBlk (n := 1) (hB12.ext x35) (by omega) rfl (by omega), fun k hk => ?_⟩
    have : k = 0 := by simpa using hk
    subst this
    exact ⟨v11, rfl, ho11.cell, ((OwK.mono (lo' := w.heap.size) ho11 s1).ext x3).ext x35⟩
  have fin : ∀ {w' : World} {vs ve : Value} {j : Jn}, Ext w w' → Blk 68 w' q3 [vs, ve, .int .i64 (j.text.length : Int)] → Blk 68 w' q2 [.slice none 0 0, .slice none 0 0, .int .i64 0] → LsW w w' vs ve j → j = openJ t → j.ents.length ≤ 60 → t.take j.text.length = j.text →
      xLdA w' 3 (.pointer (some ⟨q3, 0, none⟩)) fun u => xStA Tryz.prog w' 3 (.pointer (some ⟨q2, 0, none⟩)) u fun w'' => xLdA w'' 3 (.pointer (some ⟨q2, 0, none⟩)) fun r =>
        Ext w w'' ∧ ∃ vs ve, r = .agg #[vs, ve, .int .i64 ((openJ t).text.length : Int)] ∧ LsW w w'' vs ve (openJ t) ∧ (openJ t).ents.length ≤ 60 ∧ t.take (openJ t).text.length = (openJ t).text := by
    intro w' vs ve j X hO hQ hL hj he htk
    subst hj
    refine iLd3 hO ?_
    refine iSt3 hQ rfl hL.st.cell hL.en.cell rfl fun w'' hQ' hc => ?_
    refine iLd3 hQ' ⟨X.thenCh hc fun c hc => by omega, vs, ve, rfl, ⟨hL.st.ch hc (fun c h1 h2 => ?_) (fun x L hi c h1 h2 => ?_), hL.en.ch hc fun c h1 h2 => ?_, hL.ji, hL.hl, hL.hx⟩, he, htk⟩
    · subst h2
      obtain ⟨xs, k1, _⟩ := hL.st
      exact k1.ne_blk hQ (by decide) h1
    · subst h2
      exact hi.ne_blk hQ (by decide) h1
    · subst h2
      exact hL.en.ne_blk hQ (by decide) h1
  refine iLp (fun s : (Nat × Nat) × Jn => [.int .i64 (s.1.1 : Int), .int .i64 (s.1.2 : Int)])
    (fun s w' => Ext w w' ∧ (∃ vs ve, Blk 68 w' q3 [vs, ve, .int .i64 (s.2.text.length : Int)] ∧ Blk 68 w' q2 [.slice none 0 0, .slice none 0 0, .int .i64 0] ∧ LsW w w' vs ve s.2) ∧
      s.1.1 = s.2.text.length ∧ s.1.1 ≤ s.1.2 ∧ s.1.2 ≤ t.length ∧ t.take s.1.1 = s.2.text ∧ (∀ k, s.1.1 ≤ k → k < s.1.2 → ¬ t.getD k 0 = 10) ∧ s.2.ents.length ≤ 60 ∧ readJ (60 - s.2.ents.length) (t.drop s.1.1) s.2 = openJ t)
    (fun s => t.length - s.1.2) ((0, 0), jn0) rfl ⟨X5, ⟨_, _, hB5, hQ5, hst5, OwK.nil _ _ _ _, JI.nil, rfl, rfl⟩, rfl, Nat.le_refl _, Nat.zero_le _, rfl, fun k h1 h2 => absurd h2 (Nat.not_lt_zero k), Nat.zero_le _, rfl⟩ ?_
  rintro ⟨⟨st, i⟩, j⟩ w7 Kn ⟨X7, ⟨vs, ve, hO, hQ, hL⟩, hst, hsi, hit, htk, hno, hen, hrd⟩ hKn
  have hO : Blk 68 w7 q3 [vs, ve, .int .i64 (j.text.length : Int)] := hO
  have hL : LsW w w7 vs ve j := hL
  have hst : st = j.text.length := hst
  have hsi : st ≤ i := hsi
  have hit : i ≤ t.length := hit
  have htk : t.take st = j.text := htk
  have hno : ∀ k, st ≤ k → k < i → ¬ t.getD k 0 = 10 := hno
  have hen : j.ents.length ≤ 60 := hen
  have hrd : readJ (60 - j.ents.length) (t.drop st) j = openJ t := hrd
  have htkj : t.take j.text.length = j.text := by rw [← hst]; exact htk
  intro _
  simp only [gx]
  refine iJnB (decide (i < t.length) && decide (j.ents.length < 60)) w7 (fun J hJ => ?_) (fun w9 x9 => ?_)
  · refine iLenT (iLt (iCndP (fun h => ?_) (fun h => ?_)))
    · rw [decide_eq_true (show i < t.length by omega), Bool.true_and] at hJ
      refine iFa (iLdB hO rfl (iLenK hL.en.sl (iLt ?_)))
      rw [show decide ((j.ents.length : Int) < 60) = decide (j.ents.length < 60) from decide_eq_decide.2 (by omega)]
      exact hJ _ (Ext.refl _)
    · rw [decide_eq_false (show ¬ i < t.length by omega), Bool.false_and] at hJ
      exact hJ _ (Ext.refl _)
  intro _
  simp only [gx]
  have X9 := X7.trans x9
  have hO9 := hO.ext x9
  have hQ9 := hQ.ext x9
  have hL9 := hL.ext x9
  refine iCnd (fun hb => ?_) (fun hb => ?_)
  rotate_left
  · rw [Bool.and_eq_false_iff, decide_eq_false_iff_not, decide_eq_false_iff_not] at hb
    refine fin X9 hO9 hQ9 hL9 ?_ hen htkj
    rcases hb with hb | hb
    · have hmiss : ∀ x ∈ t.drop st, x ≠ 10 := by
        intro x hx
        obtain ⟨k, hk, rfl⟩ := List.getElem_of_mem hx
        rw [List.length_drop] at hk
        rw [List.getElem_drop]
        have := hno (st + k) (by omega) (by omega)
        rwa [getD_lt' (by omega)] at this
      rw [readJ_miss hmiss] at hrd
      exact hrd
    · rw [show 60 - j.ents.length = 0 by omega] at hrd
      exact hrd
  rw [Bool.and_eq_true, decide_eq_true_eq, decide_eq_true_eq] at hb
  obtain ⟨hil, he60⟩ := hb
  refine iIs hil (iNe ?_)
  have hnum : decide (¬ ((t.getD i 0).toNat : Int) = 10) = decide (¬ t.getD i 0 = 10) := decide_eq_decide.2 (not_congr ⟨fun e => UInt8.toNat_inj.1 (by exact_mod_cast e), fun e => by rw [e]; rfl⟩)
  rw [hnum]
  refine iCndP (fun h10 => ?_) (fun h10 => ?_)
  · refine iAdd (by omega) ?_
    refine hKn ((st, i + 1), j) _ ⟨X9, ⟨vs, ve, hO9, hQ9, hL9⟩, hst, by show st ≤ i + 1; omega, hil, htk, fun k h1 h2 => ?_, hen, hrd⟩ (by show t.length - (i + 1) < t.length - i; omega)
    have h2 : k < i + 1 := h2
    by_cases e : k = i
    · rw [e]; exact h10
    · exact hno k h1 (by omega)
  have h10 : t.getD i 0 = 10 := Classical.not_not.1 h10
  -- the line
  obtain ⟨l, hl⟩ : ∃ l, l = (t.drop st).take (i - st) := ⟨_, rfl⟩
  have hll : l.length = i - st := by rw [hl, List.length_take, List.length_drop]; omega
  have htd : t.drop st = l ++ 10 :: t.drop (i + 1) := by
    conv => lhs; rw [← List.take_append_drop (i - st) (t.drop st), ← hl, List.drop_drop]
    rw [show st + (i - st) = i by omega, drop_getD hil, h10]
  have hl10 : ∀ x ∈ l, x ≠ 10 := by
    intro x hx
    obtain ⟨k, hk, rfl⟩ := List.getElem_of_mem hx
    have := hno (st + k) (by omega) (by omega)
    subst hl
    rw [List.getElem_take, List.getElem_drop]
    rwa [getD_lt' (by omega)] at this
  have hlg : ∀ k, k < l.length → l.getD k 0 = t.getD (st + k) 0 := by
    intro k hk
    subst hl
    rw [getD_lt' hk, getD_lt' (by omega), List.getElem_take, List.getElem_drop]
  obtain ⟨m, hm⟩ : ∃ m, 60 - j.ents.length = m + 1 := ⟨60 - j.ents.length - 1, by omega⟩
  rw [hm, htd, readJ_hit hl10, pStep_sStep] at hrd
  have hpl : lastP l ≤ l.length := endP_le l l.length
  have h32 : ∀ k, decide (¬ ((t.getD k 0).toNat : Int) = 32) = !decide (t.getD k 0 = 32) := fun k => by
    rw [← decide_not]
    exact decide_eq_decide.2 (not_congr ⟨fun e => UInt8.toNat_inj.1 (by exact_mod_cast e), fun e => by rw [e]; rfl⟩)
  refine iLp (fun e : Nat => [.int .i64 (e : Int)]) (fun e w' => Ext w9 w' ∧ st ≤ e ∧ e ≤ i ∧ endP l (e - st) = lastP l) (fun e => e - st) i rfl ⟨Ext.refl _, hsi, Nat.le_refl _, by rw [show i - st = l.length by omega]; rfl⟩ ?_
  rintro e w11 Kn2 ⟨x11, hse, hei, hep⟩ hKn2
  intro _
  simp only [gx]
  refine iJnB (decide (st < e) && !decide (t.getD e 0 = 32)) w11 (fun J hJ => ?_) (fun w13 x13 => ?_)
  · refine iLt (iCndP (fun h => ?_) (fun h => ?_))
    · rw [decide_eq_true (show st < e by omega), Bool.true_and] at hJ
      refine iIs (by omega) (iNe ?_)
      rw [h32]
      exact hJ _ (Ext.refl _)
    · rw [decide_eq_false (show ¬ st < e by omega), Bool.false_and] at hJ
      exact hJ _ (Ext.refl _)
  intro _
  simp only [gx]
  have x913 := x11.trans x13
  refine iCnd (fun hc => ?_) (fun hc => ?_)
  · rw [Bool.and_eq_true, decide_eq_true_eq, Bool.not_eq_true', decide_eq_false_iff_not] at hc
    refine iSub (by omega) ?_
    rw [show (e : Int) - 1 = ((e - 1 : Nat) : Int) by omega]
    refine hKn2 (e - 1) _ ⟨x913, by omega, by omega, ?_⟩ (by omega)
    rw [← hep]
    obtain ⟨k, hk⟩ : ∃ k, e - st = k + 1 := ⟨e - st - 1, by omega⟩
    rw [hk, show e - 1 - st = k by omega, endP, if_neg]
    rcases Nat.lt_or_ge (k + 1) l.length with h | h
    · rw [hlg _ h, show st + (k + 1) = e by omega]; exact hc.2
    · simp [List.getD_eq_getElem?_getD, List.getElem?_eq_none h]
  have hpe : e = st + lastP l := by
    rw [Bool.and_eq_false_iff, decide_eq_false_iff_not, Bool.not_eq_false', decide_eq_true_eq] at hc
    rcases hc with hc | hc
    · rw [show e - st = 0 by omega] at hep
      have : lastP l = 0 := hep.symm
      omega
    · rcases Nat.eq_zero_or_pos (e - st) with h0 | h0
      · rw [h0] at hep
        have : lastP l = 0 := hep.symm
        omega
      · obtain ⟨k, hk⟩ : ∃ k, e - st = k + 1 := ⟨e - st - 1, by omega⟩
        have hne : e ≠ i := fun h => by rw [h, h10] at hc; cases hc
        rw [hk, endP, if_pos (by rw [hlg _ (by omega), show st + (k + 1) = e by omega]; exact hc)] at hep
        omega
  have tg : ∀ p, p ≤ l.length → e = st + p → (t.drop st).take (e - st) = l.take p ∧ (t.drop e).take (i - e) = l.drop p := fun p hp he => by
    constructor
    · rw [hl, List.take_take, Nat.min_eq_left (by omega)]; congr 1; omega
    · rw [hl, List.drop_take, List.drop_drop, ← he]; congr 1; omega
  obtain ⟨t1, t2⟩ := tg _ hpl hpe
  have t3 : t.take e = j.text ++ l.take (lastP l) := by
    rw [hpe, List.take_add, htk, ← t1, hpe]; congr 2; omega
  refine iTxSub (i := st) (j := e) hse (by omega) ?_
  rw [t1]
  refine iRet (ok_spec_l35Parse (by rw [List.length_take]; omega) w13) fun w14 x14 => iE20 (iE21 ?_)
  obtain ⟨en, hen'⟩ : ∃ en, en = entOf (splitT 32 (l.take (lastP l))) := ⟨_, rfl⟩
  rw [← hen']
  have hss : sStep j l = if entB en && decide (l.drop (lastP l) = 32 :: decT (chkT 11 (j.text ++ l.take (lastP l)))) then (stepI j.items en).map fun L => ⟨L, j.ents ++ [en], j.text ++ (l ++ [10]), j.hist ++ [L]⟩ else none := by rw [hen']; rfl
  refine iNew3 fun q7 w15 hq7 x15 hB15 => ?_
  refine iSt3 hB15 rfl rfl rfl rfl fun w16 hB16 hc16 => ?_
  have x914 := x913.trans x14
  have s914 := x914.size
  have x916 : Ext w9 w16 := (x914.trans x15).thenCh hc16 fun c hc => by omega
  have X16 := X9.trans x916
  have hL16 := hL9.ext x916
  have hO16 := hO9.ext x916
  have hQ16 := hQ9.ext x916
  refine iJnB (!(entB en && decide (l.drop (lastP l) = 32 :: decT (chkT 11 (j.text ++ l.take (lastP l)))))) w16 (fun J hJ => ?_) (fun w18 x18 => ?_)
  · refine iNot (iCnd (fun he => ?_) (fun he => ?_))
    · intro w19 x19
      rw [Bool.not_eq_true'] at he
      rw [he, Bool.false_and] at hJ
      exact hJ _ x19
    · rw [Bool.not_eq_false'] at he
      rw [he, Bool.true_and] at hJ
      refine iTxSub (i := e) (j := i) hei hit ?_
      refine iTxTo (j := e) (by omega) ?_
      rw [t2, t3]
      have hlc : (j.text ++ l.take (lastP l)).length ≤ 1099511627776 := by rw [← t3, List.length_take]; omega
      refine iRetQ (fun w' _ => ok_spec_l35Check hlc w') ?_
      have hck := chkT_lt (show 11 < 999983 by omega) (j.text ++ l.take (lastP l))
      refine iRetQ (fun w' _ => ok_spec_l01Dec (by omega) w') ?_
      have hdl := decT_len (chkT 11 (j.text ++ l.take (lastP l)))
      refine iCat (a := [32]) (by simp only [List.length_cons, List.length_nil]; omega) ?_
      refine iNeT ?_
      intro w20 x20
      rw [← decide_not] at hJ
      exact hJ _ x20
  intro _
  simp only [gx]
  have X18 := X16.trans x18
  refine iCnd (fun hbad => ?_) (fun hgood => ?_)
  · rw [Bool.not_eq_true'] at hbad
    rw [hss, hbad] at hrd
    exact fin X18 (hO16.ext x18) (hQ16.ext x18) (hL16.ext x18) hrd hen htkj
  rw [Bool.not_eq_false'] at hgood
  rw [hss, hgood, if_pos rfl] at hrd
  have hL18 := hL16.ext x18
  have hB18 := hB16.ext x18
  refine iFa (iLdB (hO16.ext x18) rfl (iFa (iLdB (hO16.ext x18) rfl ?_)))
  have hhl := hL.hl
  obtain ⟨xs, k1, k2⟩ := hL18.st
  have hxl := k1.len
  refine iLenK k1.sl (iSub (by omega) ?_)
  refine iHs (k := j.ents.length) ⟨xs, k1, k2⟩ (by omega) (by omega) fun x hcx hix => ?_
  rw [hL.hx] at hix
  refine iLd3 hB18 ?_
  intro w23 x23
  have X23 := X18.trans x23
  refine iCall ((ok_spec_l35Apply (e := en) (hix.ext x23).sl hL.ji).mono ?_)
  rintro r w24 ⟨x24, v', hm'⟩
  have x1624 := (x18.trans x23).trans x24
  cases hsp : stepI j.items en with
  | none =>
    rw [hsp] at hm' hrd
    subst hm'
    refine iE20 (iE21 ?_)
    intro w25 x25
    refine iNot (iCndT rfl ?_)
    have x1625 := x1624.trans x25
    exact fin (X16.trans x1625) (hO16.ext x1625) (hQ16.ext x1625) (hL16.ext x1625) hrd hen htkj
  | some L' =>
    rw [hsp] at hm' hrd
    obtain ⟨rfl, hi24⟩ := hm'
    have hJ' := stepI_JI hL.ji (by rw [Bool.and_eq_true] at hgood; exact hgood.1) hsp
    refine iE20 (iE21 ?_)
    intro w25 x25
    refine iNot (iCndF rfl ?_)
    have x1625 := x1624.trans x25
    have X25 := X16.trans x1625
    have hO25 := hO16.ext x1625
    have hQ25 := hQ16.ext x1625
    have hB25 := hB16.ext x1625
    have hL25 := hL16.ext x1625
    have hi25 : ItW w.heap.size w25 v' L' := (OwK.mono (lo' := w.heap.size) hi24 X23.size).ext x25
    refine iFa (iLdB hO25 rfl ?_)
    refine iBs1 rfl hi25.cell fun q28 w28 hq28 x28 hB28 => ?_
    obtain ⟨ys, m1, m2⟩ := hL25.st.ext x28
    have hyl := m1.len
    have X28 := X25.trans x28
    refine iAppK u_SSimpl_Item i_SSimpl_Item rfl (by omega) m1 (OwK.ofBlk (k := 1) (lo := 0) (n := 1) hB28 (Nat.zero_le _) rfl (by omega)).sl (by intro u hu; simp at hu; rw [hu]; exact hi25.cell) (by omega) (by omega) X28.size fun v29 w29 ho29 hg29 hb29 => ?_
    have hc29 : Ch (fun c => vs.ownBlock = some c) w28 w29 := grown_ch hg29 fun c hc => hc
    have X29 : Ext w w29 := X28.thenCh hc29 fun c hc => (m1.blk c hc).1
    have itk : ∀ (x : Value) (L : List Itm), ItW w.heap.size w28 x L → ItW w.heap.size w29 x L := fun x L h => h.ch hc29 fun c h1 h2 => h.ne_own m1 (by decide) c h1 h2
    have hO29 : Blk 68 w29 q3 _ := (hO25.ext x28).ch hc29 (m1.ne_blk (hO25.ext x28) (by decide))
    have hQ29 : Blk 68 w29 q2 _ := (hQ25.ext x28).ch hc29 (m1.ne_blk (hQ25.ext x28) (by decide))
    have hB29 : Blk t_impl_Entry w29 q7 en.cs := (hB25.ext x28).ch hc29 (m1.ne_blk (hB25.ext x28) (by decide))
    have hE29 : EnW w.heap.size w29 ve j.ents := (hL25.en.ext x28).ch hc29 fun c h1 h2 => (hL25.en.ext x28).ne_own m1 (by decide) c h1 h2
    have hH29 : HsW w.heap.size w29 v29 (j.hist ++ [L']) := by
      refine ⟨ys ++ [v'], by rw [List.length_append]; exact ho29, fun k hk => ?_⟩
      rw [List.length_append] at hk
      rcases Nat.lt_or_ge k j.hist.length with h | h
      · obtain ⟨x', a1, a2, a3⟩ := m2 k h
        exact ⟨x', by rw [List.getElem?_append_left (by omega)]; exact a1, a2, by rw [gt_app h]; exact itk _ _ a3⟩
      · have hk' : k = j.hist.length := by simp only [List.length_cons, List.length_nil] at hk; omega
        subst hk'
        exact ⟨v', by rw [List.getElem?_append_right (by omega)]; simp [show j.hist.length - ys.length = 0 by omega], hi25.cell, by rw [gt_snoc]; exact itk _ _ (hi25.ext x28)⟩
    refine iFa (iStU hO29 (by simp) hH29.cell fun w30 hO30 hu30 => ?_)
    have c30 : Ch (fun c => c = q3) w29 w30 := hu30.ch rfl
    have hE30 : EnW w.heap.size w30 ve j.ents := hE29.ch c30 fun c h1 h2 => by subst h2; exact hE29.ne_blk hO29 (by decide) h1
    have hH30 : HsW w.heap.size w30 v29 (j.hist ++ [L']) := by
      obtain ⟨zs, z1, z2⟩ := hH29
      exact HsW.ch ⟨zs, z1, z2⟩ c30 (fun c h1 h2 => by subst h2; exact z1.ne_blk hO29 (by decide) h1) fun x L hi c h1 h2 => by subst h2; exact hi.ne_blk hO29 (by decide) h1
    have hB30 : Blk t_impl_Entry w30 q7 en.cs := hB29.ch c30 (by have := X9.size; have := X5.size; have := heap_lt hO9; omega)
    have hQ30 : Blk 68 w30 q2 [.slice none 0 0, .slice none 0 0, .int .i64 0] := hQ29.ch c30 hq23
    have X30 : Ext w w30 := X29.thenCh c30 fun c hc => by omega
    refine iFa (iLdB hO30 rfl ?_)
    refine iLd3 hB30 ?_
    refine iBs31 fun q31 w31 hq31 x31 hB31 => ?_
    have X31 := X30.trans x31
    have hE31 : EnW w.heap.size w31 ve j.ents := hE30.ext x31
    refine iAppK u_Simpl_Entry i_Simpl_Entry rfl (by omega) hE31 (OwK.ofBlk (k := 3) (lo := 0) (n := 1) hB31 (Nat.zero_le _) rfl (by omega)).sl (by intro u hu; simp at hu; rcases hu with rfl | rfl | rfl <;> rfl) (by omega) (by omega) X31.size fun v32 w32 ho32 hg32 hb32 => ?_
    have hc32 : Ch (fun c => ve.ownBlock = some c) w31 w32 := grown_ch hg32 fun c hc => hc
    have X32 : Ext w w32 := X31.thenCh hc32 fun c hc => (hE31.blk c hc).1
    have hO32 : Blk 68 w32 q3 _ := (hO30.ext x31).ch hc32 (hE31.ne_blk (hO30.ext x31) (by decide))
    have hQ32 : Blk 68 w32 q2 _ := (hQ30.ext x31).ch hc32 (hE31.ne_blk (hQ30.ext x31) (by decide))
    have hH32 : HsW w.heap.size w32 v29 (j.hist ++ [L']) := by
      obtain ⟨zs, z1, z2⟩ := hH30.ext x31
      exact HsW.ch ⟨zs, z1, z2⟩ hc32 (fun c h1 h2 => z1.ne_own hE31 (by decide) c h1 h2) fun x L hi c h1 h2 => hi.ne_own hE31 (by decide) c h1 h2
    have hE32 : EnW w.heap.size w32 v32 (j.ents ++ [en]) := by
      show OwK 3 _ _ w32 v32 (j.ents ++ [en]).length (cellsE (j.ents ++ [en]))
      rw [List.length_append, cellsE_app]
      exact ho32
    refine iFa (iStU hO32 (by simp) hE32.cell fun w33 hO33 hu33 => ?_)
    refine iAdd (by omega) ?_
    refine iFa (iStU hO33 (by simp) rfl fun w34 hO34 hu34 => ?_)
    refine iAdd (by omega) ?_
    have c34 : Ch (fun c => c = q3) w32 w34 := (hu33.ch (S := fun c => c = q3) rfl).trans (hu34.ch (S := fun c => c = q3) rfl) fun _ h => .inl h
    have X34 : Ext w w34 := X32.thenCh c34 fun c hc => by omega
    have hpx : (j.text ++ (l ++ [10])).length = i + 1 := by simp only [List.length_append, List.length_cons, List.length_nil]; omega
    refine hKn ((i + 1, i + 1), ⟨L', j.ents ++ [en], j.text ++ (l ++ [10]), j.hist ++ [L']⟩) _ ⟨X34, ⟨v29, v32, ?_, hQ32.ch c34 hq23, ⟨?_, ?_, hJ', ?_, ?_⟩⟩, hpx.symm, Nat.le_refl _, hil, ?_, fun k h1 h2 => ?_, ?_, ?_⟩ (by show t.length - (i + 1) < t.length - i; omega)
    · show Blk _ w34 q3 [v29, v32, .int .i64 ((j.text ++ (l ++ [10])).length : Int)]
      rw [hpx]
      exact hO34
    · obtain ⟨zs, z1, z2⟩ := hH32
      exact HsW.ch ⟨zs, z1, z2⟩ c34 (fun c h1 h2 => by subst h2; exact z1.ne_blk hO32 (by decide) h1) fun x L hi c h1 h2 => by subst h2; exact hi.ne_blk hO32 (by decide) h1
    · exact OwK.ch hE32 c34 fun c h1 h2 => by subst h2; exact hE32.ne_blk hO32 (by decide) h1
    · show (j.hist ++ [L']).length = (j.ents ++ [en]).length + 1
      rw [List.length_append, List.length_append, hhl]; rfl
    · show gt (j.hist ++ [L']) (j.ents ++ [en]).length = L'
      rw [List.length_append, show j.ents.length + [en].length = j.hist.length by rw [hhl]; rfl, gt_snoc]
    · show t.take (i + 1) = j.text ++ (l ++ [10])
      rw [show i + 1 = st + (l.length + 1) by omega, List.take_add, htk, htd]
      congr 1
      rw [List.take_append, List.take_of_length_le (by omega)]
      simp
    · have h1 : i + 1 ≤ k := h1
      have h2 : k < i + 1 := h2
      omega
    · show (j.ents ++ [en]).length ≤ 60
      rw [List.length_append]; simp only [List.length_cons, List.length_nil]; omega
    · show readJ (60 - (j.ents ++ [en]).length) (t.drop (i + 1)) _ = openJ t
      rw [List.length_append, show 60 - (j.ents.length + [en].length) = m by simp only [List.length_cons, List.length_nil]; omega]
      exact hrd
end Go.Proofs.YtombcpghgdabaaaGreatDoor

/- Contracts: FindItem and SetByLine in the program and in the reference, and their laws. Conditions: the table of powers of ten. -/
namespace Go.Vc
end Go.Vc
namespace Go.Proofs.YtombcpghgdabaaaGreatDoor
open Go.Vc
end Go.Proofs.YtombcpghgdabaaaGreatDoor

/- Contracts: SetByLine, AppendEntry in the program and in the reference, and their laws. Conditions: the table of powers of ten. -/
namespace Go.Vc
instance : Inhabited Ent := ⟨⟨0, [], []⟩⟩
theorem cellsE_at : ∀ {L : List Ent} {j : Nat}, j < L.length → (cellsE L)[j * 3 + 0]? = some (.int .i64 (gt L j).kd) ∧ (cellsE L)[j * 3 + 1]? = some (sv (gt L j).nm) ∧ (cellsE L)[j * 3 + 2]? = some (sv (gt L j).fm)
  | [], j, h => absurd h (Nat.not_lt_zero j)
  | x :: L, 0, _ => ⟨rfl, rfl, rfl⟩
  | x :: L, j + 1, h => by
    have := cellsE_at (L := L) (j := j) (by simpa using h)
    have e : ∀ f, (cellsE (x :: L))[(j + 1) * 3 + f]? = (cellsE L)[j * 3 + f]? := fun f => by
      rw [show cellsE (x :: L) = x.cs ++ cellsE L by simp [cellsE], List.getElem?_append_right (by simp [Ent.cs]; omega)]
      congr 1; simp [Ent.cs]; omega
    rw [e, e, e]
    exact this
noncomputable def addC (j : Jn) (e : Ent) : Int := if entB e = false then 1 else match stepI j.items e with
  | none => 5
  | some _ => if j.ents.length = 60 ∨ 6000 < (j.text ++ lineC j.chk e).length then 3 else 0
noncomputable def appT (j : Jn) (e : Ent) : Str := if addC j e = 0 then j.text ++ lineC j.chk e else []
end Go.Vc
namespace Go.Proofs.YtombcpghgdabaaaGreatDoor
open Go.Vc
theorem iEnt {w : World} {v : Value} {L : List Ent} {z : Int} {j : Nat} {k : IntKind} {K : Value → Prop} (hs : SlK 3 w v L.length (cellsE L)) (hz : z = (j : Int)) (hj : j < L.length) (h : K (gt L j).val) : xIa 3 v (.int k z) fun p => xLdA w 3 p K := by
  have h3 := cellsE_at hj
  refine iLdK hs hz hj (cs := #[.int .i64 (gt L j).kd, sv (gt L j).nm, sv (gt L j).fm]) rfl (fun i hi => ?_) h
  have : i = 0 ∨ i = 1 ∨ i = 2 := by omega
  rcases this with rfl | rfl | rfl
  · exact h3.1
  · exact h3.2.1
  · exact h3.2.2
end Go.Proofs.YtombcpghgdabaaaGreatDoor

/- Contracts: AppendEntry in the program and in the reference, and its law. Conditions: the table of powers of ten. -/
namespace Go.Vc
theorem addC_lim (j : Jn) (e : Ent) (h : entB e = true) {L' : List Itm} (hst : stepI j.items e = some L') : addC j e = if j.ents.length = 60 ∨ 6000 < (j.text ++ lineC j.chk e).length then 3 else 0 := by
  unfold addC
  rw [if_neg (by rw [h]; decide), hst]
end Go.Vc
namespace Go.Proofs.YtombcpghgdabaaaGreatDoor
open Go.Vc
theorem ok_spec_AppendEntry {t : Str} {e : Ent} (ht : t.length ≤ 4194304) (hl : e.sz ≤ 4294967296) (w : World) : Ret Tryz.prog f_spec_AppendEntry #[sv t, e.val] w (.tuple #[sv (appT (openJ t) e), .int .i64 (addC (openJ t) e)]) := by
  apply c_spec_AppendEntry; unfold S_spec_AppendEntry
  refine iNew3 fun q w1 hq x1 hQ => ?_
  refine iLd3 hQ ?_
  refine iRet (ok_spec_l35Is (e := e) (by omega) w1) fun w2 x2 => ?_
  have X2 := x1.trans x2
  have hQ2 := hQ.ext x2
  refine iNot (iCnd (fun hb => ?_) (fun hb => ?_))
  · rw [Bool.not_eq_true'] at hb
    have hc : addC (openJ t) e = 1 := by unfold addC; rw [if_pos hb]
    refine ⟨?_, X2⟩
    unfold appT
    rw [hc]; rfl
  rw [Bool.not_eq_false'] at hb
  refine iCall ((ok_spec_l35Open ht w2).mono ?_)
  rintro r w3 ⟨x3, vs, ve, rfl, hL, hen, htk⟩
  refine iNew3 fun q6 w4 hq6 x4 hB4 => ?_
  refine iSt3 hB4 rfl hL.st.cell hL.en.cell rfl fun w5 hB5 hc5 => ?_
  have s2 := X2.size
  have s3 := x3.size
  have x25 : Ext w2 w5 := (x3.trans x4).thenCh hc5 fun c hc => by omega
  have x35 : Ext w3 w5 := x4.thenCh hc5 fun c hc => by omega
  have hQ5 := hQ2.ext x25
  refine iLd3 hB5 (iLd3 hQ5 ?_)
  intro w6 x6
  refine iCall ((ok_spec_l35Last (hL.ext (x35.trans x6))).mono ?_)
  rintro v17 w7 ⟨x7, hi⟩
  refine ⟨x7, ?_⟩
  intro w8 x8
  refine iCall ((ok_spec_l35Apply (e := e) (hi.ext x8).sl hL.ji).mono ?_)
  rintro r w9 ⟨x9, v', hm⟩
  have hm' : r = .tuple #[v', .bool (stepI (openJ t).items e).isSome] := by
    cases hst : stepI (openJ t).items e with
    | none => rw [hst] at hm; exact hm
    | some L' => rw [hst] at hm; exact hm.1
  subst hm'
  refine iE20 (iE21 ?_)
  intro w10 x10
  have x510 := (((x6.trans x7).trans x8).trans x9).trans x10
  have hB10 := hB5.ext x510
  have htl : (openJ t).text.length ≤ t.length := by
    have := congrArg List.length htk
    rw [List.length_take] at this; omega
  refine iFa (iLdB hB10 rfl ?_)
  refine iTxTo htl ?_
  rw [htk]
  refine iLd3 (hQ5.ext x510) ?_
  refine iRetQ (fun w' _ => ok_spec_l35Put (e := e) (by omega) (by omega) w') ?_
  intro w11 x11
  have X11 := (X2.trans x25).trans (x510.trans x11)
  have hlc := lineC_len (jn_chk_lt (openJ t)) e
  cases hst : stepI (openJ t).items e with
  | none =>
    have hc : addC (openJ t) e = 5 := by unfold addC; rw [if_neg (by rw [hb]; decide), hst]
    refine iNot (iCndT rfl ⟨?_, X11⟩)
    unfold appT
    rw [hc]; rfl
  | some L' =>
    have hc := addC_lim (openJ t) e hb hst
    refine iNot (iCndF rfl ?_)
    refine iJnB (decide ((openJ t).ents.length = 60 ∨ 6000 < ((openJ t).text ++ lineC (openJ t).chk e).length)) w11 (fun J hJ => ?_) (fun w13 x13 => ?_)
    · refine iFa (iLdB (hB10.ext x11) rfl ?_)
      refine iLenK (hL.en.ext ((x35.trans x510).trans x11)).sl (iLe (iCndP (fun h => ?_) (fun h => ?_)))
      · rw [decide_eq_true (.inl (by omega))] at hJ
        exact hJ _ (Ext.refl _)
      · refine iLenT (iLt ?_)
        rw [show decide ((6000 : Int) < (((openJ t).text ++ lineC (chkT 11 (openJ t).text) e).length : Int)) = decide ((openJ t).ents.length = 60 ∨ 6000 < ((openJ t).text ++ lineC (openJ t).chk e).length) from decide_eq_decide.2 ⟨fun h => .inr (by have : (openJ t).chk = chkT 11 (openJ t).text := rfl; rw [this]; omega), fun h2 => by
          have : (openJ t).chk = chkT 11 (openJ t).text := rfl
          rw [this] at h2; omega⟩]
        exact hJ _ (Ext.refl _)
    intro _
    simp only [gx]
    refine iCndP (fun h => ?_) (fun h => ?_)
    · refine ⟨?_, X11.trans x13⟩
      rw [if_pos h] at hc
      unfold appT
      rw [hc]; rfl
    · refine ⟨?_, X11.trans x13⟩
      rw [if_neg h] at hc
      unfold appT
      rw [if_pos hc, hc]; rfl
end Go.Proofs.YtombcpghgdabaaaGreatDoor

/- Contracts: the laws' helpers for rows of entries; EntriesOf in the program and in the reference, and its law. Conditions: the table of powers of ten. -/
namespace Go.Vc
end Go.Vc
namespace Go.Proofs.YtombcpghgdabaaaGreatDoor
open Go.Vc
end Go.Proofs.YtombcpghgdabaaaGreatDoor

/- Plain maths: a journal's text reads as that journal. No program in sight. Conditions: none. -/
namespace Go.Vc
theorem parM_mem {b : Bool} {t : Str} {c : UInt8} (h : c ∈ par b t) : c ∈ t ∨ c = 40 ∨ c = 41 := by
  unfold par at h
  cases b
  · exact .inl h
  · rw [if_pos rfl] at h
    rcases List.mem_cons.1 h with h | h
    · exact .inr (.inl h)
    · rcases List.mem_append.1 h with h | h
      · exact .inl h
      · exact .inr (.inr (by simpa using h))
theorem body_ge : ∀ (f : Fm), f.good → ∀ c ∈ f.body, 38 ≤ c.toNat
  | .var v, hg, c, h => by
    have h : c = vl v := by simpa [Fm.body] using h
    subst h
    have hg : v < 6 := hg
    have : v = 0 ∨ v = 1 ∨ v = 2 ∨ v = 3 ∨ v = 4 ∨ v = 5 := by omega
    rcases this with rfl | rfl | rfl | rfl | rfl | rfl <;> decide
  | .fls, _, c, h => by
    have h : c = 70 := by simpa [Fm.body] using h
    subst h; decide
  | .and a b, hg, c, h => by
    rcases List.mem_append.1 h with h | h
    · rcases parM_mem h with h | rfl | rfl
      · exact body_ge a hg.1 c h
      · decide
      · decide
    · rcases List.mem_cons.1 h with rfl | h
      · decide
      rcases parM_mem h with h | rfl | rfl
      · exact body_ge b hg.2 c h
      · decide
      · decide
  | .or a b, hg, c, h => by
    rcases List.mem_append.1 h with h | h
    · rcases parM_mem h with h | rfl | rfl
      · exact body_ge a hg.1 c h
      · decide
      · decide
    · rcases List.mem_cons.1 h with rfl | h
      · decide
      rcases parM_mem h with h | rfl | rfl
      · exact body_ge b hg.2 c h
      · decide
      · decide
  | .imp a b, hg, c, h => by
    rw [Fm.body] at h
    split at h
    · split at h
      · have h : c = 84 := by simpa using h
        subst h; decide
      · rcases List.mem_cons.1 h with rfl | h
        · decide
        rcases parM_mem h with h | rfl | rfl
        · exact body_ge a hg.1 c h
        · decide
        · decide
    · rcases List.mem_append.1 h with h | h
      · rcases parM_mem h with h | rfl | rfl
        · exact body_ge a hg.1 c h
        · decide
        · decide
      · rcases List.mem_cons.1 h with rfl | h
        · decide
        · exact body_ge b hg.2 c h
  | .box a, hg, c, h => by
    rcases List.mem_cons.1 h with rfl | h
    · decide
    rcases List.mem_cons.1 h with rfl | h
    · decide
    rcases parM_mem h with h | rfl | rfl
    · exact body_ge a hg c h
    · decide
    · decide
  | .dia a, hg, c, h => by
    rcases List.mem_cons.1 h with rfl | h
    · decide
    rcases List.mem_cons.1 h with rfl | h
    · decide
    rcases parM_mem h with h | rfl | rfl
    · exact body_ge a hg c h
    · decide
    · decide
theorem goodT_ge {t : Str} (h : goodT t = true) : ∀ c ∈ t, 38 ≤ c.toNat := by
  unfold goodT at h
  rw [Bool.and_eq_true, decide_eq_true_eq, decide_eq_true_eq] at h
  have := body_ge (rd t).1 (prs_good _ _ _ _ trivial)
  rw [h.2] at this
  exact this
theorem nameOk_ge {t : Str} (h : nameOk t = true) : ∀ c ∈ t, 97 ≤ c.toNat := fun c hc => by
  unfold nameOk at h
  rw [Bool.and_eq_true, List.all_eq_true] at h
  have := h.1 c hc
  unfold small at this
  rw [Bool.and_eq_true, decide_eq_true_eq] at this
  exact this.1
theorem ne_of_ge {c d : UInt8} {n : Nat} (h : n ≤ c.toNat) (hd : d.toNat < n) : c ≠ d := fun e => by subst e; omega
theorem decT_ge (n : Nat) : ∀ c ∈ decT n, 48 ≤ c.toNat := by
  induction n using Nat.strongRecOn with
  | _ n ih =>
    intro c hc
    by_cases h : n < 10
    · unfold decT at hc
      rw [Lib.decDigits, dif_pos h] at hc
      have hc : c = UInt8.ofNat (48 + n) := by simpa using hc
      subst hc
      rw [UInt8.toNat_ofNat']; omega
    · have : decT n = decT (n / 10) ++ [UInt8.ofNat (48 + n % 10)] := by unfold decT; conv => lhs; rw [Lib.decDigits, dif_neg h]
      rw [this] at hc
      rcases List.mem_append.1 hc with hc | hc
      · exact ih (n / 10) (by omega) c hc
      · have hc : c = UInt8.ofNat (48 + n % 10) := by simpa using hc
        subst hc
        rw [UInt8.toNat_ofNat']; omega
theorem ent_cases {e : Ent} (h : entB e = true) : nameOk e.nm = true ∧ ((e.kd = 1 ∧ goodT e.fm = true) ∨ (e.kd = 2 ∧ e.fm = []) ∨ (e.kd = 3 ∧ e.fm = [])) := by
  unfold entB at h
  split at h
  · rw [Bool.and_eq_true] at h
    exact ⟨h.1, .inl ⟨by assumption, h.2⟩⟩
  · split at h
    · rename_i h1 h2
      rw [Bool.and_eq_true, decide_eq_true_eq] at h
      exact ⟨h.1, .inr (h2.imp (fun e => ⟨e, h.2⟩) fun e => ⟨e, h.2⟩)⟩
    · cases h
theorem split_line {e : Ent} (h : entB e = true) : entOf (splitT 32 (lineT e)) = e := by
  obtain ⟨hn, hc⟩ := ent_cases h
  have n32 : ∀ x ∈ e.nm, x ≠ 32 := fun x hx => ne_of_ge (nameOk_ge hn x hx) (by decide)
  rcases hc with ⟨hk, hg⟩ | ⟨hk, hf⟩ | ⟨hk, hf⟩
  · have f32 : ∀ x ∈ e.fm, x ≠ 32 := fun x hx => ne_of_ge (goodT_ge hg x hx) (by decide)
    unfold lineT
    rw [if_pos hk, splitT_hit (by decide), splitT_hit n32, splitT_miss f32]
    obtain ⟨k, a, b⟩ := e
    have hk : k = 1 := hk
    subst hk; rfl
  · unfold lineT
    rw [if_neg (by omega), if_pos hk, splitT_hit (by decide), splitT_miss n32]
    obtain ⟨k, a, b⟩ := e
    have hk : k = 2 := hk
    have hf : b = [] := hf
    subst hk; subst hf; rfl
  · unfold lineT
    rw [if_neg (by omega), if_neg (by omega), splitT_hit (by decide), splitT_miss n32]
    obtain ⟨k, a, b⟩ := e
    have hk : k = 3 := hk
    have hf : b = [] := hf
    subst hk; subst hf; rfl
theorem line_no10 {e : Ent} (h : entB e = true) : ∀ x ∈ lineT e, x ≠ 10 := by
  obtain ⟨hn, hc⟩ := ent_cases h
  have n10 : ∀ x ∈ e.nm, x ≠ 10 := fun x hx => ne_of_ge (nameOk_ge hn x hx) (by decide)
  have k1 : ∀ x ∈ kLet, x ≠ 10 := by decide
  have k2 : ∀ x ∈ kDrop, x ≠ 10 := by decide
  have k3 : ∀ x ∈ kClaim, x ≠ 10 := by decide
  intro x hx
  unfold lineT at hx
  rcases hc with ⟨hk, hg⟩ | ⟨hk, hf⟩ | ⟨hk, hf⟩
  · rw [if_pos hk] at hx
    rcases List.mem_append.1 hx with hx | hx
    · exact k1 x hx
    rcases List.mem_cons.1 hx with rfl | hx
    · decide
    rcases List.mem_append.1 hx with hx | hx
    · exact n10 x hx
    rcases List.mem_cons.1 hx with rfl | hx
    · decide
    · exact ne_of_ge (goodT_ge hg x hx) (by decide)
  · rw [if_neg (by omega), if_pos hk] at hx
    rcases List.mem_append.1 hx with hx | hx
    · exact k2 x hx
    rcases List.mem_cons.1 hx with rfl | hx
    · decide
    · exact n10 x hx
  · rw [if_neg (by omega), if_neg (by omega)] at hx
    rcases List.mem_append.1 hx with hx | hx
    · exact k3 x hx
    rcases List.mem_cons.1 hx with rfl | hx
    · decide
    · exact n10 x hx
theorem pStep_line {j : Jn} {e : Ent} (h : entB e = true) : pStep j (lineT e ++ 32 :: decT (chkT j.chk (lineT e))) = addJ j e := by
  have hd : ∀ x ∈ decT (chkT j.chk (lineT e)), x ≠ 32 := fun x hx => ne_of_ge (decT_ge _ x hx) (by decide)
  have h1 : entOf (splitT 32 (lineT e ++ 32 :: decT (chkT j.chk (lineT e)))).dropLast = e := by
    rw [split_last hd, List.dropLast_concat, split_line h]
  unfold pStep
  rw [h1, h, decide_eq_true (by unfold lineC; simp)]
  rfl
/-- The journals that come about. -/
inductive Reach : Jn → Prop
  | nil : Reach jn0
  | add {j j' : Jn} {e : Ent} : Reach j → entB e = true → addJ j e = some j' → Reach j'
theorem addJ_some {j j' : Jn} {e : Ent} (h : addJ j e = some j') : ∃ L, stepI j.items e = some L ∧ j' = ⟨L, j.ents ++ [e], j.text ++ lineC j.chk e, j.hist ++ [L]⟩ := by
  unfold addJ at h
  cases hst : stepI j.items e with
  | none => rw [hst] at h; cases h
  | some L => rw [hst] at h; cases h; exact ⟨L, rfl, rfl⟩
theorem Reach.read {j : Jn} (h : Reach j) : ∀ (m : Nat) (t : Str), j.ents.length ≤ m → readJ m (j.text ++ t) jn0 = readJ (m - j.ents.length) t j := by
  induction h with
  | nil => intro m t _; rfl
  | @add j j' e hr he ha ih =>
    intro m t hm
    obtain ⟨L, hst, rfl⟩ := addJ_some ha
    have hm' : j.ents.length + 1 ≤ m := by simpa using hm
    show readJ m ((j.text ++ lineC j.chk e) ++ t) jn0 = _
    rw [List.append_assoc, ih m _ (by omega)]
    obtain ⟨k, hk⟩ : ∃ k, m - j.ents.length = k + 1 := ⟨m - j.ents.length - 1, by omega⟩
    have hl : lineC j.chk e ++ t = (lineT e ++ 32 :: decT (chkT j.chk (lineT e))) ++ 10 :: t := by unfold lineC; simp
    have h10 : ∀ x ∈ lineT e ++ 32 :: decT (chkT j.chk (lineT e)), x ≠ 10 := fun x hx => by
      rcases List.mem_append.1 hx with hx | hx
      · exact line_no10 he x hx
      rcases List.mem_cons.1 hx with rfl | hx
      · decide
      · exact ne_of_ge (decT_ge _ x hx) (by decide)
    rw [hl, hk, readJ_hit h10, pStep_line he, ha]
    show readJ k t _ = readJ (m - (j.ents ++ [e]).length) t _
    rw [List.length_append, show m - (j.ents.length + [e].length) = k by simp only [List.length_cons, List.length_nil]; omega]
theorem Reach.open {j : Jn} (h : Reach j) (hl : j.ents.length ≤ 60) : openJ j.text = j := by
  have := h.read 60 [] hl
  rw [List.append_nil, readJ_miss (m := 60 - j.ents.length) (t := []) (fun x hx => by cases hx)] at this
  exact this
theorem read_reach : ∀ (m : Nat) (t : Str) {j : Jn}, Reach j → Reach (readJ m t j)
  | 0, _, _, h => h
  | m + 1, t, j, h => by
    rw [readJ]
    split
    · cases hp : pStep j (t.takeWhile fun c => c != 10) with
      | none => exact h
      | some j' =>
        refine read_reach m _ ?_
        unfold pStep at hp
        split at hp
        · rename_i hb
          rw [Bool.and_eq_true] at hb
          exact .add h hb.1 hp
        · cases hp
    · exact h
theorem open_reach (t : Str) : Reach (openJ t) := read_reach 60 t .nil
end Go.Vc

/- Contracts: ReplayEntries in the program and in the reference, and its law. Conditions: the table of powers of ten. -/
namespace Go.Vc
noncomputable def replJ : Jn → List Ent → Str × Int
  | j, [] => (j.text, 0)
  | j, e :: r => if addC j e = 0 then (match addJ j e with | some j' => replJ j' r | none => ([], 5)) else ([], addC j e)
theorem addC_zero {j : Jn} {e : Ent} (h : addC j e = 0) : entB e = true ∧ j.ents.length ≠ 60 ∧ (j.text ++ lineC j.chk e).length ≤ 6000 ∧ ∃ L, stepI j.items e = some L := by
  unfold addC at h
  split at h
  · cases h
  · rename_i hb
    have hb : entB e = true := by simpa using hb
    cases hst : stepI j.items e with
    | none => rw [hst] at h; cases h
    | some L =>
      rw [hst] at h
      have h : (if j.ents.length = 60 ∨ 6000 < (j.text ++ lineC j.chk e).length then (3 : Int) else 0) = 0 := h
      by_cases hn : j.ents.length = 60 ∨ 6000 < (j.text ++ lineC j.chk e).length
      · rw [if_pos hn] at h; cases h
      · exact ⟨hb, fun e => hn (.inl e), by
          have h6 : ¬ 6000 < (j.text ++ lineC j.chk e).length := fun e => hn (.inr e)
          omega, L, rfl⟩
end Go.Vc
namespace Go.Proofs.YtombcpghgdabaaaGreatDoor
open Go.Vc
end Go.Proofs.YtombcpghgdabaaaGreatDoor

/- Contracts: ReadNotebook and NotebookAt in the program and in the reference, and their laws. Conditions: the table of powers of ten. -/
namespace Go.Vc
section
variable {P : Program} {w : World}
end
end Go.Vc
namespace Go.Proofs.YtombcpghgdabaaaGreatDoor
open Go.Vc
end Go.Proofs.YtombcpghgdabaaaGreatDoor

/- Contracts: NotebookAt in the program and in the reference, and its law. Conditions: the table of powers of ten. -/
namespace Go.Vc
end Go.Vc
namespace Go.Proofs.YtombcpghgdabaaaGreatDoor
open Go.Vc
end Go.Proofs.YtombcpghgdabaaaGreatDoor

/- Contracts: ClaimedFormulas in the program and in the reference, and its law. Conditions: the table of powers of ten. -/
namespace Go.Vc
end Go.Vc
namespace Go.Proofs.YtombcpghgdabaaaGreatDoor
open Go.Vc
end Go.Proofs.YtombcpghgdabaaaGreatDoor

/- Plain maths: the compact form of a journal's items never fails. No program in sight. Conditions: none. -/
namespace Go.Vc
def cp1 (x : Itm) : List Ent := ⟨1, x.nm, x.fm⟩ :: if x.cl = 1 then [⟨3, x.nm, []⟩] else []
def cpE (L : List Itm) : List Ent := L.flatMap cp1
theorem cpE_snoc {L : List Itm} {k : Nat} (hk : k < L.length) : cpE (L.take (k + 1)) = cpE (L.take k) ++ cp1 (gt L k) := by
  unfold cpE
  rw [List.take_succ_eq_append_getElem hk, List.flatMap_append, ← gt_eq hk]; simp
theorem goodT_len {t : Str} (h : goodT t = true) : t.length ≤ 300 := by
  unfold goodT at h
  rw [Bool.and_eq_true, decide_eq_true_eq] at h
  have := (pCode_size h.1).2.1
  omega
theorem nameOk_len {t : Str} (h : nameOk t = true) : t.length ≤ 8 := by
  unfold nameOk at h
  rw [Bool.and_eq_true, Bool.and_eq_true, decide_eq_true_eq, decide_eq_true_eq] at h
  exact h.2.2
end Go.Vc

/- Contracts: entries added to a journal while another row stands. Conditions: the table of powers of ten. -/
namespace Go.Vc
/-- A block that the journal's own steps leave alone. -/
structure Keep (D : Nat) (w : World) (b : Nat) (vi ve : Value) : Prop where
  lt : D < w.heap.size
  nb : ¬ D = b
  ni : ¬ vi.ownBlock = some D
  ne : ¬ ve.ownBlock = some D
theorem Keep.ext {D b : Nat} {w w' : World} {vi ve : Value} (h : Keep D w b vi ve) (x : Ext w w') : w'.heap[D]? = w.heap[D]? ∧ Keep D w' b vi ve :=
  ⟨Go.RowKit.Below.block x D h.lt, Nat.lt_of_lt_of_le h.lt x.size, h.nb, h.ni, h.ne⟩
end Go.Vc
namespace Go.Proofs.YtombcpghgdabaaaGreatDoor
open Go.Vc
theorem ok_impl_journal_enter2 {w0 w : World} {b : Nat} {vi ve : Value} {j : Jn} {e : Ent} (h0 : Ext w0 w) (hj : JnW w0 w b vi ve j) (he : entB e = true) (hl : e.sz ≤ 4294967296) (hn : j.ents.length ≤ 1048576) (ht : j.text.length ≤ 68719476736) (hT : TabOk w0) :
    Cal Tryz.prog f_impl_journal_enter #[.pointer (some ⟨b, 0, none⟩), e.val] w fun r w' => Ext w0 w' ∧ match addJ j e with
      | some j' => r = .bool true ∧ ∃ vi' ve', JnW w0 w' b vi' ve' j' ∧ ∀ D, Keep D w b vi ve → w'.heap[D]? = w.heap[D]? ∧ Keep D w' b vi' ve'
      | none => r = .bool false ∧ JnW w0 w' b vi ve j ∧ ∀ D, Keep D w b vi ve → w'.heap[D]? = w.heap[D]? ∧ Keep D w' b vi ve := by
  apply c_impl_journal_enter; unfold S_impl_journal_enter
  have hchk := jn_chk_lt j
  have hLl := hj.ji.len
  refine iNew3 fun q w1 hq x1 hQ => ?_
  have hj1 := hj.ext x1
  refine iNil (iFa (iLdB hj1.blk rfl ?_))
  refine iLd3 hQ ?_
  intro w2 x2
  have X2 := x1.trans x2
  have hj2 := hj1.ext x2
  have hQ2 := hQ.ext x2
  refine iCall ((ok_impl_entered (h0.trans X2) hj2.it hj.ji).mono ?_)
  rintro r w3 ⟨X03, v', hm⟩
  cases hst : stepI j.items e with
  | none =>
    rw [hst] at hm
    obtain ⟨rfl, x3⟩ := hm
    have hadd : addJ j e = none := by unfold addJ; rw [hst]; rfl
    rw [hadd]
    refine iE20 (iE21 ?_)
    intro w4 x4
    exact iNot (iCndT rfl ⟨X03.trans x4, rfl, (hj2.ext x3).ext x4, fun D hD => hD.ext ((X2.trans x3).trans x4)⟩)
  | some L' =>
    rw [hst] at hm
    obtain ⟨rfl, hi3, hc3, ho3⟩ := hm
    have hadd : addJ j e = some ⟨L', j.ents ++ [e], j.text ++ lineC j.chk e, j.hist ++ [L']⟩ := by unfold addJ; rw [hst]; rfl
    rw [hadd]
    have hJ' := stepI_JI hj.ji he hst
    refine iE20 (iE21 ?_)
    intro w4 x4
    refine iNot (iCndF rfl ?_)
    -- what stands behind 'entered'
    have hB4 : Blk 75 w4 b [vi, ve, sv j.text, .int .i64 (j.chk : Int)] := (hj2.blk.ch hc3 (jn_ne_it hj2)).ext x4
    have hQ4 : Blk t_impl_Entry w4 q e.cs := (hQ2.ch hc3 (hj2.it.ne_blk hQ2 (by decide))).ext x4
    have hE4 : EnW w0.heap.size w4 ve j.ents := (hj2.en.ch hc3 fun c hc hd => hj2.en.ne_own hj2.it (by decide) c hc hd).ext x4
    have hI4 := hi3.ext x4
    have X04 := X03.trans x4
    refine iLd3 hQ4 ?_
    refine iRet (ok_impl_journal_line (e := e) hB4 hchk (by omega) (hT.ext X04)) fun w5 x5 => ?_
    have hB5 := hB4.ext x5
    refine iNil (iFa (iLdB hB5 rfl ?_))
    refine iLd3 (hQ4.ext x5) ?_
    intro w6 x6
    refine iBs31 fun q7 w7 hq7 x7 hB7 => ⟨x7, ?_⟩
    intro w8 x8
    have X48 := ((x5.trans x6).trans x7).trans x8
    have X08 := X04.trans X48
    have hE8 : EnW w0.heap.size w8 ve j.ents := hE4.ext X48
    refine iAppK u_Simpl_Entry i_Simpl_Entry rfl (by omega) hE8 (OwK.ofBlk (k := 3) (lo := 0) (n := 1) (hB7.ext x8) (Nat.zero_le _) rfl (by omega)).sl (by intro u hu; simp at hu; rcases hu with rfl | rfl | rfl <;> rfl) (by omega) (by omega) X08.size fun v9 w9 ho9 hg9 hb9 => ?_
    have hc9 : Ch (fun c => ve.ownBlock = some c) w8 w9 := grown_ch hg9 fun c hc => hc
    have X09 : Ext w0 w9 := X08.thenCh hc9 fun c hc => (hE8.blk c hc).1
    have hB8 := hB4.ext X48
    have hB9 : Blk 75 w9 b [vi, ve, sv j.text, .int .i64 (j.chk : Int)] := hB8.ch hc9 (hE8.ne_blk hB8 (by decide))
    have hI9 : ItW w0.heap.size w9 v' L' := (hI4.ext X48).ch hc9 fun c hc hd => (hI4.ext X48).ne_own hE8 (by decide) c hc hd
    have hblo := hj.lo
    refine iNil (iFa ?_)
    intro w10 x10
    refine iStU (hB9.ext x10) (by simp) hi3.cell fun w11 hB11 hu11 => ?_
    refine iNil (iFa ?_)
    intro w12 x12
    have ho9' : OwK 3 w0.heap.size t_impl_Entry w9 v9 (j.ents.length + 1) (cellsE j.ents ++ e.cs) := ho9
    refine iStU (hB11.ext x12) (by simp) ho9'.cell fun w13 hB13 hu13 => ?_
    intro w14 x14
    have hB14 := hB13.ext x14
    refine iNil (iFa (iLdB hB14 rfl ?_))
    have hlc := lineC_len hchk e
    refine iCat (by omega) ?_
    refine iNil (iFa ?_)
    refine iStU hB14 (by simp) rfl fun w15 hB15 hu15 => ?_
    refine iNil (iFa (iLdB hB15 rfl ?_))
    refine iRet (ok_impl_checkOf hchk (by omega) w15) fun w16 x16 => ?_
    refine iNil (iFa ?_)
    refine iStU (hB15.ext x16) (by simp) rfl fun w17 hB17 hu17 => ?_
    -- only b turned since w9
    have hSb : ∀ (c : Nat), c = b → c = b := fun _ h => h
    have C1 : Ch (fun c => c = b) w9 w11 := x10.ch.trans (hu11.ch (S := fun c => c = b) rfl) fun _ h => .inl h
    have C2 : Ch (fun c => c = b) w9 w13 := (C1.trans (x12.ch (S := fun _ => False)) fun _ h => h.elim).trans (hu13.ch (S := fun c => c = b) rfl) fun _ h => .inl h
    have C3 : Ch (fun c => c = b) w9 w15 := (C2.trans (x14.ch (S := fun _ => False)) fun _ h => h.elim).trans (hu15.ch (S := fun c => c = b) rfl) fun _ h => .inl h
    have C4 : Ch (fun c => c = b) w9 w17 := (C3.trans (x16.ch (S := fun _ => False)) fun _ h => h.elim).trans (hu17.ch (S := fun c => c = b) rfl) fun _ h => .inl h
    have X017 : Ext w0 w17 := X09.thenCh C4 fun c hc => by omega
    refine ⟨X017, rfl, v', v9, ⟨hblo, ?_, hI9.ch C4 fun c hc hd => ?_, ?_, hJ'⟩, fun D hD => ?_⟩
    · show Blk _ w17 b [v', v9, sv (j.text ++ lineC j.chk e), .int .i64 (chkT 11 (j.text ++ lineC j.chk e) : Int)]
      rw [chk_add]
      exact hB17
    · subst hd
      exact hI9.ne_blk hB9 (by decide) hc
    · show OwK 3 _ _ w17 v9 (j.ents ++ [e]).length (cellsE (j.ents ++ [e]))
      rw [List.length_append, cellsE_app]
      refine OwK.ch (n := j.ents.length + 1) ho9' C4 fun c hc hd => ?_
      subst hd
      exact ho9'.ne_blk hB9 (by decide) hc
    · obtain ⟨d1, d2, d3, d4⟩ := hD
      have s2 := X2.size
      have s3 := hc3.size
      have s4 := x4.size
      have s48 := X48.size
      have s9 := hc9.size
      have k3 : w3.heap[D]? = w.heap[D]? := (hc3.block D (by omega) d3).trans (Go.RowKit.Below.block X2 D d1)
      have k8 : w8.heap[D]? = w.heap[D]? := (Go.RowKit.Below.block X48 D (by omega)).trans ((Go.RowKit.Below.block x4 D (by omega)).trans k3)
      have k9 : w9.heap[D]? = w.heap[D]? := (hc9.block D (by omega) d4).trans k8
      have k17 : w17.heap[D]? = w.heap[D]? := (C4.block D (by omega) d2).trans k9
      have s17 := C4.size
      refine ⟨k17, by omega, d2, fun hd => ?_, fun hd => ?_⟩
      · rcases ho3 with e | ⟨c, e, hcc⟩
        · rw [e] at hd; exact d3 hd
        · rw [e] at hd
          injection hd with hd
          omega
      · rcases hb9 with e | ⟨c, e, hcc⟩
        · rw [e] at hd; exact d4 hd
        · rw [e] at hd
          injection hd with hd
          omega
theorem ok_impl_journal_add2 {w0 w : World} {b : Nat} {vi ve : Value} {j : Jn} {e : Ent} (h0 : Ext w0 w) (hj : JnW w0 w b vi ve j) (hl : e.sz ≤ 4294967296) (hn : j.ents.length ≤ 1048576) (ht : j.text.length ≤ 68719476736) (hT : TabOk w0) :
    Cal Tryz.prog f_impl_journal_add #[.pointer (some ⟨b, 0, none⟩), e.val] w fun r w' => Ext w0 w' ∧ r = .int .i64 (addC j e) ∧ (addC j e = 0 → ∃ j' vi' ve', addJ j e = some j' ∧ JnW w0 w' b vi' ve' j' ∧ ∀ D, Keep D w b vi ve → w'.heap[D]? = w.heap[D]? ∧ Keep D w' b vi' ve') := by
  apply c_impl_journal_add; unfold S_impl_journal_add
  refine iNew3 fun q w1 hq x1 hQ => ?_
  refine iLd3 hQ ?_
  refine iRet (ok_impl_isEntry (e := e) (by omega) w1) fun w2 x2 => ?_
  have X2 := x1.trans x2
  have hj2 := hj.ext X2
  have hQ2 := hQ.ext x2
  refine iNot (iCnd (fun hb => ?_) (fun hb => ?_))
  · rw [Bool.not_eq_true'] at hb
    have hc : addC j e = 1 := by unfold addC; rw [if_pos hb]
    rw [hc]
    exact ⟨h0.trans X2, rfl, fun h => by cases h⟩
  rw [Bool.not_eq_false'] at hb
  have keepB : ∀ {w' : World} {q : Nat} {t : TypeId} {cs : List Value}, Blk t w2 q cs → Ch (fun _ => False) w2 w' → Blk t w' q cs := fun h hc => h.ch hc fun h => h
  refine ⟨fun _ => False, ?_⟩
  refine iNil (iFa (iLdB hj2.blk rfl ⟨fun w4 hc => iLdB (keepB hj2.blk hc) rfl rfl, ?_⟩))
  refine iLenK hj2.en.sl ?_
  refine iNil (iFa (iLdB hj2.blk rfl ⟨fun w5 hc => iLdB (keepB hj2.blk hc) rfl rfl, ?_⟩))
  refine iLenT ?_
  refine iLd3 hQ2 ⟨fun w6 hc => iLd3 (keepB hQ2 hc) rfl, ?_⟩
  intro w7 x7
  have hj7 := hj2.ext x7
  refine iRet (ok_impl_journal_line (e := e) hj7.blk (jn_chk_lt j) (by omega) (hT.ext ((h0.trans X2).trans x7))) fun w8 x8 => ⟨x8.ch, ?_⟩
  have hlc := lineC_len (jn_chk_lt j) e
  refine iLenT (iAdd (by omega) ?_)
  intro w9 x9
  have X9 := ((x7.trans x8).trans x9)
  refine iLd3 (hQ2.ext X9) ?_
  refine iCall ((ok_impl_journal_enter2 (e := e) ((h0.trans X2).trans X9) (hj2.ext X9) hb hl hn ht hT).mono ?_)
  rintro r w10 ⟨X10, hm⟩
  cases hst : stepI j.items e with
  | none =>
    have had : addJ j e = none := by unfold addJ; rw [hst]; rfl
    have hc : addC j e = 5 := by unfold addC; rw [if_neg (by rw [hb]; decide), hst]
    rw [had] at hm
    obtain ⟨rfl, -⟩ := hm
    rw [hc]
    exact iNot (iCndT rfl ⟨X10, rfl, fun h => by cases h⟩)
  | some L' =>
    have had : addJ j e = some ⟨L', j.ents ++ [e], j.text ++ lineC j.chk e, j.hist ++ [L']⟩ := by unfold addJ; rw [hst]; rfl
    have hc := addC_lim j e hb hst
    rw [had] at hm
    obtain ⟨rfl, vi', ve', hj', hK⟩ := hm
    refine iNot (iCndF rfl ?_)
    refine iJnB (decide (j.ents.length = 60 ∨ 6000 < (j.text ++ lineC j.chk e).length)) w10 (fun J hJ => ?_) (fun w12 x12 => ?_)
    · rw [List.length_append] at hJ
      refine iEq (iCndP (fun h => ?_) (fun h => ?_))
      · rw [decide_eq_true (show j.ents.length = 60 ∨ 6000 < j.text.length + (lineC j.chk e).length from .inl (by omega))] at hJ
        exact hJ _ (Ext.refl _)
      · refine iLt ?_
        rw [show decide ((6000 : Int) < (j.text.length : Int) + ((lineC j.chk e).length : Int)) = decide (j.ents.length = 60 ∨ 6000 < j.text.length + (lineC j.chk e).length) from decide_eq_decide.2 (by omega)]
        exact hJ _ (Ext.refl _)
    intro _
    simp only [gx]
    refine iCndP (fun h => ?_) (fun h => ?_)
    · rw [hc, if_pos h]
      exact ⟨X10.trans x12, rfl, fun h => by cases h⟩
    · rw [hc, if_neg h]
      exact ⟨X10.trans x12, rfl, fun _ => ⟨_, vi', ve', had, hj'.ext x12, fun D hD => by
        obtain ⟨e1, k1⟩ := hD.ext (X2.trans X9)
        obtain ⟨e2, k2⟩ := hK D k1
        obtain ⟨e3, k3⟩ := k2.ext x12
        exact ⟨e3.trans (e2.trans e1), k3⟩⟩⟩
end Go.Proofs.YtombcpghgdabaaaGreatDoor

/- Contracts: entries added to a journal from a row of the call's own; the compact form; CompactNotebook and its law. Conditions: the table of powers of ten. -/
namespace Go.Vc
/-- What stands of a journal while entries are added, its text as long as a law's text. -/
structure Fit2 (j : Jn) : Prop where
  reach : Reach j
  en : j.ents.length ≤ 60
  tx : j.text.length ≤ 4194304
theorem Fit2.add {j j' : Jn} {e : Ent} (h : Fit2 j) (hc : addC j e = 0) (ha : addJ j e = some j') : Fit2 j' := by
  obtain ⟨hb, h60, h6, -⟩ := addC_zero hc
  have hr := Reach.add h.reach hb ha
  obtain ⟨L, hst, rfl⟩ := addJ_some ha
  have := h.en
  exact ⟨hr, by show (j.ents ++ [e]).length ≤ 60; rw [List.length_append]; simp only [List.length_cons, List.length_nil]; omega, Nat.le_trans h6 (by omega)⟩
theorem cpE_len {L : List Itm} : (cpE L).length ≤ 2 * L.length := by
  induction L with
  | nil => exact Nat.zero_le _
  | cons x L ih =>
    have : cpE (x :: L) = cp1 x ++ cpE L := by simp [cpE]
    rw [this, List.length_append, List.length_cons]
    have : (cp1 x).length ≤ 2 := by unfold cp1; split <;> simp
    omega
end Go.Vc
namespace Go.Proofs.YtombcpghgdabaaaGreatDoor
open Go.Vc
theorem ok_impl_journal_added2 {w0 w : World} {b lo : Nat} {vi ve v : Value} {j0 : Jn} {L : List Ent} (h0 : Ext w0 w) (hj : JnW w0 w b vi ve j0) (hf : Fit2 j0) (hs : EnW lo w v L) (hk : ∀ D, v.ownBlock = some D → Keep D w b vi ve) (hsz : ∀ e ∈ L, e.sz ≤ 4294967296) (hT : TabOk w0) :
    Cal Tryz.prog f_impl_journal_added #[.pointer (some ⟨b, 0, none⟩), v] w fun r w' => Ext w0 w' ∧ r = .tuple #[sv (replJ j0 L).1, .int .i64 (replJ j0 L).2] := by
  apply c_impl_journal_added; unfold S_impl_journal_added
  refine iLenK hs.sl ?_
  have hln := hs.sl.len
  refine iLp (fun s : Nat × Jn => [.int .i64 (s.1 : Int)]) (fun s w' => s.1 ≤ L.length ∧ Ext w0 w' ∧ (∃ vi ve, JnW w0 w' b vi ve s.2 ∧ ∀ D, v.ownBlock = some D → w'.heap[D]? = w.heap[D]? ∧ Keep D w' b vi ve) ∧ Fit2 s.2 ∧ replJ s.2 (L.drop s.1) = replJ j0 L) (fun s => L.length - s.1) (0, j0) rfl ⟨Nat.zero_le _, h0, ⟨vi, ve, hj, fun D hD => ⟨rfl, hk D hD⟩⟩, hf, rfl⟩ ?_
  rintro ⟨i, j⟩ w2 Kn ⟨hi, X2, ⟨vi, ve, hj, hK⟩, hf, hr⟩ hKn
  have hi : i ≤ L.length := hi
  have hj : JnW w0 w2 b vi ve j := hj
  have hf : Fit2 j := hf
  have hr : replJ j (L.drop i) = replJ j0 L := hr
  intro _
  simp only [gx]
  refine iLt (iCndP (fun hlt => ?_) (fun hlt => ?_))
  · have hil : i < L.length := by omega
    have hd : L.drop i = gt L i :: L.drop (i + 1) := by rw [List.drop_eq_getElem_cons hil, gt_eq hil]
    rw [hd, replJ] at hr
    have hs2 : EnW lo w2 v L := OwK.same hs fun c hc => (hK c hc).1
    refine iEnt hs2.sl rfl hil ?_
    refine iNew3 fun q w3 hq x3 hB3 => ?_
    refine iSt3 hB3 rfl rfl rfl rfl fun w4 hB4 hc4 => ?_
    have x24 : Ext w2 w4 := x3.thenCh hc4 fun c hc => by omega
    refine iLd3 hB4 ?_
    have h1 := hf.en
    have h2 := hf.tx
    refine iCall ((ok_impl_journal_add2 (e := gt L i) (X2.trans x24) (hj.ext x24) (hsz _ (by rw [gt_eq hil]; exact List.getElem_mem _)) (show j.ents.length ≤ 1048576 by omega) (show j.text.length ≤ 68719476736 by omega) hT).mono ?_)
    rintro r w5 ⟨X5, rfl, hz⟩
    refine iNe (iCndP (fun hne => ?_) (fun hne => ?_))
    · rw [if_neg hne] at hr
      refine ⟨X5, ?_⟩
      rw [← hr]
    · have hc : addC j (gt L i) = 0 := Classical.not_not.1 hne
      rw [if_pos hc] at hr
      obtain ⟨j', vi', ve', ha, hj', hK'⟩ := hz hc
      rw [ha] at hr
      refine iAdd (by omega) ?_
      exact hKn (i + 1, j') _ ⟨hil, X5, ⟨vi', ve', hj', fun D hD => by
        obtain ⟨e1, k1⟩ := hK D hD
        obtain ⟨e2, k2⟩ := k1.ext x24
        obtain ⟨e3, k3⟩ := hK' D k2
        exact ⟨e3.trans (e2.trans e1), k3⟩⟩, hf.add hc ha, hr⟩ (by show L.length - (i + 1) < L.length - i; omega)
  · have hd : L.drop i = [] := List.drop_of_length_le (by omega)
    rw [hd, replJ] at hr
    refine iNil (iFa (iLdB hj.blk rfl ⟨X2, ?_⟩))
    rw [← hr]
theorem ok_spec_l35Replay2 {w : World} {v : Value} {L : List Ent} {j0 : Jn} (hf : Fit2 j0) (hs : SlK 3 w v L.length (cellsE L)) (hsz : ∀ e ∈ L, e.sz ≤ 4294967296) : Ret Tryz.prog f_spec_l35Replay #[sv j0.text, v] w (.tuple #[sv (replJ j0 L).1, .int .i64 (replJ j0 L).2]) := by
  apply c_spec_l35Replay; unfold S_spec_l35Replay
  have hln := hs.len
  refine iLp (fun s : Nat × Jn => [sv s.2.text, .int .i64 (s.1 : Int)]) (fun s w' => s.1 ≤ L.length ∧ Ext w w' ∧ Fit2 s.2 ∧ replJ s.2 (L.drop s.1) = replJ j0 L) (fun s => L.length - s.1) (0, j0) rfl ⟨Nat.zero_le _, Ext.refl _, hf, rfl⟩ ?_
  rintro ⟨i, j⟩ w2 Kn ⟨hi, X2, hf, hr⟩ hKn
  have hi : i ≤ L.length := hi
  have hf : Fit2 j := hf
  have hr : replJ j (L.drop i) = replJ j0 L := hr
  intro _
  simp only [gx]
  refine iLenK (hs.ext X2) (iLt (iCndP (fun hlt => ?_) (fun hlt => ?_)))
  · have hil : i < L.length := by omega
    have hd : L.drop i = gt L i :: L.drop (i + 1) := by rw [List.drop_eq_getElem_cons hil, gt_eq hil]
    rw [hd, replJ] at hr
    refine iEnt (hs.ext X2) rfl hil ?_
    have h2 := hf.tx
    refine iRet (ok_spec_AppendEntry (t := j.text) (e := gt L i) (by omega) (hsz _ (by rw [gt_eq hil]; exact List.getElem_mem _)) w2) fun w3 x3 => iE20 (iE21 ?_)
    rw [hf.reach.open hf.en]
    refine iNe (iCndP (fun hne => ?_) (fun hne => ?_))
    · rw [if_neg hne] at hr
      refine ⟨?_, X2.trans x3⟩
      rw [← hr]
    · have hc : addC j (gt L i) = 0 := Classical.not_not.1 hne
      rw [if_pos hc] at hr
      obtain ⟨hb, -, -, L', hst⟩ := addC_zero hc
      have ha : addJ j (gt L i) = some ⟨L', j.ents ++ [gt L i], j.text ++ lineC j.chk (gt L i), j.hist ++ [L']⟩ := by unfold addJ; rw [hst]; rfl
      rw [ha] at hr
      refine iAdd (by omega) ?_
      have ht : appT j (gt L i) = j.text ++ lineC j.chk (gt L i) := by unfold appT; rw [if_pos hc]
      rw [ht]
      exact hKn (i + 1, ⟨L', j.ents ++ [gt L i], j.text ++ lineC j.chk (gt L i), j.hist ++ [L']⟩) _ ⟨hil, X2.trans x3, hf.add hc ha, hr⟩ (by show L.length - (i + 1) < L.length - i; omega)
  · have hd : L.drop i = [] := List.drop_of_length_le (by omega)
    rw [hd, replJ] at hr
    refine ⟨?_, X2⟩
    rw [← hr]
theorem iApE {lo q : Nat} {w : World} {u : Value} {E : List Ent} {e : Ent} {K : Value → World → Prop} (hlo : lo ≤ w.heap.size) (ho : EnW lo w u E) (hB : Blk t_impl_Entry w q e.cs) (hE : E.length ≤ 1048576) (h : ∀ u' w', EnW lo w' u' (E ++ [e]) → Ch (fun c => u.ownBlock = some c) w w' → K u' w') :
    xOp Tryz.prog (Builtin.append_ #[t_Simpl_Entry, t_Simpl_Entry] t_Simpl_Entry #[u, .slice (some ⟨q, 0, none⟩) 1 1]) w K := by
  refine iAppK u_Simpl_Entry i_Simpl_Entry rfl (by omega) ho (OwK.ofBlk (k := 3) (lo := 0) (n := 1) hB (Nat.zero_le _) rfl (by omega)).sl (fun u hu => by simp [Ent.cs] at hu; rcases hu with rfl | rfl | rfl <;> rfl) (by omega) (by omega) hlo fun v' w' h' hg _ => h v' w' ?_ (grown_ch hg fun c hc => hc)
  show OwK 3 lo _ w' v' (E ++ [e]).length (cellsE (E ++ [e]))
  rw [List.length_append, cellsE_app]
  exact h'
theorem ok_impl_compactEntries {v : Value} {L : List Itm} {w : World} (hs : SlIt w v L) (hL : L.length ≤ 12) : Cal Tryz.prog f_impl_compactEntries #[v] w fun r w' => Ext w w' ∧ EnW w.heap.size w' r (cpE L) := by
  apply c_impl_compactEntries; unfold S_impl_compactEntries
  refine iLenK hs ?_
  refine iLp (fun s : Value × Nat => [s.1, .int .i64 (s.2 : Int)]) (fun s w' => s.2 ≤ L.length ∧ Ext w w' ∧ EnW w.heap.size w' s.1 (cpE (L.take s.2))) (fun s => L.length - s.2) (.slice none 0 0, 0) rfl ⟨Nat.zero_le _, Ext.refl _, OwK.nil _ _ _ _⟩ ?_
  rintro ⟨u, k⟩ w2 Kn ⟨hk, x2, ho⟩ hKn
  have hk : k ≤ L.length := hk
  have ho : EnW w.heap.size w2 u (cpE (L.take k)) := ho
  have hcl : (cpE (L.take k)).length ≤ 24 := by have := cpE_len (L := L.take k); rw [List.length_take] at this; omega
  intro _
  simp only [gx]
  refine iLt (iCndP (fun hlt => ?_) (fun hlt => ?_))
  · have hkl : k < L.length := by omega
    have hsn := cpE_snoc hkl
    refine iItm (hs.ext x2) rfl hkl ?_
    generalize gt L k = x at hsn
    refine iNew3 fun q w3 hq x3 hB3 => ?_
    refine iSt3 hB3 rfl rfl rfl rfl fun w4 hB4 hc4 => ?_
    have x24 : Ext w2 w4 := x3.thenCh hc4 fun c hc => by omega
    have X4 := x2.trans x24
    refine iFa (iLdB hB4 rfl (iFa (iLdB hB4 rfl ?_)))
    refine iBuild (cs := #[.int .i64 1, sv x.nm, sv x.fm]) (by simp [Instr.fill, Value.cells]) ?_
    refine iBs31 fun q5 w5 hq5 x5 hB5 => ?_
    have X5 := X4.trans x5
    refine iApE (e := ⟨1, x.nm, x.fm⟩) X5.size ((ho.ext x24).ext x5) hB5 (by omega) fun u' w6 ho6 hc6 => ?_
    have hou : EnW w.heap.size w5 u (cpE (L.take k)) := (ho.ext x24).ext x5
    have X6 : Ext w w6 := X5.thenCh hc6 fun c hc => (hou.blk c hc).1
    have hB6 : Blk t_impl_Item w6 q _ := (hB4.ext x5).ch hc6 (hou.ne_blk (hB4.ext x5) (by decide))
    refine iFa (iLdB hB6 rfl (iEq (iCndP (fun h => ?_) (fun h => ?_))))
    · have hcp : cp1 x = [⟨1, x.nm, x.fm⟩, ⟨3, x.nm, []⟩] := by unfold cp1; rw [if_pos h]
      refine iFa (iLdB hB6 rfl ?_)
      refine iBuild (cs := #[.int .i64 3, sv x.nm, sv []]) (by simp [Instr.fill, Value.cells]) ?_
      refine iBs31 fun q7 w7 hq7 x7 hB7 => ?_
      have X7 := X6.trans x7
      refine iApE (e := ⟨3, x.nm, []⟩) X7.size (ho6.ext x7) hB7 (by rw [List.length_append]; simp only [List.length_cons, List.length_nil]; omega) fun u'' w8 ho8 hc8 => ?_
      refine iAdd (by omega) ?_
      refine hKn (u'', k + 1) _ ⟨hkl, X7.thenCh hc8 fun c hc => ((ho6.ext x7).blk c hc).1, ?_⟩ (by show L.length - (k + 1) < L.length - k; omega)
      show EnW _ w8 u'' (cpE (L.take (k + 1)))
      rw [hsn, hcp]
      rw [List.append_assoc] at ho8
      exact ho8
    · have hcp : cp1 x = [⟨1, x.nm, x.fm⟩] := by unfold cp1; rw [if_neg h]
      refine iAdd (by omega) ?_
      refine hKn (u', k + 1) _ ⟨hkl, X6, ?_⟩ (by show L.length - (k + 1) < L.length - k; omega)
      show EnW _ w6 u' (cpE (L.take (k + 1)))
      rw [hsn, hcp]
      exact ho6
  · have e : k = L.length := by omega
    subst e
    rw [List.take_length] at ho
    exact ⟨x2, ho⟩
end Go.Proofs.YtombcpghgdabaaaGreatDoor

/- Contracts: CompactNotebook in the program and in the reference, and its law. Conditions: the table of powers of ten. -/
namespace Go.Vc
theorem cpE_sz {L : List Itm} (h : JI L) : ∀ e ∈ cpE L, e.sz ≤ 1000 := by
  intro e he
  obtain ⟨x, hx, he⟩ := List.mem_flatMap.1 he
  obtain ⟨h1, h2, -, -⟩ := h.ok x hx
  have hn := nameOk_len h1
  have hf := goodT_len h2
  unfold cp1 at he
  rcases List.mem_cons.1 he with rfl | he
  · show x.nm.length + x.fm.length ≤ 1000; omega
  · split at he
    · rw [List.mem_singleton] at he
      subst he
      show x.nm.length + 0 ≤ 1000; omega
    · cases he
end Go.Vc
namespace Go.Proofs.YtombcpghgdabaaaGreatDoor
open Go.Vc
theorem ok_spec_l35Compact {v : Value} {L : List Itm} {w : World} (hs : SlIt w v L) (hL : L.length ≤ 1000) : Cal Tryz.prog f_spec_l35Compact #[v] w fun r w' => Ext w w' ∧ EnW w.heap.size w' r (cpE L) := by
  apply c_spec_l35Compact; unfold S_spec_l35Compact
  refine iBs03 fun v5 w1 x1 ho1 => ?_
  refine iLp (fun s : Value × Nat => [s.1, .int .i64 (s.2 : Int)]) (fun s w' => s.2 ≤ L.length ∧ Ext w w' ∧ EnW w.heap.size w' s.1 (cpE (L.take s.2))) (fun s => L.length - s.2) (v5, 0) rfl ⟨Nat.zero_le _, x1, ho1⟩ ?_
  rintro ⟨u, k⟩ w3 Kn ⟨hk, x3, ho⟩ hKn
  have hk : k ≤ L.length := hk
  have ho : EnW w.heap.size w3 u (cpE (L.take k)) := ho
  have hcl : (cpE (L.take k)).length ≤ 2 * k := by have := cpE_len (L := L.take k); rw [List.length_take] at this; omega
  intro _
  simp only [gx]
  have hs3 := hs.ext x3
  refine iLenK hs3 (iLt (iCndP (fun hlt => ?_) (fun hlt => ?_)))
  · have hkl : k < L.length := by omega
    have hsn := cpE_snoc hkl
    refine iNm hs3 rfl hkl (iFm hs3 rfl hkl ?_)
    refine iBuild (cs := #[.int .i64 1, sv (gt L k).nm, sv (gt L k).fm]) (by simp [Instr.fill, Value.cells]) ?_
    intro w4 x4
    refine iBs31 fun q5 w5 hq5 x5 hB5 => ?_
    intro w6 x6
    have x36 := (x4.trans x5).trans x6
    have X6 := x3.trans x36
    refine iApE (e := ⟨1, (gt L k).nm, (gt L k).fm⟩) X6.size (ho.ext x36) (hB5.ext x6) (by omega) fun u' w7 ho7 hc7 => ?_
    have X7 : Ext w w7 := X6.thenCh hc7 fun c hc => ((ho.ext x36).blk c hc).1
    intro w8 x8
    have X8 := X7.trans x8
    have ho8 := ho7.ext x8
    refine iCl (hs.ext X8) rfl hkl (iEq (iCndP (fun h => ?_) (fun h => ?_)))
    · have hcp : cp1 (gt L k) = [⟨1, (gt L k).nm, (gt L k).fm⟩, ⟨3, (gt L k).nm, []⟩] := by unfold cp1; rw [if_pos h]
      refine iNm (hs.ext X8) rfl hkl ?_
      refine iBuild (cs := #[.int .i64 3, sv (gt L k).nm, sv []]) (by simp [Instr.fill, Value.cells]) ?_
      refine iBs31 fun q9 w9 hq9 x9 hB9 => ?_
      have X9 := X8.trans x9
      refine iApE (e := ⟨3, (gt L k).nm, []⟩) X9.size (ho8.ext x9) hB9 (by rw [List.length_append]; simp only [List.length_cons, List.length_nil]; omega) fun u'' w10 ho10 hc10 => ?_
      refine iAdd (by omega) ?_
      refine hKn (u'', k + 1) _ ⟨hkl, X9.thenCh hc10 fun c hc => ((ho8.ext x9).blk c hc).1, ?_⟩ (by show L.length - (k + 1) < L.length - k; omega)
      show EnW _ w10 u'' (cpE (L.take (k + 1)))
      rw [hsn, hcp]
      rw [List.append_assoc] at ho10
      exact ho10
    · have hcp : cp1 (gt L k) = [⟨1, (gt L k).nm, (gt L k).fm⟩] := by unfold cp1; rw [if_neg h]
      refine iAdd (by omega) ?_
      refine hKn (u', k + 1) _ ⟨hkl, X8, ?_⟩ (by show L.length - (k + 1) < L.length - k; omega)
      show EnW _ w8 u' (cpE (L.take (k + 1)))
      rw [hsn, hcp]
      exact ho8
  · have e : k = L.length := by omega
    subst e
    rw [List.take_length] at ho
    exact ⟨x3, ho⟩
end Go.Proofs.YtombcpghgdabaaaGreatDoor

/- Contracts: MergeNotebooks in the program and in the reference, and its law. Conditions: the table of powers of ten. -/
namespace Go.Vc
theorem filterI_none {p : Itm → Bool} {L : List Itm} (h : ∀ j, j < L.length → p (gt L j) = false) : L.filter (fun x => !p x) = L := by
  rw [List.filter_eq_self]
  intro x hx
  obtain ⟨j, hj, rfl⟩ := List.getElem_of_mem hx
  rw [← gt_eq hj, h j hj]; rfl
/-- The items that are not among the first journal's names. -/
def mrgI (A B : List Itm) : List Itm := B.filter fun x => !hasI A x.nm
end Go.Vc
namespace Go.Proofs.YtombcpghgdabaaaGreatDoor
open Go.Vc
theorem ok_spec_l35PlaceR {v : Value} {L : List Itm} {n : Str} {w : World} (hs : SlIt w v L) (hI : IncI L) : Ret Tryz.prog f_spec_l35Place #[v, sv n] w (.tuple #[.int .i64 (posI L n : Int), .bool (hasI L n)]) :=
  (ok_spec_l35Place hs).mono fun r w' ⟨x, i, y, hr, hF⟩ => by
    rw [hr, hF.2.2 hI, pos_at hF.1.1 (hF.1.2 hI).1 (hF.1.2 hI).2]
    exact ⟨rfl, x⟩
theorem ok_impl_itemAtR {v : Value} {L : List Itm} {n : Str} {w : World} (hs : SlIt w v L) (hL : L.length ≤ 1099511627776) (hI : IncI L) : Ret Tryz.prog f_impl_itemAt #[v, sv n] w (.tuple #[.int .i64 (posI L n : Int), .bool (hasI L n)]) :=
  (ok_impl_itemAt hs hL).mono fun r w' ⟨x, i, y, hr, hF⟩ => by
    rw [hr, hF.2.2 hI, pos_at hF.1.1 (hF.1.2 hI).1 (hF.1.2 hI).2]
    exact ⟨rfl, x⟩
theorem ok_slices_IndexFuncI {v fv : Value} {L : List Itm} {p : Itm → Bool} {w0 w : World} (h0 : Ext w0 w) (hs : SlIt w v L) (hf : ∀ x ∈ L, ∀ w', Ext w0 w' → callV Tryz.prog fv [x.val] w' fun u w'' => u = .bool (p x) ∧ Ext w' w'') :
    Cal Tryz.prog f_slices_IndexFunc_Simpl_Item_impl_Item #[v, fv] w fun r w' => Ext w w' ∧ ((r = .int .i64 (-1) ∧ ∀ j, j < L.length → p (gt L j) = false) ∨ ∃ i : Nat, r = .int .i64 (i : Int) ∧ i < L.length ∧ p (gt L i) = true ∧ ∀ j, j < i → p (gt L j) = false) := by
  apply c_slices_IndexFunc_Simpl_Item_impl_Item; unfold S_slices_IndexFunc_Simpl_Item_impl_Item
  have hln := hs.len
  refine iLenK hs ?_
  refine iLp (fun i : Nat => [.int .i64 (i : Int)]) (fun i w' => i ≤ L.length ∧ Ext w w' ∧ ∀ j, j < i → p (gt L j) = false) (fun i => L.length - i) 0 rfl ⟨Nat.zero_le _, Ext.refl _, fun j hj => absurd hj (Nat.not_lt_zero j)⟩ ?_
  rintro i w2 Kn ⟨hi, x2, hno⟩ hKn
  intro _
  simp only [gx]
  refine iLt (iCndP (fun hlt => ?_) (fun hlt => ?_))
  · have hil : i < L.length := by omega
    refine iItm (hs.ext x2) rfl hil ?_
    refine (hf (gt L i) (by rw [gt_eq hil]; exact List.getElem_mem _) w2 (h0.trans x2)).mono ?_
    rintro u w3 ⟨rfl, x3⟩
    refine iCnd (fun h => ?_) (fun h => ?_)
    · exact ⟨x2.trans x3, .inr ⟨i, rfl, hil, h, hno⟩⟩
    · refine iAdd (by omega) ?_
      refine hKn (i + 1) _ ⟨hil, x2.trans x3, fun j hj => ?_⟩ (by omega)
      by_cases e : j = i
      · rw [e]; exact h
      · exact hno j (by omega)
  · exact ⟨x2, .inl ⟨by first | trivial | rfl, fun j hj => hno j (by omega)⟩⟩
theorem ok_slices_DeleteFuncI {v fv : Value} {L : List Itm} {p : Itm → Bool} {w0 w : World} (h0 : Ext w0 w) (hs : ItW w0.heap.size w v L) (hL : L.length ≤ 1048576) (hf : ∀ x ∈ L, ∀ w', Ext w0 w' → callV Tryz.prog fv [x.val] w' fun u w'' => u = .bool (p x) ∧ Ext w' w'') :
    Cal Tryz.prog f_slices_DeleteFunc_Simpl_Item_impl_Item #[v, fv] w fun r w' => Ext w0 w' ∧ ItW w0.heap.size w' r (L.filter fun x => !p x) := by
  apply c_slices_DeleteFunc_Simpl_Item_impl_Item; unfold S_slices_DeleteFunc_Simpl_Item_impl_Item
  refine iCall ((ok_slices_IndexFuncI h0 hs.sl hf).mono ?_)
  rintro r w1 ⟨x1, ⟨rfl, hno⟩ | ⟨i0, rfl, hi0, hp0, hno⟩⟩
  · refine iEq (iCndT (by decide) ⟨h0.trans x1, ?_⟩)
    rw [filterI_none hno]; exact hs.ext x1
  refine iEq (iCndF (by simp) ?_)
  refine iAdd (by omega) ?_
  have hs1 : ItW w0.heap.size w1 v L := hs.ext x1
  have X1 := h0.trans x1
  obtain ⟨g, cap, cur0, rfl, hg, hcap, hR0, hx0⟩ := hs1.rw (by omega)
  have hcm := hR0.2.2
  have hfl : ∀ j, L.take (j + 1) = L.take j ++ (if j < L.length then [gt L j] else []) := fun j => by
    split
    · rename_i h; rw [List.take_succ_eq_append_getElem h, gt_eq h]
    · rename_i h; rw [List.append_nil, List.take_of_length_le (by omega), List.take_of_length_le (by omega)]
  refine iLp (fun s : Nat × Nat => [.int .i64 (s.1 : Int), .int .i64 (s.2 : Int)]) (fun s w' => s.1 < s.2 ∧ s.2 ≤ L.length ∧ Ext w0 w' ∧ ∃ M cur, Rw t_impl_Item w' g cap cur ∧ cur.take (L.length * 3) = cellsI M ∧ M.length = L.length ∧ M.take s.1 = (L.take s.2).filter (fun x => !p x) ∧ ∀ k, s.2 ≤ k → gt M k = gt L k) (fun s => L.length - s.2) (i0, i0 + 1) rfl
    ⟨by show i0 < i0 + 1; omega, by show i0 + 1 ≤ _; omega, X1, L, cur0, hR0, hx0, rfl, ?_, fun _ _ => rfl⟩ ?_
  · show L.take i0 = (L.take (i0 + 1)).filter fun x => !p x
    rw [hfl, if_pos hi0, List.filter_append, List.filter_cons, hp0]
    have : (L.take i0).filter (fun x => !p x) = L.take i0 := filterI_none fun j hj => by
      rw [List.length_take] at hj
      rw [gt_eq (by rw [List.length_take]; omega), List.getElem_take, ← gt_eq (by omega)]; exact hno j (by omega)
    rw [this]; simp
  rintro ⟨i, j⟩ w3 Kn ⟨hij, hj, X3, M, cur, hR, hx, hM, hMt, hMe⟩ hKn
  have hij : i < j := hij
  have hj : j ≤ L.length := hj
  have hMt : M.take i = (L.take j).filter (fun x => !p x) := hMt
  have hMe : ∀ k, j ≤ k → gt M k = gt L k := hMe
  have hcl := hR.2.1
  intro _
  simp only [gx]
  refine iLenL (iLt (iCndP (fun h3 => ?_) (fun h3 => ?_)))
  · have hjl : j < L.length := by omega
    have hsl : SlIt w3 (.slice (some ⟨g, 0, none⟩) L.length cap) M := by
      have := (hR.own (lo := 0) (n := L.length) (Nat.zero_le _) hcap hx).sl
      show SlK 3 w3 _ M.length (cellsI M)
      rw [hM]; exact this
    refine iItm hsl rfl (by omega) ?_
    rw [hMe j (Nat.le_refl _)]
    refine iNew3 fun q w4 hq x4 hB4 => ?_
    refine iSt3 hB4 rfl rfl rfl rfl fun w5 hB5 hc5 => ?_
    have x35 : Ext w3 w5 := x4.thenCh hc5 fun c hc => by omega
    have X5 := X3.trans x35
    refine iLd3 hB5 ?_
    refine (hf (gt L j) (by rw [gt_eq hjl]; exact List.getElem_mem _) w5 X5).mono ?_
    rintro u w6 ⟨rfl, x6⟩
    have X6 := X5.trans x6
    have hR6 := (hR.ext x35).ext x6
    have hfj : (L.take (j + 1)).filter (fun x => !p x) = (L.take j).filter (fun x => !p x) ++ if p (gt L j) then [] else [gt L j] := by
      rw [hfl, if_pos hjl, List.filter_append, List.filter_cons]
      cases p (gt L j) <;> simp
    refine iNot (iCnd (fun h4 => ?_) (fun h4 => ?_))
    · rw [show p (gt L j) = false by simpa using h4] at hfj
      refine iLd3 (hB5.ext x6) ?_
      refine iStR (n := L.length) hR6 (by omega) hcap rfl rfl rfl fun w7 hR7 hc7 => ?_
      refine iAdd (by omega) (iAdd (by omega) ?_)
      refine hKn (i + 1, j + 1) _ ⟨by show i + 1 < j + 1; omega, hjl, X6.thenCh hc7 fun c hc => by omega, M.set i (gt L j), _, hR7, ?_, by rw [List.length_set]; exact hM, ?_, fun k hk => ?_⟩ (by show L.length - (j + 1) < L.length - j; omega)
      · rw [cellsI_set _ (by omega), ← hx, ← putL_in (by show i * 3 + 3 ≤ _; omega) (by omega)]
        rfl
      · show (M.set i (gt L j)).take (i + 1) = (L.take (j + 1)).filter fun x => !p x
        rw [hfj, List.take_succ_eq_append_getElem (by rw [List.length_set]; omega), List.getElem_set_self, List.take_set_of_le (Nat.le_refl _), hMt]
        rfl
      · have hk : j + 1 ≤ k := hk
        rw [gt_set _ (by omega), if_neg (by omega)]
        exact hMe k (by omega)
    · rw [show p (gt L j) = true by simpa using h4] at hfj
      refine iAdd (by omega) ?_
      refine hKn (i, j + 1) _ ⟨by show i < j + 1; omega, hjl, X6, M, cur, hR6, hx, hM, ?_, fun k hk => hMe k (by have hk : j + 1 ≤ k := hk; omega)⟩ (by show L.length - (j + 1) < L.length - j; omega)
      show M.take i = _
      rw [hfj, hMt]; simp
  · have hend : j = L.length := by omega
    subst hend
    rw [List.take_length] at hMt
    refine iT3 (l := i) (by omega) hcap fun o' ho' => ?_
    have ho' := ho' (by omega)
    refine iClr3 (l := i) u_Simpl_Item i_Simpl_Item rfl (by simp [Value.cells, isCell]) hR (by omega) (by omega) (by omega) fun ys w8 hys hR8 hc8 => ?_
    refine iH3 (k := i) (by omega) ⟨X3.thenCh hc8 fun c hc => by omega, ?_⟩
    have hml : (L.filter fun x => !p x).length = i := by rw [← hMt, List.length_take]; omega
    show OwK 3 _ _ w8 _ (L.filter fun x => !p x).length _
    rw [hml, ← hMt, ← cellsI_take, ← hx, List.take_take, Nat.min_eq_left (by omega)]
    refine hR8.own hg (by omega) ?_
    rw [putL_low (by omega) (by omega)]
end Go.Proofs.YtombcpghgdabaaaGreatDoor

/- Contracts: MergeNotebooks in the program and in the reference, and its law. Conditions: the table of powers of ten. -/
namespace Go.Vc
theorem JI.filter {L : List Itm} (h : JI L) (p : Itm → Bool) : JI (L.filter p) :=
  ⟨Nat.le_trans (List.length_filter_le _ _) h.len, h.inc.sublist (List.filter_sublist), fun x hx => h.ok x (List.mem_filter.1 hx).1⟩
theorem open_fit {t : Str} (ht : t.length ≤ 4194304) (hen : (openJ t).ents.length ≤ 60) (htl : (openJ t).text.length ≤ t.length) : Fit2 (openJ t) := ⟨open_reach t, hen, by omega⟩
theorem mrgI_snoc {A B : List Itm} {k : Nat} (hk : k < B.length) : mrgI A (B.take (k + 1)) = mrgI A (B.take k) ++ if hasI A (gt B k).nm then [] else [gt B k] := by
  unfold mrgI
  rw [List.take_succ_eq_append_getElem hk, List.filter_append, ← gt_eq hk]
  congr 1
  cases h : hasI A (gt B k).nm <;> simp [h]
end Go.Vc
namespace Go.Proofs.YtombcpghgdabaaaGreatDoor
open Go.Vc
theorem iApI {lo q : Nat} {w : World} {u : Value} {E : List Itm} {e : Itm} {K : Value → World → Prop} (hlo : lo ≤ w.heap.size) (ho : ItW lo w u E) (hB : Blk t_impl_Item w q e.cs) (hE : E.length ≤ 1048576) (h : ∀ u' w', ItW lo w' u' (E ++ [e]) → Ch (fun c => u.ownBlock = some c) w w' → K u' w') :
    xOp Tryz.prog (Builtin.append_ #[t_Simpl_Item, t_Simpl_Item] t_Simpl_Item #[u, .slice (some ⟨q, 0, none⟩) 1 1]) w K := by
  refine iAppK u_Simpl_Item i_Simpl_Item rfl (by omega) ho (ItmS hB) (itm_cell e) (by omega) (by omega) hlo fun v' w' h' hg _ => h v' w' ?_ (grown_ch hg fun c hc => hc)
  show OwK 3 lo _ w' v' (E ++ [e]).length (cellsI (E ++ [e]))
  rw [List.length_append, cellsI_app]
  exact h'
theorem ok_impl_MergeNotebooks {t s : Str} (ht : t.length ≤ 4194304) (hs : s.length ≤ 4194304) {w : World} (hT : TabOk w) : Ret Tryz.prog f_impl_MergeNotebooks #[sv t, sv s] w (.tuple #[sv (replJ (openJ t) (cpE (mrgI (openJ t).items (openJ s).items))).1, .int .i64 (replJ (openJ t) (cpE (mrgI (openJ t).items (openJ s).items))).2]) := by
  apply c_impl_MergeNotebooks; unfold S_impl_MergeNotebooks
  refine iCall ((ok_impl_goodPart ht hT).mono ?_)
  rintro r w1 ⟨x1, b, vi, ve, rfl, hj, hen, htl⟩
  refine iNew fun q w2 hq x2 hB2 => ?_
  refine iStU hB2 (by simp [Value.cells]) rfl fun w3 hB3 hu3 => ?_
  have hQ3 : Blk 63 w3 q [.pointer (some ⟨b, 0, none⟩)] := by simpa [Value.cells] using hB3
  have x13 : Ext w1 w3 := x2.thenCh (hu3.ch (S := fun c => c = q) rfl) fun c hc => by omega
  have X3 := x1.trans x13
  have hj3 := hj.ext x13
  refine iCall ((ok_impl_goodPart hs (hT.ext X3)).mono ?_)
  rintro r w4 ⟨x4, b', vi', ve', rfl, hj', hen', htl'⟩
  refine iNil (iFa (iLdB hj'.blk rfl ?_))
  have hAl := hj.ji.len
  have hBl := hj'.ji.len
  refine iCall ((ok_slices_DeleteFuncI (p := fun x => hasI (openJ t).items x.nm) x4 hj'.it (by omega) fun x hx w' hw' => iClo rfl ?_).mono ?_)
  · show Cal Tryz.prog f_impl_MergeNotebooks_1 #[x.val, .pointer (some ⟨q, 0, none⟩)] w' _
    apply c_impl_MergeNotebooks_1; unfold S_impl_MergeNotebooks_1
    refine iNew3 fun q1 w5 hq1 x5 hB5 => ?_
    have x35 := hw'.trans x5
    have hjx := hj3.ext x35
    refine iLdB (hQ3.ext x35) rfl ?_
    refine iNil (iFa (iLdB hjx.blk rfl (iFa (iLdB hB5 rfl ?_))))
    refine iRetQ (fun w'' hw'' => ok_impl_itemAtR (hjx.it.ext hw'').sl (by omega) hj.ji.incI) ?_
    refine iE20 (iE21 ?_)
    intro w6 x6
    exact ⟨by first | trivial | rfl, x5.trans x6⟩
  · rintro v16 w5 ⟨x35, h5⟩
    have hmI : JI (mrgI (openJ t).items (openJ s).items) := hj'.ji.filter _
    have h5 : ItW w3.heap.size w5 v16 (mrgI (openJ t).items (openJ s).items) := h5
    generalize mrgI (openJ t).items (openJ s).items = M at hmI h5 ⊢
    refine iLdB (hQ3.ext x35) rfl ?_
    intro w6 x6
    refine iCall ((ok_impl_compactEntries (h5.ext x6).sl hmI.len).mono ?_)
    rintro v19 w7 ⟨x7, h7⟩
    refine ⟨x7, ?_⟩
    intro w8 x8
    have x38 := ((x35.trans x6).trans x7).trans x8
    have hb1 := heap_lt hj3.blk
    have s36 := (x35.trans x6).size
    refine iCall ((ok_impl_journal_added2 (X3.trans x38) (hj3.ext x38) (open_fit ht hen htl) (h7.ext x8) (fun D hD => ?_) (fun e he => by have := cpE_sz hmI e he; omega) hT).mono ?_)
    · have h1 := (h7.ext x8).blk D hD
      refine ⟨h1.2, by omega, fun h => ?_, fun h => ?_⟩
      · have := (hj3.it.blk D h).2; omega
      · have := (hj3.en.blk D h).2; omega
    · rintro r w9 ⟨X9, rfl⟩
      refine iE20 (iE21 ?_)
      intro w10 x10
      exact ⟨rfl, X9.trans x10⟩
theorem ok_spec_MergeNotebooks {t s : Str} (ht : t.length ≤ 4194304) (hs : s.length ≤ 4194304) (w : World) : Ret Tryz.prog f_spec_MergeNotebooks #[sv t, sv s] w (.tuple #[sv (replJ (openJ t) (cpE (mrgI (openJ t).items (openJ s).items))).1, .int .i64 (replJ (openJ t) (cpE (mrgI (openJ t).items (openJ s).items))).2]) := by
  apply c_spec_MergeNotebooks; unfold S_spec_MergeNotebooks
  refine iCall ((ok_spec_l35Open ht w).mono ?_)
  rintro r w1 ⟨x1, vs, ve, rfl, hL, hen, htk⟩
  refine iCall ((ok_spec_l35Open hs w1).mono ?_)
  rintro r w2 ⟨x2, vs', ve', rfl, hL', hen', htk'⟩
  refine iCall ((ok_spec_l35Last hL').mono ?_)
  rintro v18 w3 ⟨x3, hi⟩
  have x13 := x2.trans x3
  have hL3 := hL.ext x13
  refine iNew3 fun q6 w4 hq6 x4 hB4 => ?_
  refine iSt3 hB4 rfl hL.st.cell hL.en.cell rfl fun w5 hB5 hc5 => ?_
  have s13 := x13.size
  have x35 : Ext w3 w5 := x4.thenCh hc5 fun c hc => by omega
  have X5 := (x1.trans x13).trans x35
  have hL5 := hL3.ext x35
  have hi5 := hi.ext x35
  have hAl := hL.ji.len
  have hBl := hL'.ji.len
  have htl : (openJ t).text.length ≤ t.length := by
    have := congrArg List.length htk
    rw [List.length_take] at this; omega
  have hmI : JI (mrgI (openJ t).items (openJ s).items) := hL'.ji.filter _
  have hfit := open_fit ht hen htl
  refine iBs03 fun v19 w6 x6 ho6 => ?_
  refine iLp (fun z : Value × Nat => [z.1, .int .i64 (z.2 : Int)]) (fun z w' => z.2 ≤ (openJ s).items.length ∧ Ext w5 w' ∧ ItW w5.heap.size w' z.1 (mrgI (openJ t).items ((openJ s).items.take z.2))) (fun z => (openJ s).items.length - z.2) (v19, 0) rfl ⟨Nat.zero_le _, x6, ho6⟩ ?_
  rintro ⟨u, k⟩ w8 Kn ⟨hk, x8, ho⟩ hKn
  have hk : k ≤ (openJ s).items.length := hk
  have ho : ItW w5.heap.size w8 u (mrgI (openJ t).items ((openJ s).items.take k)) := ho
  have hol : (mrgI (openJ t).items ((openJ s).items.take k)).length ≤ 12 := by
    have : (mrgI (openJ t).items ((openJ s).items.take k)).length ≤ ((openJ s).items.take k).length := List.length_filter_le _ _
    rw [List.length_take] at this
    omega
  intro _
  simp only [gx]
  have hi8 := (hi5.ext x8).sl
  have hB8 := hB5.ext x8
  refine iLenK hi8 (iLt (iCndP (fun hlt => ?_) (fun hlt => ?_)))
  · have hkl : k < (openJ s).items.length := by omega
    have hsn := mrgI_snoc (A := (openJ t).items) hkl
    refine iLd3 hB8 (iNm hi8 rfl hkl ?_)
    intro w9 x9
    refine iCall ((ok_spec_l35Last (hL5.ext (x8.trans x9))).mono ?_)
    rintro v28 w10 ⟨x10, hA⟩
    refine ⟨x10, ?_⟩
    refine iRetQ (fun w' hw' => ok_spec_l35PlaceR (hA.ext hw').sl hL.ji.incI) ?_
    refine iE20 (iE21 ?_)
    intro w11 x11
    have x811 := (x9.trans x10).trans x11
    have X11 := x8.trans x811
    refine iNot (iCnd (fun h => ?_) (fun h => ?_))
    · rw [Bool.not_eq_true'] at h
      rw [h] at hsn
      refine iItm (hi5.ext X11).sl rfl hkl ?_
      refine iBs31 fun q12 w12 hq12 x12 hB12 => ?_
      have X12 := X11.trans x12
      have ho12 := ho.ext (x811.trans x12)
      refine iApI (e := gt (openJ s).items k) X12.size ho12 hB12 (by omega) fun u' w13 ho13 hc13 => ?_
      refine iAdd (by omega) ?_
      refine hKn (u', k + 1) _ ⟨hkl, X12.thenCh hc13 fun c hc => (ho12.blk c hc).1, ?_⟩ (by show (openJ s).items.length - (k + 1) < (openJ s).items.length - k; omega)
      show ItW _ w13 u' (mrgI (openJ t).items ((openJ s).items.take (k + 1)))
      rw [hsn]
      exact ho13
    · rw [Bool.not_eq_false'] at h
      rw [h, if_pos rfl, List.append_nil] at hsn
      refine iAdd (by omega) ?_
      refine hKn (u, k + 1) _ ⟨hkl, X11, ?_⟩ (by show (openJ s).items.length - (k + 1) < (openJ s).items.length - k; omega)
      show ItW _ w11 u (mrgI (openJ t).items ((openJ s).items.take (k + 1)))
      rw [hsn]
      exact ho.ext x811
  · have e : k = (openJ s).items.length := by omega
    subst e
    rw [List.take_length] at ho hol
    refine iFa (iLdB hB8 rfl ?_)
    refine iTxTo htl ?_
    rw [htk]
    intro w14 x14
    refine iCall ((ok_spec_l35Compact (ho.ext x14).sl (by omega)).mono ?_)
    rintro v52 w15 ⟨x15, h15⟩
    refine ⟨x15, ?_⟩
    refine iRetQ (fun w' hw' => ok_spec_l35Replay2 (j0 := openJ t) hfit (h15.ext hw').sl (fun e he => by have := cpE_sz hmI e he; omega)) ?_
    refine iE20 (iE21 ?_)
    intro w16 x16
    exact ⟨rfl, (((X5.trans x8).trans x14).trans x15).trans x16⟩
theorem ok_laws_FnExactMergeNotebooks {w : World} (hT : TabOk w) (t s : Str) : Ret Tryz.prog f_laws_FnExactMergeNotebooks #[sv t, sv s] w (.bool true) := by
  apply c_laws_FnExactMergeNotebooks; unfold S_laws_FnExactMergeNotebooks
  refine iLenT (iLt (iCndP (fun _ => ⟨by first | trivial | rfl, Ext.refl _⟩) (fun h1 => ?_)))
  refine iLenT (iLt (iCndP (fun _ => ⟨by first | trivial | rfl, Ext.refl _⟩) (fun h2 => ?_)))
  refine iRet (ok_spec_MergeNotebooks (t := t) (s := s) (by omega) (by omega) w) fun w1 x1 => iE20 (iE21 ?_)
  refine iRet (ok_impl_MergeNotebooks (t := t) (s := s) (by omega) (by omega) (hT.ext x1)) fun w2 x2 => iE20 (iE21 ?_)
  refine iJnB false w2 (fun J hJ => ?_) (fun w4 x4 => ?_)
  · refine iNeT (iCndF (decide_eq_false fun h => h rfl) (iNe ?_))
    rw [decide_eq_false (fun h => h rfl)]
    exact hJ _ (Ext.refl _)
  · intro _
    simp only [gx]
    exact iCndF rfl ⟨by first | trivial | rfl, (x1.trans x2).trans x4⟩
end Go.Proofs.YtombcpghgdabaaaGreatDoor
