/- The proof of FnExactCoreOf, part 4 of 5. Conditions: none. -/
import Derived.Test.YtfhdhdgabdpmkaaGreatKR33c
import Derived.Laws.Slices
/- Memory: rows of a count and a slice that a call turns in place; how such rows are compared. Conditions: none. -/
namespace Go.Vc
/-- A row of cap elements of two cells, whole. -/
def Rx (e : TypeId) (w : World) (g cap : Nat) (cur : List Value) : Prop := Blk e w g cur ∧ cur.length = cap * 2 ∧ cap ≤ 9223372036854775807
theorem OwK.rx {lo n : Nat} {e : TypeId} {w : World} {v : Value} {xs : List Value} (h : OwK 2 lo e w v n xs) (hn : 0 < n) :
    ∃ g cap cur, v = .slice (some ⟨g, 0, none⟩) n cap ∧ lo ≤ g ∧ n ≤ cap ∧ Rx e w g cap cur ∧ cur.take (n * 2) = xs := by
  obtain ⟨_, ⟨_, h0⟩ | ⟨g, cap, cur, hv, hg, hh, h1, h2, h3, h4⟩⟩ := h
  · omega
  · exact ⟨g, cap, cur.toList, hv, hg, h1, ⟨by unfold Blk; rw [Array.toArray_toList]; exact hh, by simpa using h3, h2⟩, h4⟩
section
variable {P : Program} {w : World} {e : TypeId} {g cap : Nat} {cur : List Value}
theorem Rx.own {lo n : Nat} {xs : List Value} (h : Rx e w g cap cur) (hl : lo ≤ g) (hn : n ≤ cap) (hx : cur.take (n * 2) = xs) : OwK 2 lo e w (.slice (some ⟨g, 0, none⟩) n cap) n xs :=
  ⟨by rw [← hx, List.length_take, h.2.1]; omega, .inr ⟨g, cap, cur.toArray, rfl, hl, h.1, hn, h.2.2, by simpa using h.2.1, by simpa using hx⟩⟩
theorem Rx.ext {w' : World} (h : Rx e w g cap cur) (x : Ext w w') : Rx e w' g cap cur := ⟨h.1.ext x, h.2⟩
theorem Rx.cell (h : Rx e w g cap cur) (i : Nat) : w.cell? ⟨g, i, none⟩ = cur[i]? := by
  have := h.1
  unfold Blk at this
  simp [World.cell?, this]
theorem Rx.sl (h : Rx e w g cap cur) {l m c o : Nat} (ho : 0 < m → o = l * 2) (hm : l + m ≤ cap) (hc : m ≤ c) (hcm : c ≤ 9223372036854775807) : SlK 2 w (.slice (some ⟨g, o, none⟩) m c) m ((cur.drop (l * 2)).take (m * 2)) := by
  rcases Nat.eq_zero_or_pos m with rfl | h0
  · exact ⟨by simp, _, c, rfl, hc, hcm, .inl rfl⟩
  · have ho := ho h0
    subst ho
    refine ⟨by rw [List.length_take, List.length_drop, h.2.1]; omega, _, c, rfl, hc, hcm, .inr ⟨g, l * 2, rfl, fun i hi => ?_⟩⟩
    rw [h.cell (l * 2 + i), List.getElem?_take, if_pos hi, List.getElem?_drop]
/-- A part of a list put anew. -/
def putX (cur : List Value) (o : Nat) (ys : List Value) : List Value := cur.take o ++ ys ++ cur.drop (o + ys.length)
theorem putX_len {cur : List Value} {o : Nat} {ys : List Value} (h : o + ys.length ≤ cur.length) : (putX cur o ys).length = cur.length := by
  unfold putX; rw [List.length_append, List.length_append, List.length_take, List.length_drop]; omega
theorem putX_take {cur : List Value} {o n : Nat} {ys : List Value} (h : o + ys.length ≤ cur.length) (hn : n = o + ys.length) : (putX cur o ys).take n = cur.take o ++ ys := by
  unfold putX
  have hl : (cur.take o ++ ys).length = n := by rw [List.length_append, List.length_take]; omega
  rw [List.take_append_of_le_length (by omega), List.take_of_length_le (by omega)]
theorem putX_low {cur : List Value} {o n : Nat} {ys : List Value} (h : o + ys.length ≤ cur.length) (hn : n ≤ o) : (putX cur o ys).take n = cur.take n := by
  unfold putX
  rw [List.append_assoc, List.take_append_of_le_length (by rw [List.length_take]; omega), List.take_take, Nat.min_eq_left hn]
theorem Rx.set (h : Rx e w g cap cur) {cur' : List Value} (hl : cur'.length = cur.length) : Rx e (w.setRow g cur'.toArray) g cap cur' ∧ Ch (fun c => c = g) w (w.setRow g cur'.toArray) :=
  ⟨⟨setRow_heap w g cur.toArray _ e (0, 0) h.1, by rw [hl]; exact h.2.1, h.2.2⟩, ⟨rfl, rfl, rfl, by rw [setRow_size]; exact Nat.le_refl _, fun c _ hc => setRow_other w g c _ hc⟩⟩
theorem SlK.srcX {k m : Nat} {x : Value} {ys : List Value} (hs : SlK k w x m ys) : ∃ a c, x = .slice a m c ∧ ys.length = m * k ∧ ((a = none ∧ m = 0) ∨ ∃ ad, a = some ad ∧ ∀ j u, ys[j]? = some u → w.cell? (ad.add j) = some u) := by
  obtain ⟨hyl, a, c, rfl, hlc, hcm, hcells⟩ := hs
  refine ⟨a, c, rfl, hyl, ?_⟩
  rcases hcells with rfl | ⟨b, o, rfl, hc⟩
  · cases a with
    | none => exact .inl ⟨rfl, rfl⟩
    | some ad =>
      refine .inr ⟨ad, rfl, fun j u hu => ?_⟩
      have : ys = [] := List.length_eq_zero_iff.1 (by omega)
      rw [this] at hu; simp at hu
  · refine .inr ⟨_, rfl, fun j u hu => ?_⟩
    have hj : j < ys.length := (List.getElem?_eq_some_iff.1 hu).1
    rw [addr_add, hc j (by omega), hu]
/-- 'append(s, x...)' where s has room. -/
theorem iAppRx {t ty : TypeId} {i m bytes : Nat} {x z : Value} {ys : List Value} {K : Value → World → Prop} (ht : P.underlying t = some (.slice e)) (hi : (P.info? e).map (fun i => (i.zero, i.size, i.bytes)) = some (some z, 2, bytes))
    (hR : Rx e w g cap cur) (hs : SlK 2 w x m ys) (hy : ∀ u ∈ ys, isCell u = true) (hroom : i + m ≤ cap)
    (h : ∀ w', Rx e w' g cap (putX cur (i * 2) ys) → Ch (fun c => c = g) w w' → K (.slice (some ⟨g, 0, none⟩) (i + m) cap) w') :
    xOp P (Builtin.append_ #[t, t] ty #[.slice (some ⟨g, 0, none⟩) i cap, x]) w K := by
  obtain ⟨inf, hi, h3⟩ := Option.map_eq_some_iff.1 hi
  simp only [Prod.mk.injEq] at h3
  obtain ⟨-, hsz, -⟩ := h3
  obtain ⟨a, c, rfl, hyl, ⟨rfl, rfl⟩ | ⟨ad, rfl, hsrc⟩⟩ := hs.srcX
  · have : ys = [] := List.length_eq_zero_iff.1 (by omega)
    subst this
    refine ⟨_, w, ?_, h w (by simpa [putX] using hR) ⟨rfl, rfl, rfl, Nat.le_refl _, fun _ _ _ => rfl⟩⟩
    have : i ≤ cap := by omega
    simp [Builtin.append_, run_underlying ht, sizeOf, typeInfo, hi, Builtin.lenOf, Builtin.firstCells, this, storeCells]
  · have hl3 := hR.2.1
    have hr := run_append_room (P := P) w t ty e inf ht hi g i cap cur.toArray hR.1 ad m c ys (by rw [hsz]; exact hyl) hsrc (fun u hu => isCell_one (hy u hu)) hroom (by simp [hsz]; omega)
    rw [hsz] at hr
    obtain ⟨h1, h2⟩ := hR.set (cur' := putX cur (i * 2) ys) (putX_len (by omega))
    exact ⟨_, _, hr, h _ h1 h2⟩
/-- 'clear' of n elements. -/
theorem iClrX {t ty : TypeId} {o l n c bytes : Nat} {z : Value} {K : Value → World → Prop} (ht : P.underlying t = some (.slice e)) (hi : (P.info? e).map (fun i => (i.zero, i.size, i.bytes)) = some (some z, 2, bytes)) (hz : z.cells.size = 2) (hzc : ∀ u ∈ z.cells.toList, isCell u = true)
    (hR : Rx e w g cap cur) (ho : o = l * 2) (hn : 0 < n) (hfit : l + n ≤ cap)
    (h : ∀ ys w', ys.length = n * 2 → Rx e w' g cap (putX cur (l * 2) ys) → Ch (fun c => c = g) w w' → K (.tuple #[]) w') :
    xOp P (Builtin.clear_ #[t] ty #[.slice (some ⟨g, o, none⟩) n c]) w K := by
  subst ho
  obtain ⟨inf, hi, h3⟩ := Option.map_eq_some_iff.1 hi
  simp only [Prod.mk.injEq] at h3
  obtain ⟨hz0, hsz, -⟩ := h3
  have hl3 := hR.2.1
  have hzl : (Builtin.zeroCells z.cells n).toList.length = n * 2 := by rw [Array.length_toList, size_zeroCells, hz]
  have hst := run_storeCells_at P g (l * 2) e (Builtin.zeroCells z.cells n).toList 0 cur.toArray w hR.1 (by simp only [List.size_toArray]; omega) (fun u hu => isCell_one (by
    obtain ⟨i, hi, rfl⟩ := List.getElem_of_mem hu
    rw [hzl] at hi
    simp only [Builtin.zeroCells, Array.getElem_toList, Array.getElem_map]
    refine hzc _ ?_
    have hlt : (Array.range (n * z.cells.size))[i]'(by rw [Array.size_range, hz]; exact hi) % z.cells.size < z.cells.size := Nat.mod_lt _ (by omega)
    rw [getElem!_pos z.cells _ hlt]
    simp))
  obtain ⟨h1, h2⟩ := hR.set (cur' := putX cur (l * 2) (Builtin.zeroCells z.cells n).toList) (putX_len (by omega))
  simp only [Nat.add_zero] at hst
  refine ⟨_, _, ?_, h _ _ hzl h1 h2⟩
  obtain ⟨m, rfl⟩ : ∃ m, n = m + 1 := ⟨n - 1, by omega⟩
  simp [Builtin.clear_, run_underlying ht, zeroValue, run_info hi, hz0, hst, putX]
end
/-! ### Parts of slices of elements of two cells -/
theorem iTX {g o n c l : Nat} {ki : IntKind} {K : Value → Prop} (hl : l ≤ n) (hc : n ≤ c) (h : ∀ o', (l < c → o' = o + l * 2) → K (.slice (some ⟨g, o', none⟩) (n - l) (c - l))) : xSl 2 (.slice (some ⟨g, o, none⟩) n c) (some (.int ki (l : Int))) none K := by
  refine ⟨_, _, _, l, n, rfl, rfl, ⟨ki, rfl⟩, hl, hc, ?_⟩
  split
  · rename_i e
    exact h o (fun hlt => by omega)
  · rw [Option.map_some, addr_add]
    exact h _ fun _ => rfl
theorem iHX {g o n c k : Nat} {ki : IntKind} {K : Value → Prop} (hk : k ≤ c) (h : K (.slice (some ⟨g, o, none⟩) k c)) : xSl 2 (.slice (some ⟨g, o, none⟩) n c) none (some (.int ki (k : Int))) K := by
  refine ⟨_, _, _, 0, k, rfl, ⟨ki, rfl⟩, rfl, Nat.zero_le _, hk, ?_⟩
  have e : (if c = 0 then some (⟨g, o, none⟩ : Addr) else (some (⟨g, o, none⟩ : Addr)).map (·.add (0 * 2))) = some ⟨g, o, none⟩ := by
    split
    · rfl
    · rw [Option.map_some, addr_add, Nat.zero_mul, Nat.add_zero]
  rw [e, Nat.sub_zero, Nat.sub_zero]
  exact h
theorem iMX {g o n c l k : Nat} {ki kj : IntKind} {K : Value → Prop} (hl : l ≤ k) (hk : k ≤ c) (hlc : l < c) (h : K (.slice (some ⟨g, o + l * 2, none⟩) (k - l) (c - l))) : xSl 2 (.slice (some ⟨g, o, none⟩) n c) (some (.int ki (l : Int))) (some (.int kj (k : Int))) K := by
  refine ⟨_, _, _, l, k, rfl, ⟨kj, rfl⟩, ⟨ki, rfl⟩, hl, hk, ?_⟩
  rw [if_neg (by omega), Option.map_some, addr_add]
  exact h
/-! ### Rows of a count and a slice -/
/-- An element: a count, a slice, and what the slice holds. -/
abbrev PR := Int × Value × List Int
def keyR (r : PR) : Int × List Int := (r.1, r.2.2)
instance : Inhabited PR := ⟨(0, .slice none 0 0, [])⟩
def valR (r : PR) : Value := .agg #[.int .i64 r.1, r.2.1]
def cellsR (L : List PR) : List Value := L.flatMap fun r => [.int .i64 r.1, r.2.1]
theorem cellsR_app (A B : List PR) : cellsR (A ++ B) = cellsR A ++ cellsR B := by simp [cellsR]
theorem cellsR_len : ∀ L : List PR, (cellsR L).length = L.length * 2
  | [] => rfl
  | a :: L => by
    have := cellsR_len L
    have e : cellsR (a :: L) = [.int .i64 a.1, a.2.1] ++ cellsR L := rfl
    rw [e, List.length_append, this, List.length_cons, List.length_cons, List.length_cons, List.length_nil]; omega
theorem cellsR_at (L : List PR) {i : Nat} (hi : i < L.length) : (cellsR L)[i * 2]? = some (.int .i64 (gt L i).1) ∧ (cellsR L)[i * 2 + 1]? = some (gt L i).2.1 := by
  have := flat2_get (fun r : PR => Value.int .i64 r.1) (fun r => r.2.1) L i (gt L i) (by rw [gt_eq hi]; exact List.getElem?_eq_getElem hi)
  rw [show i * 2 = 2 * i by omega]
  exact this
theorem cellsR_set : ∀ (L : List PR) (j : Nat) (r : PR), j < L.length → ((cellsR L).set (j * 2) (.int .i64 r.1)).set (j * 2 + 1) r.2.1 = cellsR (L.set j r)
  | [], j, r, h => by simp at h
  | a :: L, 0, r, _ => rfl
  | a :: L, j + 1, r, h => by
    have := cellsR_set L j r (by simpa using h)
    have e : cellsR (a :: L) = .int .i64 a.1 :: a.2.1 :: cellsR L := rfl
    have e2 : cellsR ((a :: L).set (j + 1) r) = .int .i64 a.1 :: a.2.1 :: cellsR (L.set j r) := rfl
    rw [e, e2, ← this, show (j + 1) * 2 = j * 2 + 1 + 1 by omega]
    rfl
theorem cellsR_take (L : List PR) (k : Nat) : (cellsR L).take (k * 2) = cellsR (L.take k) := by
  rcases Nat.lt_or_ge L.length k with h | h
  · rw [List.take_of_length_le (by rw [cellsR_len]; omega), List.take_of_length_le (by omega)]
  · conv => lhs; rw [← List.take_append_drop k L, cellsR_app]
    rw [List.take_append_of_le_length (by rw [cellsR_len, List.length_take]; omega), List.take_of_length_le (by rw [cellsR_len, List.length_take]; omega)]
theorem cellsR_drop (L : List PR) (k : Nat) : (cellsR L).drop (k * 2) = cellsR (L.drop k) := by
  rcases Nat.lt_or_ge L.length k with h | h
  · rw [List.drop_of_length_le (by rw [cellsR_len]; omega), List.drop_of_length_le (by omega)]; rfl
  · conv => lhs; rw [← List.take_append_drop k L, cellsR_app]
    rw [List.drop_append, List.drop_of_length_le (by rw [cellsR_len, List.length_take]; omega), List.nil_append, cellsR_len, List.length_take, Nat.min_eq_left h, Nat.sub_self, List.drop_zero]
/-- A row of such elements of the call's own; each slice of the call's own too, in a row of its own. -/
abbrev RowR (lo : Nat) (e : TypeId) (w : World) (v : Value) (L : List PR) : Prop := OwK 2 lo e w v L.length (cellsR L)
def Els (lo : Nat) (e0 : TypeId) (w : World) (L : List PR) : Prop := (∀ r ∈ L, Ow lo e0 w r.2.1 (ints r.2.2)) ∧ L.Pairwise fun a b => ∀ c, a.2.1.ownBlock = some c → b.2.1.ownBlock ≠ some c
theorem Els.ext {lo : Nat} {e0 : TypeId} {w w' : World} {L : List PR} (h : Els lo e0 w L) (x : Ext w w') : Els lo e0 w' L := ⟨fun r hr => (h.1 r hr).ext x, h.2⟩
theorem Els.ch {lo : Nat} {e0 : TypeId} {S : Nat → Prop} {w w' : World} {L : List PR} (h : Els lo e0 w L) (x : Ch S w w') (hn : ∀ r ∈ L, ∀ c, r.2.1.ownBlock = some c → ¬ S c) : Els lo e0 w' L := ⟨fun r hr => (h.1 r hr).ch x (hn r hr), h.2⟩
theorem Els.sub {lo : Nat} {e0 : TypeId} {w : World} {L L' : List PR} (h : Els lo e0 w L) (hs : List.Sublist L' L) : Els lo e0 w L' := ⟨fun r hr => h.1 r (hs.subset hr), h.2.sublist hs⟩
theorem Els.perm {lo : Nat} {e0 : TypeId} {w : World} {L L' : List PR} (h : Els lo e0 w L) (hp : List.Perm L' L) : Els lo e0 w L' :=
  ⟨fun r hr => h.1 r (hp.mem_iff.1 hr), (List.Perm.pairwise_iff (fun {_ _} h c hc hb => h c hb hc) hp).2 h.2⟩
theorem Els.mono {lo lo' : Nat} {e0 : TypeId} {w : World} {L : List PR} (h : Els lo e0 w L) (hl : lo' ≤ lo) : Els lo' e0 w L := ⟨fun r hr => (h.1 r hr).mono hl, h.2⟩
theorem RowR.slp {lo : Nat} {e : TypeId} {w : World} {v : Value} {L : List PR} (h : RowR lo e w v L) (k : ∀ r ∈ L, SlI w r.2.1 r.2.2) : SlP w v (L.map keyR) := by
  obtain ⟨h0, a, c, hv, hc1, hc2, h3⟩ := h.sl
  refine ⟨a, c, by rw [List.length_map]; exact hv, by rw [List.length_map]; exact hc1, hc2, ?_⟩
  rcases h3 with h3 | ⟨b, o, ha, hcell⟩
  · left
    have : L = [] := List.length_eq_zero_iff.1 h3
    rw [this]; rfl
  · right
    refine ⟨b, o, ha, fun i n l hi => ?_⟩
    rw [List.getElem?_map] at hi
    obtain ⟨r, hr, e⟩ := Option.map_eq_some_iff.1 hi
    simp only [keyR, Prod.mk.injEq] at e
    obtain ⟨rfl, rfl⟩ := e
    have hil : i < L.length := (List.getElem?_eq_some_iff.1 hr).1
    have hg := flat2_get (fun r : PR => Value.int .i64 r.1) (fun r => r.2.1) L i r hr
    refine ⟨r.2.1, ?_, ?_, k r (List.mem_of_getElem? hr)⟩
    · rw [hcell _ (by omega)]; exact hg.1
    · rw [Nat.add_assoc, hcell _ (by omega)]; exact hg.2
section
variable {P : Program}
/-- Reading an element. -/
theorem iRdX {w : World} {v : Value} {L : List PR} {z : Int} {j : Nat} {k : IntKind} {K : Value → Prop} (hs : SlK 2 w v L.length (cellsR L)) (hz : z = (j : Int)) (hj : j < L.length) (h : K (valR (gt L j))) : xIa 2 v (.int k z) fun p => xLdA w 2 p K := by
  subst hz
  refine iIaK hs hj fun b o hcell => ?_
  obtain ⟨h0, h1⟩ := cellsR_at L hj
  refine ⟨_, #[.int .i64 (gt L j).1, (gt L j).2.1], rfl, rfl, fun i hi => ?_, h⟩
  rw [addr_add, hcell i hi]
  match i, hi with
  | 0, _ => exact h0
  | 1, _ => exact h1
/-- Reading a field of an element. -/
theorem iRdXs {w : World} {v : Value} {L : List PR} {z : Int} {j : Nat} {k : IntKind} {K : Value → Prop} (hs : SlK 2 w v L.length (cellsR L)) (hz : z = (j : Int)) (hj : j < L.length) (h : K (gt L j).2.1) : xIa 2 v (.int k z) fun p => xFa 1 p fun q => xLd w q K := by
  subst hz
  refine iIaK hs hj fun b o hcell => ?_
  obtain ⟨h0, h1⟩ := cellsR_at L hj
  refine ⟨_, rfl, ?_⟩
  rw [addr_add]
  exact iLd ((hcell 1 (by omega)).trans h1) h
/-- Writing an element. -/
theorem iStX {lo : Nat} {e : TypeId} {w : World} {v : Value} {L : List PR} {r : PR} {z : Int} {j : Nat} {k : IntKind} {K : World → Prop} (hs : RowR lo e w v L) (hz : z = (j : Int)) (hj : j < L.length) (hr : isCell r.2.1 = true)
    (h : ∀ w', RowR lo e w' v (L.set j r) → Ch (fun c => v.ownBlock = some c) w w' → K w') : xIa 2 v (.int k z) fun p => ∀ w1, Ext w w1 → xStA P w1 2 p (valR r) K := by
  subst hz
  obtain ⟨hl, ⟨-, h0⟩ | ⟨g, cap, cur, hv, hg, hh, h1, h2, h3, h4⟩⟩ := id hs
  · omega
  subst hv
  refine ⟨_, _, _, _, _, rfl, rfl, by omega, by omega, fun w1 x1 => ?_⟩
  rw [Int.toNat_natCast, addr_add, Nat.zero_add]
  have hs1 := hs.ext x1
  have ha : ∀ i, (⟨g, j * 2, none⟩ : Addr).add i = ⟨g, j * 2 + i, none⟩ := fun i => addr_add _ _ _
  have hcl := cellsR_len L
  have c0 : isCell (.int .i64 r.1) = true := rfl
  have s1 : (store ⟨g, j * 2, none⟩ (.int .i64 r.1)).run P w1 = .ok () (w1.setCell ⟨g, j * 2, none⟩ (.int .i64 r.1)) := by
    rw [run_store P w1 _ _ _ (isCell_one c0), World.ownsRow.cellAt hs1 (j * 2) (by omega), List.getElem?_eq_getElem (by omega)]
    simp [World.ownsRow.frozenAt hs1 (j * 2)]
  have hs2 : w1.setCell ⟨g, j * 2, none⟩ (.int .i64 r.1) |>.ownsRow lo e 2 (.slice (some ⟨g, 0, none⟩) L.length cap) L.length ((cellsR L).set (j * 2) (.int .i64 r.1)) := (World.ownsRow.stored hs1 (j * 2) _).1
  have s2 : (store ⟨g, j * 2 + 1, none⟩ r.2.1).run P (w1.setCell ⟨g, j * 2, none⟩ (.int .i64 r.1)) = .ok () ((w1.setCell ⟨g, j * 2, none⟩ (.int .i64 r.1)).setCell ⟨g, j * 2 + 1, none⟩ r.2.1) := by
    rw [run_store P _ _ _ _ (isCell_one hr), World.ownsRow.cellAt hs2 (j * 2 + 1) (by omega), List.getElem?_eq_getElem (by rw [List.length_set]; omega)]
    simp [World.ownsRow.frozenAt hs2 (j * 2 + 1)]
  have hs3 := (World.ownsRow.stored hs2 (j * 2 + 1) r.2.1).1
  rw [cellsR_set L j r hj] at hs3
  refine ⟨_, _, rfl, rfl, ?_, h _ (by show OwK 2 lo e _ _ _ _; rw [List.length_set]; exact hs3) ((x1.ch (S := fun c => (Value.slice (some ⟨g, 0, none⟩) L.length cap).ownBlock = some c)).trans (((Upd.setCell w1 g (j * 2) (.int .i64 r.1)).trans (Upd.setCell _ g (j * 2 + 1) r.2.1)).ch (S := fun c => (Value.slice (some ⟨g, 0, none⟩) L.length cap).ownBlock = some c) rfl) fun _ e => .inl e)⟩
  show (storeCells ⟨g, j * 2, none⟩ [.int .i64 r.1, r.2.1] 0).run P w1 = _
  simp only [storeCells, Sem.run_bind, ha, Nat.add_zero, Nat.zero_add, s1, s2, Result.andThen_ok, Sem.run_pure]
end

theorem cellsR_set0 : ∀ (L : List PR) (j : Nat) (n : Int) (l : List Int), j < L.length → (cellsR L).set (j * 2) (.int .i64 n) = cellsR (L.set j (n, (gt L j).2.1, l))
  | [], j, _, _, h => by simp at h
  | a :: L, 0, _, _, _ => rfl
  | a :: L, j + 1, n, l, h => by
    have := cellsR_set0 L j n l (by simpa using h)
    have e : cellsR (a :: L) = .int .i64 a.1 :: a.2.1 :: cellsR L := rfl
    have e2 : cellsR ((a :: L).set (j + 1) (n, (gt (a :: L) (j + 1)).2.1, l)) = .int .i64 a.1 :: a.2.1 :: cellsR (L.set j (n, (gt L j).2.1, l)) := rfl
    rw [e, e2, ← this, show (j + 1) * 2 = j * 2 + 1 + 1 by omega]
    rfl
theorem iRdX0 {w : World} {v : Value} {L : List PR} {z : Int} {j : Nat} {k : IntKind} {K : Value → Prop} (hs : SlK 2 w v L.length (cellsR L)) (hz : z = (j : Int)) (hj : j < L.length) (h : K (.int .i64 (gt L j).1)) : xIa 2 v (.int k z) fun p => xFa 0 p fun q => xLd w q K := by
  subst hz
  refine iIaK hs hj fun b o hcell => ?_
  obtain ⟨h0, h1⟩ := cellsR_at L hj
  refine ⟨_, rfl, ?_⟩
  rw [addr_add]
  exact iLd ((hcell 0 (by omega)).trans h0) h
section
variable {P : Program} {w : World}
theorem iStFX {lo : Nat} {e : TypeId} {w : World} {v x : Value} {n : Nat} {xs : List Value} {z : Int} {j f : Nat} {k : IntKind} {K : World → Prop} (hs : OwK 2 lo e w v n xs) (hz : z = (j : Int)) (hj : j < n) (hf : f < 2) (hx : isCell x = true)
    (h : ∀ w', OwK 2 lo e w' v n (xs.set (j * 2 + f) x) → Ch (fun c => v.ownBlock = some c) w w' → K w') : xIa 2 v (.int k z) fun p => xFa f p fun q => xSt w q x K := by
  subst hz
  obtain ⟨hl, ⟨-, h0⟩ | ⟨g, cap, cur, hv, hg, hh, h1, h2, h3, h4⟩⟩ := hs
  · omega
  · subst hv
    have hs : w.ownsRow lo e 2 (.slice (some ⟨g, 0, none⟩) n cap) n xs := ⟨hl, .inr ⟨g, cap, cur, rfl, hg, hh, h1, h2, h3, h4⟩⟩
    refine ⟨_, _, _, _, _, rfl, rfl, by omega, by omega, ?_⟩
    rw [Int.toNat_natCast, addr_add]
    refine ⟨_, rfl, ?_⟩
    rw [addr_add, Nat.zero_add]
    have hjf : j * 2 + f < xs.length := by omega
    refine iSt ((hs.cellAt (j * 2 + f) (by omega)).trans (List.getElem?_eq_getElem hjf)) (hs.frozenAt _) hx ?_
    exact h _ (hs.stored (j * 2 + f) x).1 ((Upd.setCell w g _ x).ch rfl)
theorem iHY {k n i : Nat} {ki : IntKind} {w : World} {v : Value} {xs : List Value} {K : Value → Prop} (hs : SlK k w v n xs) (hi : i ≤ n) (h : ∀ v', SlK k w v' i (xs.take (i * k)) → K v') : xSl k v none (some (.int ki (i : Int))) K := by
  obtain ⟨h0, a, c, rfl, h2, h3, h4⟩ := hs
  have hle : i * k ≤ n * k := Nat.mul_le_mul_right _ hi
  refine ⟨_, _, _, 0, i, rfl, ⟨ki, rfl⟩, rfl, Nat.zero_le _, by omega, ?_⟩
  refine h _ ⟨by rw [List.length_take]; omega, _, _, by rw [Nat.sub_zero], by omega, by omega, ?_⟩
  rcases Nat.eq_zero_or_pos i with hz | hz
  · exact .inl hz
  · rcases h4 with h4 | ⟨b, o, rfl, hc⟩
    · omega
    · refine .inr ⟨b, o, ?_, fun j hj => ?_⟩
      · rw [if_neg (by omega), Option.map_some, addr_add, Nat.zero_mul, Nat.add_zero]
      · rw [hc j (by omega), List.getElem?_take, if_pos hj]
theorem iTY {k n i : Nat} {ki : IntKind} {w : World} {v : Value} {xs : List Value} {z : Int} {K : Value → Prop} (hs : SlK k w v n xs) (hz : z = (i : Int)) (hi : i ≤ n) (h : ∀ v', SlK k w v' (n - i) (xs.drop (i * k)) → K v') : xSl k v (some (.int ki z)) none K := by
  subst hz
  obtain ⟨h0, a, c, rfl, h2, h3, h4⟩ := hs
  have hle : i * k ≤ n * k := Nat.mul_le_mul_right _ hi
  have hsub : (n - i) * k = n * k - i * k := Nat.sub_mul ..
  refine ⟨_, _, _, i, n, rfl, rfl, ⟨ki, rfl⟩, hi, h2, ?_⟩
  refine h _ ⟨by rw [List.length_drop]; omega, _, _, rfl, by omega, by omega, ?_⟩
  rcases Nat.eq_zero_or_pos (n - i) with hz | hz
  · exact .inl hz
  · rcases h4 with h4 | ⟨b, o, rfl, hc⟩
    · omega
    · refine .inr ⟨b, o + i * k, ?_, fun j hj => ?_⟩
      · rw [if_neg (by omega), Option.map_some, addr_add]
      · rw [Nat.add_assoc, hc _ (by omega), List.getElem?_drop]
end
/-- What slices.Compare answers. -/
def cmpI (a b : List Int) : Int := if lessB a b = true then -1 else if lessB b a = true then 1 else 0
theorem cmpI_neg {a b : List Int} : cmpI a b < 0 ↔ lessB a b = true := by
  unfold cmpI
  split
  · rename_i h; simp [h]
  · rename_i h
    split <;> simp [h]
def cmpR (x y : Int × List Int) : Int := if x.1 < y.1 then -1 else if y.1 < x.1 then 1 else cmpI x.2 y.2
theorem cmpR_neg (x y : Int × List Int) : decide (cmpR x y < 0) = ltP x y := by
  rw [Bool.eq_iff_iff, decide_eq_true_eq, ltP_true]
  unfold cmpR
  split
  · rename_i h; exact ⟨fun _ => .inl h, fun _ => by decide⟩
  · split
    · rename_i h1 h2; exact ⟨fun h => absurd h (by decide), fun h => by omega⟩
    · rename_i h1 h2
      rw [cmpI_neg]
      exact ⟨fun h => .inr ⟨by omega, h⟩, fun h => by
        rcases h with h | h
        · omega
        · exact h.2⟩
theorem cmpR_ne (x y : Int × List Int) : decide (¬ cmpR x y = 0) = (ltP x y || ltP y x) := by
  rw [Bool.eq_iff_iff, decide_eq_true_eq, Bool.or_eq_true, ltP_true, ltP_true]
  unfold cmpR
  split
  · rename_i h; exact ⟨fun _ => .inl (.inl h), fun _ => by decide⟩
  · split
    · rename_i h1 h2; exact ⟨fun _ => .inr (.inl h2), fun _ => by decide⟩
    · rename_i h1 h2
      unfold cmpI
      split
      · rename_i h; exact ⟨fun _ => .inl (.inr ⟨by omega, h⟩), fun _ => by decide⟩
      · rename_i h3
        split
        · rename_i h; exact ⟨fun _ => .inr (.inr ⟨by omega, h⟩), fun _ => by decide⟩
        · rename_i h4
          exact ⟨fun h => absurd rfl h, fun h => by
            rcases h with (h | h) | (h | h)
            · omega
            · exact absurd h.2 h3
            · omega
            · exact absurd h.2 h4⟩
end Go.Vc
namespace Go.Proofs.YtfhdhdgabdpmkaaGreat
open Go.Vc
theorem ok_slices_CompareX {va vb : Value} {w : World} {a b : List Int} (ha : SlI w va a) (hb : SlI w vb b) : Ret Tryz.prog f_slices_Compare_Si64_i64 #[va, vb] w (.int .i64 (cmpI a b)) := by
  apply c_slices_Compare_Si64_i64; unfold S_slices_Compare_Si64_i64
  have hal := ha.len
  have hbl := hb.len
  ((with_reducible refine iLenI (by assumption) ?_))
  refine iLp (fun k : Nat => [.int .i64 (k : Int)]) (fun k w' => k ≤ a.length ∧ k ≤ b.length ∧ Ext w w' ∧ ∀ i, i < k → a[i]? = b[i]?) (fun k => a.length - k) 0 rfl ⟨Nat.zero_le _, Nat.zero_le _, Ext.refl _, fun i hi => by omega⟩ ?_
  rintro k w2 Kn ⟨hka, hkb, h2, heq⟩ hKn
  have ha2 := ha.ext h2
  have hb2 := hb.ext h2
  have hup := lessB_upto a b k heq hka hkb
  have hup2 := lessB_upto b a k (fun i hi => (heq i hi).symm) hkb hka
  (intro _; (try simp only [gx]); (with_reducible refine iLt ?_))
  refine iCndP (fun h5 => ?_) (fun h5 => ?_)
  · have h5a : k < a.length := by omega
    have ea : a.getD k 0 = a[k] := by simp [List.getD_eq_getElem?_getD, h5a]
    ((with_reducible refine iIaN (by assumption) ?_ (fun pa_ hpa_ => ?_)); omega; (with_reducible refine iLd (by assumption) ?_; refine iLenI (by assumption) ?_; refine iLe ?_))
    rw [ea]
    refine iCndP (fun h6 => ?_) (fun h6 => ?_)
    · obtain rfl : k = b.length := by omega
      rw [List.drop_eq_nil_of_le (Nat.le_refl _), List.drop_eq_getElem_cons h5a] at hup hup2
      refine ⟨?_, h2⟩
      unfold cmpI
      rw [hup, hup2]
      simp [lessB]
    · have h5b : k < b.length := by omega
      have eb : b.getD k 0 = b[k] := by simp [List.getD_eq_getElem?_getD, h5b]
      rw [List.drop_eq_getElem_cons h5a, List.drop_eq_getElem_cons h5b] at hup hup2
      simp only [lessB] at hup hup2
      ((with_reducible refine iIaN (by assumption) ?_ (fun pa_ hpa_ => ?_)); omega; (with_reducible refine iLd (by assumption) ?_))
      rw [eb]
      refine iRet (ok_cmp_Compare_i64 a[k] b[k] w2) fun w3 h3 => ?_
      refine iNe ?_
      refine iCndP (fun h7 => ?_) (fun h7 => ?_)
      · refine ⟨?_, h2.trans h3⟩
        have hne : ¬ a[k] = b[k] := fun e => h7 (by rw [e]; simp)
        unfold cmpI
        rw [hup, hup2, if_neg hne, if_neg (show ¬ b[k] = a[k] from fun e => hne e.symm)]
        by_cases hlt : a[k] < b[k]
        · rw [if_pos hlt, if_pos (by simpa using hlt)]
        · rw [if_neg hlt, if_pos (by omega), if_neg (by simpa using hlt), if_pos (by rw [decide_eq_true_eq]; omega)]
      · have he : a[k] = b[k] := by
          rcases Int.lt_trichotomy a[k] b[k] with h | h | h
          · exact absurd (by rw [if_pos h]; decide) h7
          · exact h
          · exact absurd (by rw [if_neg (by omega), if_pos h]; decide) h7
        (refine iAdd (by omega) ?_)
        refine hKn (k + 1) _ ⟨by omega, by omega, h2.trans h3, fun i hi => ?_⟩ (by omega)
        by_cases hik : i = k
        · subst hik
          rw [List.getElem?_eq_getElem h5a, List.getElem?_eq_getElem h5b, he]
        · exact heq i (by omega)
  · obtain rfl : k = a.length := by omega
    rw [List.drop_eq_nil_of_le (Nat.le_refl _)] at hup hup2
    ((with_reducible refine iLenI (by assumption) ?_; refine iLenI (by assumption) ?_; refine iLt ?_))
    refine iCndP (fun h6 => ?_) (fun h6 => ?_)
    · have h7 : a.length < b.length := by omega
      refine ⟨?_, h2⟩
      unfold cmpI
      rw [hup, hup2, List.drop_eq_getElem_cons h7]
      simp [lessB]
    · refine ⟨?_, h2⟩
      unfold cmpI
      rw [hup, hup2, List.drop_eq_nil_of_le (by omega)]
      simp [lessB]
end Go.Proofs.YtfhdhdgabdpmkaaGreat

/- Contracts: lengths of numbers in bits. Conditions: none. -/
namespace Go.Vc
def len8 : Str := [0, 1, 2, 2, 3, 3, 3, 3, 4, 4, 4, 4, 4, 4, 4, 4, 5, 5, 5, 5, 5, 5, 5, 5, 5, 5, 5, 5, 5, 5, 5, 5, 6, 6, 6, 6, 6, 6, 6, 6, 6, 6, 6, 6, 6, 6, 6, 6, 6, 6, 6, 6, 6, 6, 6, 6, 6, 6, 6, 6, 6, 6, 6, 6,
  7, 7, 7, 7, 7, 7, 7, 7, 7, 7, 7, 7, 7, 7, 7, 7, 7, 7, 7, 7, 7, 7, 7, 7, 7, 7, 7, 7, 7, 7, 7, 7, 7, 7, 7, 7, 7, 7, 7, 7, 7, 7, 7, 7, 7, 7, 7, 7, 7, 7, 7, 7, 7, 7, 7, 7, 7, 7, 7, 7, 7, 7, 7, 7,
  8, 8, 8, 8, 8, 8, 8, 8, 8, 8, 8, 8, 8, 8, 8, 8, 8, 8, 8, 8, 8, 8, 8, 8, 8, 8, 8, 8, 8, 8, 8, 8, 8, 8, 8, 8, 8, 8, 8, 8, 8, 8, 8, 8, 8, 8, 8, 8, 8, 8, 8, 8, 8, 8, 8, 8, 8, 8, 8, 8, 8, 8, 8, 8,
  8, 8, 8, 8, 8, 8, 8, 8, 8, 8, 8, 8, 8, 8, 8, 8, 8, 8, 8, 8, 8, 8, 8, 8, 8, 8, 8, 8, 8, 8, 8, 8, 8, 8, 8, 8, 8, 8, 8, 8, 8, 8, 8, 8, 8, 8, 8, 8, 8, 8, 8, 8, 8, 8, 8, 8, 8, 8, 8, 8, 8, 8, 8, 8]
theorem len8_ok : ∀ x : Fin 256, x.val < 2 ^ (len8.getD x.val 0).toNat ∧ (1 ≤ x.val → 2 ^ (len8.getD x.val 0).toNat ≤ 2 * x.val) ∧ (len8.getD x.val 0).toNat ≤ 8 := by decide +kernel
theorem iShrV {a j : Nat} {K : Value → Prop} (hj : j ≤ 64) (h : K (.int .u64 ((a / 2 ^ j : Nat) : Int))) : xSh iShr .u64 (.int .u64 (a : Int)) (.int .u64 (j : Int)) K := by
  refine ⟨_, _, _, rfl, rfl, by omega, ?_⟩
  rw [show iShr .u64 (a : Int) (j : Int) = ((a / 2 ^ j : Nat) : Int) by
    unfold iShr
    rw [Int.toNat_natCast, show IntKind.u64.bits = 64 from rfl, Nat.min_eq_left hj, Int.fdiv_eq_ediv_of_nonneg _ (Int.le_of_lt (Int.pow_pos (by omega)))]
    push_cast
    rfl]
  exact h
end Go.Vc
namespace Go.Proofs.YtfhdhdgabdpmkaaGreat
open Go.Vc
set_option maxRecDepth 20000 in
theorem ok_math_bits_Len64 {n : Nat} (hn : n < 2 ^ 63) (w : World) : Cal Tryz.prog f_math_bits_Len64 #[.int .u64 (n : Int)] w fun r w' => Ext w w' ∧ ∃ k : Nat, r = .int .i64 (k : Int) ∧ n < 2 ^ k ∧ (1 ≤ n → 2 ^ k ≤ 2 * n) ∧ k ≤ 64 := by
  apply c_math_bits_Len64; unfold S_math_bits_Len64
  -- at each join: what is left of n, and by how many bits it was shifted
  have stage : ∀ {x m s : Nat}, x = n / 2 ^ m → x / 2 ^ s = n / 2 ^ (m + s) := fun {x m s} h => by rw [h, Nat.div_div_eq_div_mul, ← Nat.pow_add]
  ((with_reducible refine iLe ?_))
  refine iJnX (fun xs w' => Ext w w' ∧ ∃ x m : Nat, xs = [.int .u64 (x : Int), .int .i64 (m : Int)] ∧ x = n / 2 ^ m ∧ x < 2 ^ 32 ∧ (1 ≤ m → 1 ≤ x) ∧ m ≤ 32) (fun J hJ => ?_) ?_
  · refine iCndP (fun h => ?_) (fun h => ?_)
    · refine iShrV (j := 32) (by omega) ?_
      exact hJ _ _ ⟨Ext.refl _, _, 32, rfl, rfl, by omega, by omega, by omega⟩
    · exact hJ _ _ ⟨Ext.refl _, n, 0, rfl, by simp, by omega, by omega, by omega⟩
  rintro xs w2 ⟨h2, x, m, rfl, hx, hx32, hm1, hm⟩
  intro _
  simp only [gx]
  ((with_reducible refine iLe ?_))
  refine iJnX (fun xs w' => Ext w w' ∧ ∃ x m : Nat, xs = [.int .u64 (x : Int), .int .i64 (m : Int)] ∧ x = n / 2 ^ m ∧ x < 2 ^ 16 ∧ (1 ≤ m → 1 ≤ x) ∧ m ≤ 48) (fun J hJ => ?_) ?_
  · refine iCndP (fun h => ?_) (fun h => ?_)
    · refine iShrV (j := 16) (by omega) ?_
      (refine iAdd (by omega) ?_)
      exact hJ _ _ ⟨h2, _, m + 16, rfl, stage hx, by omega, by omega, by omega⟩
    · exact hJ _ _ ⟨h2, x, m, rfl, hx, by omega, hm1, by omega⟩
  rintro xs w4 ⟨h4, x, m, rfl, hx, hx16, hm1, hm⟩
  intro _
  simp only [gx]
  ((with_reducible refine iLe ?_))
  refine iJnX (fun xs w' => Ext w w' ∧ ∃ x m : Nat, xs = [.int .u64 (x : Int), .int .i64 (m : Int)] ∧ x = n / 2 ^ m ∧ x < 2 ^ 8 ∧ (1 ≤ m → 1 ≤ x) ∧ m ≤ 56) (fun J hJ => ?_) ?_
  · refine iCndP (fun h => ?_) (fun h => ?_)
    · refine iShrV (j := 8) (by omega) ?_
      (refine iAdd (by omega) ?_)
      exact hJ _ _ ⟨h4, _, m + 8, rfl, stage hx, by omega, by omega, by omega⟩
    · exact hJ _ _ ⟨h4, x, m, rfl, hx, by omega, hm1, by omega⟩
  rintro xs w6 ⟨h6, x, m, rfl, hx, hx8, hm1, hm⟩
  intro _
  simp only [gx]
  obtain ⟨t1, t2, t3⟩ : x < 2 ^ (len8.getD x 0).toNat ∧ (1 ≤ x → 2 ^ (len8.getD x 0).toNat ≤ 2 * x) ∧ (len8.getD x 0).toNat ≤ 8 := len8_ok ⟨x, hx8⟩
  refine ⟨_, _, rfl, ?_⟩
  rw [IntWalk.u8_in _ (by omega)]
  refine iIs (l := len8) (j := x) (by show x < 256; omega) ?_
  refine iConv64 (by omega) ?_
  refine iAdd (by omega) ?_
  refine ⟨h6, m + (len8.getD x 0).toNat, by first | rfl | (push_cast; rfl), ?_, fun h1 => ?_, by omega⟩
  · have := Nat.lt_div_mul_add (a := n) (b := 2 ^ m) (Nat.two_pow_pos m)
    rw [← hx] at this
    have h3 : (x + 1) * 2 ^ m ≤ 2 ^ (len8.getD x 0).toNat * 2 ^ m := Nat.mul_le_mul_right _ t1
    rw [Nat.pow_add, Nat.mul_comm (2 ^ m)]
    rw [Nat.add_mul] at h3
    omega
  · rcases Nat.eq_zero_or_pos x with h0 | h0
    · have hm0 : m = 0 := by omega
      subst hm0
      simp at hx
      omega
    · have h3 := Nat.mul_le_mul_left (2 ^ m) (t2 h0)
      have h4 : 2 ^ m * x ≤ n := by rw [hx]; exact Nat.mul_div_le n (2 ^ m)
      rw [Nat.pow_add]
      rw [Nat.mul_left_comm] at h3
      omega
theorem ok_math_bits_Len {n : Nat} (hn : n < 2 ^ 63) (w : World) : Cal Tryz.prog f_math_bits_Len #[.int .u64 (n : Int)] w fun r w' => Ext w w' ∧ ∃ k : Nat, r = .int .i64 (k : Int) ∧ n < 2 ^ k ∧ (1 ≤ n → 2 ^ k ≤ 2 * n) ∧ k ≤ 64 := by
  apply c_math_bits_Len; unfold S_math_bits_Len
  exact iCall (ok_math_bits_Len64 hn w)
end Go.Proofs.YtfhdhdgabdpmkaaGreat

/- Contracts: sorting few rows of a count and a slice; slices.Clone and Delete on them. Conditions: none. -/
namespace Go.Vc
/-- The call's own row v holds L', and nothing else has turned. -/
structure TurnR (lo : Nat) (e : TypeId) (v : Value) (w w' : World) (L' : List PR) : Prop where
  ow : RowR lo e w' v L'
  ch : Ch (fun c => v.ownBlock = some c) w w'
theorem TurnR.ext {lo : Nat} {e : TypeId} {v : Value} {w w' w'' : World} {L : List PR} (h : TurnR lo e v w w' L) (k : Ext w' w'') : TurnR lo e v w w'' L :=
  ⟨h.ow.ext k, h.ch.trans (k.ch (S := fun _ => False)) fun _ e => e.elim⟩
theorem TurnR.els {lo lo0 : Nat} {e e0 : TypeId} {v : Value} {w w' : World} {L L' : List PR} (h : TurnR lo e v w w' L') (hv : RowR lo e w v L) (hE : Els lo0 e0 w L) (hne : e ≠ e0) (hp : List.Perm L' L) : Els lo0 e0 w' L' :=
  (hE.ch h.ch fun r hr _ hc hc' => OwK.ne_ow hv (hE.1 r hr) hne hc' hc).perm hp
theorem iWrX2 {P : Program} {lo : Nat} {e : TypeId} {w : World} {v : Value} {L : List PR} {z z' : Int} {i j : Nat} {k k' : IntKind} {x y : PR} {K : World → Prop} (hs : RowR lo e w v L) (hz : z = (i : Int)) (hz' : z' = (j : Int)) (hi : i < L.length) (hj : j < L.length) (hx : isCell x.2.1 = true) (hy : isCell y.2.1 = true)
    (h : ∀ w', TurnR lo e v w w' ((L.set i x).set j y) → K w') :
    xIa 2 v (.int k z) fun p => ∀ w1, Ext w w1 → xStA P w1 2 p (valR x) fun w2 => xIa 2 v (.int k' z') fun q => ∀ w3, Ext w2 w3 → xStA P w3 2 q (valR y) fun w4 => ∀ w5, Ext w4 w5 → K w5 :=
  iStX hs hz hi hx fun w2 hs2 hc2 => iStX hs2 hz' (by rw [List.length_set]; exact hj) hy fun w4 hs4 hc4 w5 h5 =>
    h w5 (TurnR.ext ⟨hs4, hc2.trans hc4 fun _ e => .inl e⟩ h5)
end Go.Vc
namespace Go.Proofs.YtfhdhdgabdpmkaaGreat
open Go.Vc
theorem ok_cmp_Or_int {e : TypeId} {b : Nat} {w : World} {x y : Int} (hB : Blk e w b [.int .i64 x, .int .i64 y]) : Ret Tryz.prog f_cmp_Or_int #[.slice (some ⟨b, 0, none⟩) 2 2] w (.int .i64 (if x ≠ 0 then x else y)) := by
  apply c_cmp_Or_int; unfold S_cmp_Or_int
  have hs : SlI w (.slice (some ⟨b, 0, none⟩) 2 2) [x, y] := Sl.ofBlk hB rfl (by omega)
  refine iLenL ?_
  refine iLp (fun k : Nat => [.int .i64 (k : Int)]) (fun k w' => k ≤ 2 ∧ Ext w w' ∧ (1 ≤ k → x = 0) ∧ (2 ≤ k → y = 0)) (fun k => 2 - k) 0 rfl ⟨by omega, Ext.refl w, by omega, by omega⟩ ?_
  rintro k w2 Kn ⟨hk, h2, hx, hy⟩ hKn
  have hs2 := hs.ext h2
  intro _
  simp only [gx]
  refine iLt (iCndP (fun h => ?_) (fun h => ?_))
  · have hk2 : k < 2 := by omega
    have e0 : [x, y].getD 0 0 = x := rfl
    have e1 : [x, y].getD 1 0 = y := rfl
    ((with_reducible refine iIaN (by assumption) ?_ (fun pa_ hpa_ => ?_)); omega; (with_reducible refine iLd (by assumption) ?_; refine iNe ?_))
    refine iCndP (fun h3 => ?_) (fun h3 => ?_)
    · rcases (by omega : k = 0 ∨ k = 1) with rfl | rfl
      · have h3 : ¬ x = 0 := by simpa using h3
        rw [if_pos h3]
        exact ⟨by first | trivial | rfl, h2⟩
      · have h3 : ¬ y = 0 := by simpa using h3
        rw [if_neg (by simpa using hx (by omega))]
        exact ⟨by first | trivial | rfl, h2⟩
    · (refine iAdd (by omega) ?_)
      refine hKn (k + 1) _ ⟨by omega, h2, fun _ => ?_, fun _ => ?_⟩ (by omega)
      · rcases (by omega : k = 0 ∨ k = 1) with rfl | rfl
        · simpa using h3
        · exact hx (by omega)
      · have hk1 : k = 1 := by omega
        subst hk1
        simpa using h3
  · have hx := hx (by omega)
    have hy := hy (by omega)
    rw [if_neg (by simpa using hx), hy]
    exact ⟨by first | trivial | rfl, h2⟩
theorem ok_impl_compareFrames {w : World} {a b : PR} (ha : SlI w a.2.1 a.2.2) (hb : SlI w b.2.1 b.2.2) : Ret Tryz.prog f_impl_compareFrames #[valR a, valR b] w (.int .i64 (cmpR (keyR a) (keyR b))) := by
  apply c_impl_compareFrames; unfold S_impl_compareFrames
  refine iNew fun b2 w1 hb2 x1 hB2 => ?_
  refine iNew fun b3 w2 hb3 x2 hB3 => ?_
  have hB2 : Blk _ w2 b2 [.int .i64 a.1, a.2.1] := hB2.ext x2
  have hB3 : Blk _ w2 b3 [.int .i64 b.1, b.2.1] := hB3
  have hX := x1.trans x2
  ((with_reducible refine iFa ?_); refine iLdB (by assumption) (by first | rfl | simp) ?_; (with_reducible refine iFa ?_); refine iLdB (by assumption) (by first | rfl | simp) ?_)
  refine iRetQ (fun w' _ => ok_cmp_Compare_i64 a.1 b.1 w') ?_
  ((with_reducible refine iFa ?_); refine iLdB (by assumption) (by first | rfl | simp) ?_; (with_reducible refine iFa ?_); refine iLdB (by assumption) (by first | rfl | simp) ?_)
  refine iRetQ (fun w' h' => ok_slices_CompareX (ha.ext (hX.trans h')) (hb.ext (hX.trans h'))) ?_
  intro w3 x3
  refine iBs2 rfl rfl rfl fun c w4 hc x4 hC => ?_
  refine iRetQ (fun w' h' => ok_cmp_Or_int (hC.ext h')) ?_
  intro w5 x5
  refine ⟨?_, ((hX.trans x3).trans x4).trans x5⟩
  unfold cmpR keyR
  by_cases h1 : a.1 < b.1
  · rw [if_pos h1, if_pos h1]; rfl
  · rw [if_neg h1, if_neg h1]
    by_cases h2 : b.1 < a.1
    · rw [if_pos h2, if_pos h2]; rfl
    · rw [if_neg h2, if_neg h2]; rfl
/-- The order on rows. -/
def ltR (a b : PR) : Bool := ltP (keyR a) (keyR b)
theorem ordrR : Ordr ltR := ⟨fun h => ordP.o.asym h, fun h k => ordP.o.tr h k⟩
theorem ok_slices_insertionSortF {lo lo0 : Nat} {w : World} {v : Value} {L : List PR} {a b : Nat} (hs : RowR lo t_impl_Frame w v L) (hE : Els lo0 t_i64 w L) (hab : a ≤ b) (hb : b ≤ L.length) (hL : L.length ≤ 1000000) :
    Cal Tryz.prog f_slices_insertionSortCmpFunc_impl_Frame #[v, .int .i64 (a : Int), .int .i64 (b : Int), .func (.func f_impl_compareFrames) #[] #[]] w fun _ w' => ∃ L', TurnR lo t_impl_Frame v w w' L' ∧ SwR a b L L' ∧ Srt ltR a b L' := by
  apply c_slices_insertionSortCmpFunc_impl_Frame; unfold S_slices_insertionSortCmpFunc_impl_Frame
  refine iAdd (by omega) ?_
  refine iLp (fun i : Nat => [.int .i64 (i : Int)]) (fun i w' => a + 1 ≤ i ∧ i ≤ b + 1 ∧ ∃ L', TurnR lo t_impl_Frame v w w' L' ∧ SwR a b L L' ∧ Srt ltR a i L') (fun i => b + 1 - i) (a + 1) (by simp) ⟨Nat.le_refl _, by omega, L, ⟨hs, (Ext.refl w).ch⟩, .refl, Srt.short (Nat.le_refl _)⟩ ?_
  rintro i w2 Kn ⟨hi, hib, L1, ht1, hw1, hs1⟩ hKn
  intro _
  simp only [gx]
  refine iLt ?_
  refine iCndP (fun h => ?_) (fun h => ?_)
  · have hl1 := hw1.len
    refine iLp (fun j : Nat => [.int .i64 (j : Int)]) (fun j w' => a ≤ j ∧ j ≤ i ∧ ∃ L', TurnR lo t_impl_Frame v w w' L' ∧ SwR a b L L' ∧ Ins ltR a i j L') (fun j => j) i rfl ⟨by omega, Nat.le_refl _, L1, ht1, hw1, Ins.init hs1⟩ ?_
    rintro j w4 Kn2 ⟨haj, hji, L2, ht2, hw2, hin⟩ hKn2
    have hl2 := hw2.len
    have hE2 := ht2.els hs hE (by decide) hw2.perm
    intro _
    simp only [gx]
    refine iJnB (decide (a < j) && ltR (gt L2 j) (gt L2 (j - 1))) w4 (fun J hJ => ?_) (fun w6 h6 => ?_)
    · refine iLt ?_
      refine iCndP (fun h5 => ?_) (fun h5 => ?_)
      · rw [decide_eq_true (show a < j by omega), Bool.true_and] at hJ
        refine iRdX (j := j) ht2.ow.sl rfl (by omega) ?_
        refine iSub (by omega) ?_
        refine iRdX (j := j - 1) ht2.ow.sl (by omega) (by omega) ?_
        intro w7 x7
        have hE7 := hE2.ext x7
        have o1 : SlI w7 (gt L2 j).2.1 (gt L2 j).2.2 := (hE7.1 _ (by rw [gt_eq (by omega)]; exact List.getElem_mem _)).sl
        have o2 : SlI w7 (gt L2 (j - 1)).2.1 (gt L2 (j - 1)).2.2 := (hE7.1 _ (by rw [gt_eq (by omega)]; exact List.getElem_mem _)).sl
        refine iRet (ok_impl_compareFrames o1 o2) fun w8 x8 => ?_
        refine iLt ?_
        intro w9 x9
        rw [cmpR_neg]
        exact hJ w9 ((x7.trans x8).trans x9)
      · rw [decide_eq_false (show ¬ a < j by omega), Bool.false_and] at hJ
        intro w10 x10 w11 x11
        exact hJ w11 (x10.trans x11)
    · intro _
      simp only [gx]
      have ht6 := ht2.ext h6
      have hE6 := hE2.ext h6
      cases hc : decide (a < j) && ltR (gt L2 j) (gt L2 (j - 1))
      · refine iCndF rfl ?_
        refine iAdd (by omega) ?_
        refine hKn (i + 1) _ ⟨by omega, by omega, L2, ht6, hw2, hin.done ordrR ?_ hji⟩ (by omega)
        rw [Bool.and_eq_false_iff, decide_eq_false_iff_not] at hc
        rcases hc with hc | hc
        · exact .inl (by omega)
        · rcases Nat.lt_or_ge a j with h' | h'
          · exact .inr ⟨h', hc⟩
          · exact .inl h'
      · rw [Bool.and_eq_true, decide_eq_true_eq] at hc
        have c1 : isCell (gt L2 (j - 1)).2.1 = true := (hE6.1 _ (by rw [gt_eq (by omega)]; exact List.getElem_mem _)).cell
        have c2 : isCell (gt L2 j).2.1 = true := (hE6.1 _ (by rw [gt_eq (by omega)]; exact List.getElem_mem _)).cell
        refine iCndT rfl ?_
        refine iSub (by omega) ?_
        refine iSub (by omega) ?_
        refine iRdX (j := j - 1) ht6.ow.sl (by omega) (by omega) ?_
        refine iRdX (j := j) ht6.ow.sl rfl (by omega) ?_
        refine iWrX2 (i := j) (j := j - 1) ht6.ow rfl (by omega) (by omega) (by omega) c1 c2 fun w13 h13 => ?_
        refine iSub (by omega) ?_
        rw [show (j : Int) - 1 = ((j - 1 : Nat) : Int) by omega]
        exact hKn2 (j - 1) _ ⟨by omega, by omega, sw L2 j (j - 1), ⟨h13.ow, ht6.ch.trans h13.ch fun _ e => .inl e⟩, .step hw2 (by omega) (by omega) (by omega) (by omega) hb, hin.swap ordrR hc.1 hji (by omega) hc.2⟩ (by omega)
  · exact ⟨L1, ht1, hw1, hs1.mono (Nat.le_refl _) (by omega)⟩
theorem ok_slices_SortF {lo lo0 : Nat} {w : World} {v : Value} {L : List PR} (hs : RowR lo t_impl_Frame w v L) (hE : Els lo0 t_i64 w L) (hL : L.length ≤ 12) :
    Cal Tryz.prog f_slices_SortFunc_Simpl_Frame_impl_Frame #[v, .func (.func f_impl_compareFrames) #[] #[]] w fun _ w' => ∃ L', TurnR lo t_impl_Frame v w w' L' ∧ List.Perm L' L ∧ Els lo0 t_i64 w' L' ∧ L'.Pairwise fun x y => ltP (keyR y) (keyR x) = false := by
  apply c_slices_SortFunc_Simpl_Frame_impl_Frame; unfold S_slices_SortFunc_Simpl_Frame_impl_Frame
  refine iLenK hs.sl ?_
  refine iConvU (by omega) ?_
  refine iCall ((ok_math_bits_Len (n := L.length) (by omega) w).mono ?_)
  rintro _ w1 ⟨x1, k, rfl, _, _, _⟩
  have hsort : Cal Tryz.prog f_slices_pdqsortCmpFunc_impl_Frame #[v, .int .i64 0, .int .i64 (L.length : Int), .int .i64 (k : Int), .func (.func f_impl_compareFrames) #[] #[]] w1 fun _ w' => ∃ L', TurnR lo t_impl_Frame v w1 w' L' ∧ SwR 0 L.length L L' ∧ Srt ltR 0 L.length L' := by
    apply c_slices_pdqsortCmpFunc_impl_Frame; unfold S_slices_pdqsortCmpFunc_impl_Frame
    refine iLp (fun _ : Unit => [.int .i64 0, .int .i64 (L.length : Int), .int .i64 (k : Int), .bool true, .bool true]) (fun _ w' => w' = w1) (fun _ => 0) () rfl rfl ?_
    rintro _ w2 Kn rfl _
    intro _
    simp only [gx]
    refine iSub (by omega) ?_
    refine iLe (iCndT (by simp; omega) ?_)
    exact iCall ((ok_slices_insertionSortF (a := 0) (hs.ext x1) (hE.ext x1) (Nat.zero_le _) (Nat.le_refl _) (by omega)).mono fun _ w' h => h)
  refine iCall (hsort.mono ?_)
  rintro _ w2 ⟨L', ht, hw, hst⟩
  refine ⟨L', ⟨ht.ow, (x1.ch (S := fun c => v.ownBlock = some c)).trans ht.ch fun _ e => .inl e⟩, hw.perm, ht.els (hs.ext x1) (hE.ext x1) (by decide) hw.perm, ?_⟩
  have hl := hw.len
  rw [← hl] at hst
  exact hst.pairwise
end Go.Proofs.YtfhdhdgabdpmkaaGreat

/- Contracts: the program's rooted parts and core of a poset. Conditions: none. -/
namespace Go.Vc
theorem iFd' {off : Nat} {cs : Array Value} {v : Value} {K : Value → Prop} (h : cs[off]? = some v) (k : K v) : xFd off (.agg cs) K := ⟨cs, v, rfl, h, k⟩
/-- 'append(s, Struct{n, u})'. -/
theorem RowR.app {P : Program} {lo : Nat} {t e ty : TypeId} {bytes : Nat} (ht : P.underlying t = some (.slice e)) (hi : (P.info? e).map (fun i => (i.zero, i.size, i.bytes)) = some (some (.agg #[.int .i64 0, .slice none 0 0]), 2, bytes)) (hby : bytes ≤ 1000) {w : World} {v u : Value} {L : List PR} {n : Int} {l : List Int} {K : Value → World → Prop}
    (hp : RowR lo e w v L) (hu : isCell u = true) (hlo : lo ≤ w.heap.size) (hb : L.length ≤ 1000)
    (hk : ∀ v' w', RowR lo e w' v' (L ++ [(n, u, l)]) → w.grownBy w' v.ownBlock → (∀ c, v.ownBlock = some c → lo ≤ c) → K v' w') :
    xBs e (Value.cells (.agg #[.int .i64 0, .slice none 0 0])) 2 1 [(0, .agg #[.int .i64 n, u])] w fun y w1 => xOp P (Builtin.append_ #[t, t] ty #[v, y]) w1 K := by
  refine iBsA fun b w1 hb1 h1 hB => ?_
  have hs := (OwK.ofBlk (k := 2) (lo := w.heap.size) hB (by omega) rfl (by omega)).sl
  have hm : (L.length + 1) * bytes ≤ 1001 * 1000 := Nat.mul_le_mul (by omega) hby
  refine iAppK (k := 2) ht hi rfl (by omega) (OwK.ext hp h1) hs (fun x hx => ?_) (by omega) (by omega) (Nat.le_trans hlo h1.size) fun v' w' ho' hg _ => hk v' w' ?_ (grown_of_ext h1 hg) fun c hc => (OwK.blk hp c hc).1
  · simp only [List.mem_cons, List.not_mem_nil, or_false] at hx
    rcases hx with rfl | rfl
    · rfl
    · exact hu
  · show OwK 2 lo e w' v' _ _
    rw [List.length_append, cellsR_app]
    exact ho'
theorem Els.snoc {lo : Nat} {e0 : TypeId} {w : World} {L : List PR} {n : Int} {u : Value} {l : List Int} (h : Els lo e0 w L) (hu : Ow lo e0 w u (ints l)) (hd : ∀ r ∈ L, ∀ c, r.2.1.ownBlock = some c → u.ownBlock ≠ some c) : Els lo e0 w (L ++ [(n, u, l)]) := by
  refine ⟨fun r hr => ?_, List.pairwise_append.2 ⟨h.2, by simp, fun r hr s hs => ?_⟩⟩
  · rcases List.mem_append.1 hr with hr | hr
    · exact h.1 r hr
    · simp only [List.mem_singleton] at hr
      subst hr; exact hu
  · simp only [List.mem_singleton] at hs
    subst hs; exact hd r hr
theorem Els.nil (lo : Nat) (e0 : TypeId) (w : World) : Els lo e0 w [] := ⟨fun r hr => (by cases hr), List.Pairwise.nil⟩
end Go.Vc
namespace Go.Proofs.YtfhdhdgabdpmkaaGreat
open Go.Vc
theorem coneF_len {f : Fr} (hp : Po f) {x : Nat} (hx : x < f.n) : (coneF f x).a.length = (coneF f x).n := (coneF_po hp hx).ok.2.1
theorem ok_impl_rootedParts {f : Fr} (hp : Po f) (h6 : f.n ≤ 6) {v : Value} {w : World} (hs : SlN w v f.a) :
    Cal Tryz.prog f_impl_Poset_rootedParts #[.agg #[.int .i64 (f.n : Int), v]] w fun r w' => Ext w w' ∧ ∃ L, RowR w.heap.size t_impl_Poset w' r L ∧ Els w.heap.size t_i64 w' L ∧ L.map keyR = partsL f := by
  apply c_impl_Poset_rootedParts; unfold S_impl_Poset_rootedParts
  refine iNew fun b w1 hb x1 hB => ?_
  have hsz1 := x1.size
  ((with_reducible refine iFa ?_); refine iLdB (by assumption) (by first | rfl | simp) ?_)
  refine iLp (fun s : Value × Nat => [s.1, .int .i64 (s.2 : Int)]) (fun s w' => s.2 ≤ f.n ∧ Ext w1 w' ∧ ∃ L, RowR w1.heap.size t_impl_Frame w' s.1 L ∧ Els w1.heap.size t_i64 w' L ∧ L.map keyR = (List.range s.2).map (coneP f)) (fun s => f.n - s.2) (.slice none 0 0, 0) rfl ⟨Nat.zero_le _, Ext.refl _, [], OwK.nil _ _ _ _, Els.nil _ _ _, rfl⟩ ?_
  rintro ⟨fv, k⟩ w3 Kn ⟨hk, h3, L, hL, hE, hkey⟩ hKn
  have hk : k ≤ f.n := hk
  have hL : RowR w1.heap.size t_impl_Frame w3 fv L := hL
  have hfv : ∀ c, fv.ownBlock = some c → w1.heap.size ≤ c := fun c hc => (OwK.blk hL c hc).1
  have hkey : L.map keyR = (List.range k).map (coneP f) := hkey
  have hLl : L.length = k := by have := congrArg List.length hkey; simpa using this
  have hX3 := x1.trans h3
  intro _
  simp only [gx]
  refine iLt (iCndP (fun h4 => ?_) (fun h4 => ?_))
  · have hk1 : k < f.n := by omega
    refine iLdA (hB.ext h3) rfl ?_
    refine iCall ((ok_impl_Poset_cone hp.ok (hs.ext hX3) k hk1).mono ?_)
    rintro _ w4 ⟨h5, v', rfl, ho4⟩
    refine iFd' (by rfl) ?_
    have hm := hp.ok.lt hk1
    have hcn : (partFr f (f.a.getD k 0)).n ≤ 6 := Nat.le_trans (mem_len hp.ok hm) h6
    have hpo := part_ok hp.ok hm
    refine iCall ((ok_impl_leastRelation ho4.sl ho4.cell hcn hpo.2.1 hpo.2.2).mono ?_)
    rintro u w5 ⟨h6', hou⟩
    refine iRet (ok_impl_frameOf' hou.sl) fun w6 h7 => ?_
    have hlen : (nats (least (partFr f (f.a.getD k 0)).a)).length = (coneF f k).n := by rw [nats_length]; exact coneF_len hp hk1
    rw [hlen]
    have h46 := (h5.trans h6').trans h7
    have hX6 := h3.trans h46
    have hE6 := hE.ext h46
    have hlo : w1.heap.size ≤ w4.heap.size := Nat.le_trans h3.size h5.size
    have hou6 := (hou.mono hlo).ext h7
    refine RowR.app (t := t_Simpl_Frame) u_Simpl_Frame i_Simpl_Frame (by decide) (l := nats (least (partFr f (f.a.getD k 0)).a)) (n := ((coneF f k).n : Int)) (OwK.ext hL h46) hou6.cell (Nat.le_trans h3.size h46.size) (by omega) fun v8 w8 hL8 hg8 hlo8 => ?_
    have hc8 : Ch (fun c => fv.ownBlock = some c) w6 w8 := grown_ch hg8 fun c hc => hc
    have hE7 : Els w1.heap.size t_i64 w6 (L ++ [(((coneF f k).n : Int), u, nats (least (partFr f (f.a.getD k 0)).a))]) := hE6.snoc hou6 fun r hr c hc hc' => by
      have h1 := ((hE.1 r hr).blk c hc).2
      have h2 := (hou.blk c hc').1
      have := h5.size
      omega
    have hE8 : Els w1.heap.size t_i64 w8 (L ++ [(((coneF f k).n : Int), u, nats (least (partFr f (f.a.getD k 0)).a))]) := hE7.ch hc8 fun r hr c hc hc' => OwK.ne_ow (OwK.ext hL h46) (hE7.1 r hr) (by decide) hc' hc
    refine iAdd (by omega) ?_
    refine hKn (v8, k + 1) _ ⟨by show k + 1 ≤ f.n; omega, hX6.thenCh hc8 fun c hc => hfv c hc, _, hL8, hE8, ?_⟩ (by show f.n - (k + 1) < f.n - k; omega)
    rw [List.map_append, hkey, List.range_succ, List.map_append]; rfl
  · obtain rfl : k = f.n := by omega
    refine iCall ((ok_slices_SortF hL hE (by omega)).mono ?_)
    rintro _ w9 ⟨L', ht, hperm, hE9, hsort⟩
    have hX9 : Ext w1 w9 := h3.thenCh ht.ch fun c hc => hfv c hc
    have hl9 := hperm.length_eq
    have hmem : ∀ a, a ∈ L'.map keyR ↔ a ∈ (List.range f.n).map (coneP f) := fun a => by rw [← hkey]; exact (hperm.map keyR).mem_iff
    have hrow : ∀ r ∈ L', ∃ x, x < f.n ∧ keyR r = coneP f x := fun r hr => by
      obtain ⟨x, hx, e⟩ := List.mem_map.1 ((hmem (keyR r)).1 (List.mem_map_of_mem hr))
      exact ⟨x, List.mem_range.1 hx, e.symm⟩
    refine iLenK ht.ow.sl ?_
    refine iLp (fun s : Value × Nat => [s.1, .int .i64 (s.2 : Int)]) (fun s w' => s.2 ≤ L'.length ∧ Ext w9 w' ∧ RowR w9.heap.size t_impl_Poset w' s.1 (ddA ltP keyR (L'.take s.2))) (fun s => L'.length - s.2) (.slice none 0 0, 0) rfl ⟨Nat.zero_le _, Ext.refl _, OwK.nil _ _ _ _⟩ ?_
    rintro ⟨ov, i⟩ w11 Kn' ⟨hi, h11, hO⟩ hKn'
    have hi : i ≤ L'.length := hi
    have hO : RowR w9.heap.size t_impl_Poset w11 ov (ddA ltP keyR (L'.take i)) := hO
    have hsub := fun k (hk : k ≤ L'.length) => (ddA_spec ordP hsort k hk).1
    have hF := ht.ow.ext h11
    have hE11 := hE9.ext h11
    intro _
    simp only [gx]
    refine iLt (iCndP (fun h12 => ?_) (fun h12 => ?_))
    · have hi1 : i < L'.length := by omega
      have hgm : gt L' i ∈ L' := by rw [gt_eq hi1]; exact List.getElem_mem _
      refine iRdX (j := i) hF.sl rfl hi1 ?_
      refine iNew fun b7 w12 hb7 x12 hB7 => ?_
      have o12 := (hE11.1 _ hgm).ext x12
      refine iStAB hB7 rfl rfl (o12.pair _) fun w13 hu hB13 => ?_
      have x13 : Ext w11 w13 := x12.upd hu (by omega)
      have hE13 := hE11.ext x13
      have o13 := hE13.1 _ hgm
      refine iJnB (decide (i = 0) || (ltP (keyR (gt L' (i - 1))) (keyR (gt L' i)) || ltP (keyR (gt L' i)) (keyR (gt L' (i - 1))))) w13 (fun J hJ => ?_) (fun w15 x15 => ?_)
      · refine iEq (iCndP (fun h14 => ?_) (fun h14 => ?_))
        · intro w16 x16
          have hi0 : i = 0 := by omega
          rw [decide_eq_true hi0, Bool.true_or] at hJ
          exact hJ w16 x16
        · have hi0 : ¬ i = 0 := by omega
          rw [decide_eq_false hi0, Bool.false_or] at hJ
          refine iSub (by omega) ?_
          refine iRdX (j := i - 1) (hF.ext x13).sl (by omega) (by omega) ?_
          refine iLdA hB13 rfl ?_
          have hpm : gt L' (i - 1) ∈ L' := by rw [gt_eq (by omega)]; exact List.getElem_mem _
          refine iRetQ (fun w' h' => ok_impl_compareFrames ((hE13.1 _ hpm).ext h').sl (o13.ext h').sl) ?_
          refine iNe ?_
          rw [cmpR_ne]
          intro w17 x17
          exact hJ w17 x17
      · intro _
        simp only [gx]
        have x115 := x13.trans x15
        have hO15 := hO.ext x115
        have hstep : ddA ltP keyR (L'.take (i + 1)) = if (decide (i = 0) || (ltP (keyR (gt L' (i - 1))) (keyR (gt L' i)) || ltP (keyR (gt L' i)) (keyR (gt L' (i - 1))))) = true then ddA ltP keyR (L'.take i) ++ [gt L' i] else ddA ltP keyR (L'.take i) := by
          rcases Nat.eq_zero_or_pos i with h0 | h0
          · subst h0
            rw [decide_eq_true rfl, Bool.true_or, if_pos rfl, ddA_one hi1]
            rfl
          · rw [decide_eq_false (by omega), Bool.false_or, ddA_take h0 hi1]
        refine iCnd (fun hb => ?_) (fun hb => ?_)
        · rw [if_pos hb] at hstep
          have hB15 := hB13.ext x15
          refine iFa ?_
          refine iLd (p := ⟨b7, 0 + 1, none⟩) (hB15.cell _) ?_
          obtain ⟨x, hx, ek⟩ := hrow _ hgm
          have e2 : (gt L' i).2.2 = nats (coneF f x).a := congrArg Prod.snd ek
          have e1 : (gt L' i).1 = ((coneF f x).n : Int) := congrArg Prod.fst ek
          have o15 := o13.ext x15
          rw [e2] at o15
          refine iCall ((ok_impl_posetOf o15).mono ?_)
          rintro _ w18 ⟨x18, rfl⟩
          rw [coneF_len hp hx, ← e1]
          have hdl : (ddA ltP keyR (L'.take i)).length ≤ 1000 := by have := (hsub i hi).length_le; rw [List.length_take] at this; omega
          have x118 := x115.trans x18
          refine RowR.app (t := t_Simpl_Poset) u_Simpl_Poset i_Simpl_Poset (by decide) (l := (gt L' i).2.2) (n := (gt L' i).1) (OwK.ext hO x118) (hE11.1 _ hgm).cell (Nat.le_trans h11.size x118.size) hdl fun v' w' hO' hg' hlo' => ?_
          refine iAdd (by omega) ?_
          refine hKn' (v', i + 1) _ ⟨by show i + 1 ≤ L'.length; omega, (h11.trans x118).grown hg' hlo', ?_⟩ (by show L'.length - (i + 1) < L'.length - i; omega)
          rw [hstep]; exact hO'
        · rw [if_neg (by rw [hb]; simp)] at hstep
          refine iAdd (by omega) ?_
          refine hKn' (ov, i + 1) _ ⟨by show i + 1 ≤ L'.length; omega, h11.trans x115, ?_⟩ (by show L'.length - (i + 1) < L'.length - i; omega)
          rw [hstep]; exact hO15
    · obtain rfl : i = L'.length := by omega
      rw [List.take_length] at hO
      have hs' := hsub L'.length (Nat.le_refl _)
      rw [List.take_length] at hs'
      exact ⟨(x1.trans hX9).trans h11, _, OwK.mono hO (Nat.le_trans hsz1 hX9.size), (hE11.sub hs').mono hsz1, ddA_set ordP hsort hmem⟩
end Go.Proofs.YtfhdhdgabdpmkaaGreat

/- Contracts: the reference's parts and core of a poset. Conditions: none. -/
namespace Go.Proofs.YtfhdhdgabdpmkaaGreat
open Go.Vc
theorem ok_spec_l21Before {w : World} {a b : PR} (ha : SlI w a.2.1 a.2.2) (hb : SlI w b.2.1 b.2.2) : Ret Tryz.prog f_spec_l21Before #[valR a, valR b] w (.bool (ltP (keyR a) (keyR b))) := by
  apply c_spec_l21Before; unfold S_spec_l21Before
  refine iNew fun b2 w1 hb2 x1 hB2 => ?_
  refine iNew fun b3 w2 hb3 x2 hB3 => ?_
  have hB2 : Blk _ w2 b2 [.int .i64 a.1, a.2.1] := hB2.ext x2
  have hB3 : Blk _ w2 b3 [.int .i64 b.1, b.2.1] := hB3
  have hX := x1.trans x2
  ((with_reducible refine iFa ?_); refine iLdB (by assumption) (by first | rfl | simp) ?_; (with_reducible refine iFa ?_); refine iLdB (by assumption) (by first | rfl | simp) ?_; (with_reducible refine iNe ?_))
  refine iCndP (fun h => ?_) (fun h => ?_)
  · ((with_reducible refine iFa ?_); refine iLdB (by assumption) (by first | rfl | simp) ?_; (with_reducible refine iFa ?_); refine iLdB (by assumption) (by first | rfl | simp) ?_; (with_reducible refine iLt ?_))
    refine ⟨?_, hX⟩
    unfold ltP keyR
    have : ¬ a.1 = b.1 := h
    rw [decide_eq_false this, Bool.false_and, Bool.or_false]
  · ((with_reducible refine iFa ?_); refine iLdB (by assumption) (by first | rfl | simp) ?_; (with_reducible refine iFa ?_); refine iLdB (by assumption) (by first | rfl | simp) ?_)
    refine iRet (ok_spec_l01Less (ha.ext hX) (hb.ext hX)) fun w3 x3 => ?_
    refine ⟨?_, hX.trans x3⟩
    have h : a.1 = b.1 := by omega
    unfold ltP keyR
    rw [decide_eq_false (show ¬ a.1 < b.1 by omega), decide_eq_true h, Bool.false_or, Bool.true_and]
theorem ok_spec_l34Parts {f : Fr} (hp : Po f) (h6 : f.n ≤ 6) {v : Value} {w : World} (hs : SlN w v f.a) :
    Cal Tryz.prog f_spec_l34Parts #[.agg #[.int .i64 (f.n : Int), v]] w fun r w' => Ext w w' ∧ ∃ L, RowR w.heap.size t_impl_Poset w' r L ∧ Els w.heap.size t_i64 w' L ∧ L.map keyR = partsL f := by
  apply c_spec_l34Parts; unfold S_spec_l34Parts
  refine iNew fun b w1 hb x1 hB => ?_
  have hsz1 := x1.size
  refine iBsA0 fun v8 w2 _ x2 ho2 => ?_
  refine iLp (fun s : Value × Nat => [s.1, .int .i64 (s.2 : Int)]) (fun s w' => s.2 ≤ f.n ∧ Ext w1 w' ∧ ∃ L, RowR w1.heap.size t_impl_Poset w' s.1 L ∧ Els w1.heap.size t_i64 w' L ∧ L.map keyR = setA ltP ((List.range s.2).map (coneP f))) (fun s => f.n - s.2) (v8, 0) rfl ⟨Nat.zero_le _, x2, [], ho2, Els.nil _ _ _, rfl⟩ ?_
  rintro ⟨ov, k⟩ w4 Kn ⟨hk, h4, L, hL, hE, hkey⟩ hKn
  have hk : k ≤ f.n := hk
  have hL : RowR w1.heap.size t_impl_Poset w4 ov L := hL
  have hkey : L.map keyR = setA ltP ((List.range k).map (coneP f)) := hkey
  have hLl : L.length ≤ k := by
    have h := setA_len (lt := ltP) ((List.range k).map (coneP f))
    rw [← hkey] at h
    simpa using h
  have hX4 := x1.trans h4
  have hB4 := hB.ext h4
  (intro _; (try simp only [gx]); (with_reducible refine iFa ?_); refine iLdB (by assumption) (by first | rfl | simp) ?_; (with_reducible refine iLt ?_))
  refine iCndP (fun h5 => ?_) (fun h5 => ?_)
  · have hk1 : k < f.n := by omega
    refine iLdA hB4 rfl ?_
    refine iCall ((ok_spec_l34Cone hp.ok (hs.ext hX4) k hk1).mono ?_)
    rintro _ w5 ⟨x5, v', rfl, ho5⟩
    refine iFd' (by rfl) ?_
    have hm := hp.ok.lt hk1
    have hcn : (partFr f (f.a.getD k 0)).n ≤ 6 := Nat.le_trans (mem_len hp.ok hm) h6
    have hpo := part_ok hp.ok hm
    refine iCall ((ok_spec_l05Least ho5.sl (by rw [hpo.2.1]; exact hcn) (fun x hx => Nat.lt_of_lt_of_le (hpo.2.2 x hx) (Nat.pow_le_pow_right (by omega) (by omega)))).mono ?_)
    rintro u w6 ⟨x6, ho6⟩
    have hcl : (least (partFr f (f.a.getD k 0)).a).length = (coneF f k).n := coneF_len hp hk1
    have hcn' : (coneF f k).n ≤ 6 := hcn
    refine iCall ((ok_spec_l16Make ho6.sl (by omega)).mono ?_)
    rintro _ w7 ⟨x7, u', rfl, ho7⟩
    rw [hcl]
    refine iNew fun b5 w8 hb5 x8 hB8 => ?_
    have ho8 := ho7.ext x8
    refine iStAB hB8 rfl rfl (ho8.pair _) fun w9 hu9 hB9 => ?_
    have h47 := (x5.trans x6).trans x7
    have h78 : Ext w7 w9 := x8.upd hu9 (by omega)
    have h49 := h47.trans h78
    have ho9 := ho7.ext h78
    -- the new element
    have hq : keyR (((coneF f k).n : Int), u', nats (coneF f k).a) = coneP f k := rfl
    generalize hqq : (((coneF f k).n : Int), u', nats (coneF f k).a) = q at hq
    have hq1 : q.1 = ((coneF f k).n : Int) := by rw [← hqq]
    have hq2 : q.2.1 = u' := by rw [← hqq]
    have hq3 : q.2.2 = nats (coneF f k).a := by rw [← hqq]
    have ho9 : Ow w6.heap.size t_i64 w9 q.2.1 (ints q.2.2) := by rw [hq2, hq3]; exact ho9
    have hB9 : Blk t_impl_Poset w9 b5 [.int .i64 q.1, q.2.1] := by rw [hq1, hq2]; exact hB9
    have hset : setA ltP ((List.range (k + 1)).map (coneP f)) = insA ltP (keyR q) (L.map keyR) := by
      rw [List.range_succ, List.map_append, List.map_cons, List.map_nil, setA_snoc, ← hkey, hq]
    have hdist : ∀ r ∈ L, ∀ c, r.2.1.ownBlock = some c → q.2.1.ownBlock ≠ some c := fun r hr c hc hc' => by
      have h1 := ((hE.1 r hr).blk c hc).2
      have h2 := (ho9.blk c hc').1
      have := (x5.trans x6).size
      omega
    refine iLp (fun t : Nat => [.int .i64 (t : Int)]) (fun t w' => t ≤ L.length ∧ Ext w9 w' ∧ ∀ i, i < t → ltP (keyR (gt L i)) (keyR q) = true) (fun t => L.length - t) 0 rfl ⟨Nat.zero_le _, Ext.refl _, fun i hi => by omega⟩ ?_
    rintro t w11 Kn' ⟨ht, h11, hlt⟩ hKn'
    have hX11 := h49.trans h11
    have hL11 := hL.ext hX11
    have hE11 := hE.ext hX11
    have hB11 := hB9.ext h11
    have ho11 := ho9.ext h11
    intro _
    simp only [gx]
    refine iJnB (decide (t < L.length) && ltP (keyR (gt L t)) (keyR q)) w11 (fun J hJ => ?_) (fun w13 x13 => ?_)
    · refine iLenK hL11.sl (iLt ?_)
      refine iCndP (fun h => ?_) (fun h => ?_)
      · have htl : t < L.length := by omega
        rw [decide_eq_true htl, Bool.true_and] at hJ
        refine iRdX (j := t) hL11.sl rfl htl ?_
        refine iLdA hB11 rfl ?_
        have hm : gt L t ∈ L := by rw [gt_eq htl]; exact List.getElem_mem _
        refine iRetQ (fun w' h' => ok_spec_l21Before ((hE11.1 _ hm).ext h').sl (ho11.ext h').sl) ?_
        intro w14 x14
        exact hJ w14 x14
      · have htl : ¬ t < L.length := by omega
        rw [decide_eq_false htl, Bool.false_and] at hJ
        intro w15 x15
        exact hJ w15 x15
    intro _
    simp only [gx]
    have hL13 := hL11.ext x13
    have hE13 := hE11.ext x13
    have hB13 := hB11.ext x13
    have ho13 := ho11.ext x13
    refine iCnd (fun hc => ?_) (fun hc => ?_)
    · rw [Bool.and_eq_true, decide_eq_true_eq] at hc
      refine iAdd (by omega) ?_
      refine hKn' (t + 1) _ ⟨by omega, h11.trans x13, fun i hi => ?_⟩ (by omega)
      by_cases hit : i = t
      · subst hit; exact hc.2
      · exact hlt i (by omega)
    · -- where the new element belongs
      have hsplit : insA ltP (keyR q) (L.map keyR) = (L.take t).map keyR ++ insA ltP (keyR q) ((L.drop t).map keyR) := by
        have h1 := insA_split (lt := ltP) (t := keyR q) (l := L.map keyR) (k := t) (by simpa using ht) fun i hi => by
          have e : gt (L.map keyR) i = keyR (gt L i) := by rw [gt_eq (by simpa using (by omega : i < L.length)), gt_eq (by omega)]; simp
          rw [e]; exact hlt i hi
        rw [h1, List.map_take, List.map_drop]
      refine iJnB (decide (t < L.length) && !ltP (keyR q) (keyR (gt L t))) w13 (fun J hJ => ?_) (fun w17 x17 => ?_)
      · refine iLenK hL13.sl (iLt ?_)
        refine iCndP (fun h => ?_) (fun h => ?_)
        · have htl : t < L.length := by omega
          rw [decide_eq_true htl, Bool.true_and] at hJ
          refine iLdA hB13 rfl ?_
          refine iRdX (j := t) hL13.sl rfl htl ?_
          have hm : gt L t ∈ L := by rw [gt_eq htl]; exact List.getElem_mem _
          refine iRetQ (fun w' h' => ok_spec_l21Before (ho13.ext h').sl ((hE13.1 _ hm).ext h').sl) ?_
          refine iNot ?_
          intro w18 x18
          exact hJ w18 x18
        · have htl : ¬ t < L.length := by omega
          rw [decide_eq_false htl, Bool.false_and] at hJ
          intro w15 x15
          exact hJ w15 x15
      intro _
      simp only [gx]
      have hX17 := (hX11.trans x13).trans x17
      have hL17 := hL13.ext x17
      have hE17 := hE13.ext x17
      have hB17 := hB13.ext x17
      have ho17 := ho13.ext x17
      refine iCnd (fun hd => ?_) (fun hd => ?_)
      · rw [Bool.and_eq_true, decide_eq_true_eq, Bool.not_eq_true'] at hd
        refine iAdd (by omega) ?_
        refine hKn (ov, k + 1) _ ⟨by show k + 1 ≤ f.n; omega, h4.trans hX17, L, hL17, hE17, ?_⟩ (by show f.n - (k + 1) < f.n - k; omega)
        show L.map keyR = _
        rw [hset, hsplit, List.drop_eq_getElem_cons hd.1, List.map_cons]
        have hn : ltP (keyR L[t]) (keyR q) = false := by
          rw [decide_eq_true hd.1, Bool.true_and, gt_eq hd.1] at hc
          exact hc
        have hn2 : ltP (keyR q) (keyR L[t]) = false := by rw [← gt_eq hd.1]; exact hd.2
        rw [insA, if_neg (by rw [hn]; simp), if_neg (by rw [hn2]; simp), ← List.map_cons, ← List.map_append, ← List.drop_eq_getElem_cons hd.1, List.take_append_drop]
      · have hins : insA ltP (keyR q) ((L.drop t).map keyR) = keyR q :: (L.drop t).map keyR := by
          rcases Nat.lt_or_ge t L.length with htl | htl
          · rw [decide_eq_true htl, Bool.true_and] at hc hd
            rw [gt_eq htl] at hc hd
            have hd' : ltP (keyR q) (keyR L[t]) = true := by simpa using hd
            rw [List.drop_eq_getElem_cons htl, List.map_cons, insA, if_neg (by rw [hc]; simp), if_pos hd']
          · rw [List.drop_of_length_le htl]; rfl
        have hcells : ∀ M : List PR, (∀ r ∈ M, r ∈ L ∨ r = q) → ∀ u ∈ cellsR M, isCell u = true := fun M hM u hu => by
          obtain ⟨r, hr, hru⟩ := List.mem_flatMap.1 hu
          have hcr : isCell r.2.1 = true := by
            rcases hM r hr with h | h
            · exact (hE.1 r h).cell
            · rw [h]; exact ho9.cell
          simp only [List.mem_cons, List.not_mem_nil, or_false] at hru
          rcases hru with rfl | rfl
          · rfl
          · exact hcr
        refine iBsA0 fun v48 w20 _ x20 ho20 => ?_
        refine iHY (k := 2) (i := t) (OwK.ext hL17 x20).sl ht fun v51 hs51 => ?_
        rw [cellsR_take] at hs51
        refine iAppK (k := 2) u_Simpl_Poset i_Simpl_Poset rfl (by omega) ho20 hs51 (hcells _ fun r hr => .inl (List.mem_of_mem_take hr)) (by omega) (by omega) x20.size fun v52 w21 ho21 hg21 _ => ?_
        have x21 : Ext w17 w21 := x20.grown hg21 fun c hc => (ho20.blk c hc).1
        refine iLdA (hB17.ext x21) rfl ?_
        refine iBsA fun b22 w22 hb22 x22 hB22 => ?_
        have hs22 := (OwK.ofBlk (k := 2) (lo := w21.heap.size) hB22 (by omega) rfl (by omega)).sl
        refine iAppK (k := 2) u_Simpl_Poset i_Simpl_Poset rfl (by omega) (OwK.ext ho21 x22) hs22 (hcells [q] fun r hr => .inr (by simpa using hr)) (by omega) (by omega) ((x21.trans x22).size) fun v56 w23 ho23 hg23 _ => ?_
        have x23 : Ext w17 w23 := (x21.trans x22).grown hg23 fun c hc => (ho21.blk c hc).1
        refine iTY (k := 2) (i := t) (OwK.ext hL17 x23).sl rfl ht fun v60 hs60 => ?_
        rw [cellsR_drop] at hs60
        refine iAppK (k := 2) u_Simpl_Poset i_Simpl_Poset rfl (by omega) ho23 hs60 (hcells _ fun r hr => .inl (List.mem_of_mem_drop hr)) (by omega) (by omega) x23.size fun v61 w24 ho24 hg24 _ => ?_
        have x24 : Ext w17 w24 := x23.grown hg24 fun c hc => (ho23.blk c hc).1
        refine iAdd (by omega) ?_
        have hE24 : Els w1.heap.size t_i64 w24 (L ++ [q]) := (hE17.snoc (n := q.1) (ho17.mono (by have := (x5.trans x6).size; have := h4.size; omega)) hdist).ext x24
        have hperm : List.Perm (L.take t ++ [q] ++ L.drop t) (L ++ [q]) := by
          conv => rhs; rw [← List.take_append_drop t L]
          rw [List.append_assoc, List.append_assoc]
          exact List.Perm.append_left _ List.perm_append_comm
        refine hKn (v61, k + 1) _ ⟨by show k + 1 ≤ f.n; omega, h4.trans (hX17.trans x24), L.take t ++ [q] ++ L.drop t, ?_, hE24.perm hperm, ?_⟩ (by show f.n - (k + 1) < f.n - k; omega)
        · have e : cellsR (L.take t ++ [q] ++ L.drop t) = [] ++ cellsR (L.take t) ++ [.int .i64 q.1, q.2.1] ++ cellsR (L.drop t) := by rw [cellsR_app, cellsR_app]; rfl
          have el : (L.take t ++ [q] ++ L.drop t).length = 0 + t + 1 + (L.length - t) := by rw [List.length_append, List.length_append, List.length_take, List.length_drop, List.length_singleton]; omega
          show OwK 2 _ _ w24 v61 _ _
          rw [e, el]
          exact OwK.mono ho24 (by have := (h4.trans hX17).size; omega)
        · rw [hset, hsplit, hins, List.map_append, List.map_append]
          simp
  · obtain rfl : k = f.n := by omega
    exact ⟨hX4, L, OwK.mono hL hsz1, hE.mono hsz1, hkey⟩
theorem ok_spec_l34Core {f : Fr} (hp : Po f) (h6 : f.n ≤ 6) {v : Value} {w : World} (hs : SlN w v f.a) :
    Cal Tryz.prog f_spec_l34Core #[.agg #[.int .i64 (f.n : Int), v]] w fun r w' => Ext w w' ∧ ∃ L, RowR w.heap.size t_impl_Poset w' r L ∧ Els w.heap.size t_i64 w' L ∧ L.map keyR = coreL f := by
  apply c_spec_l34Core; unfold S_spec_l34Core
  refine iNew fun b w1 hb x1 hB => ?_
  have hsz1 := x1.size
  refine iLdA hB rfl ?_
  refine iCall ((ok_spec_l34Parts hp h6 (hs.ext x1)).mono ?_)
  rintro pv w2 ⟨x2, L, hL, hE, hkey⟩
  have hLn : L.length ≤ f.n := by
    have := partsL_len f
    rw [← hkey] at this
    simpa using this
  have hQl : (partsL f).length = L.length := by rw [← hkey]; simp
  have hQ : ∀ i (hi : i < L.length), keyR (gt L i) = (partsL f).getD i (0, []) ∧ gt L i ∈ L := fun i hi => by
    rw [gt_eq hi]
    refine ⟨?_, List.getElem_mem _⟩
    rw [← hkey, List.getD_eq_getElem?_getD, List.getElem?_map, List.getElem?_eq_getElem hi]; rfl
  have hPo : ∀ i (hi : i < L.length), Po (frP (partsL f) i) ∧ (gt L i).1 = ((frP (partsL f) i).n : Int) ∧ (gt L i).2.2 = nats (frP (partsL f) i).a := fun i hi => by
    have h1 := (partsL_po hp).at (i := i) (by omega)
    have e : (partsL f)[i]'(by omega) = keyR (gt L i) := by
      rw [(hQ i hi).1, List.getD_eq_getElem?_getD, List.getElem?_eq_getElem (by omega)]; rfl
    rw [e] at h1
    exact h1
  refine iBsA0 fun v13 w3 _ x3 ho3 => ?_
  refine iLp (fun s : Value × Nat => [s.1, .int .i64 (s.2 : Int)]) (fun s w' => s.2 ≤ L.length ∧ Ext w2 w' ∧ ∃ M, List.Sublist M (L.take s.2) ∧ RowR w2.heap.size t_impl_Poset w' s.1 M ∧ M.map keyR = coreK (partsL f) s.2) (fun s => L.length - s.2) (v13, 0) rfl ⟨Nat.zero_le _, x3, [], List.Sublist.slnil, ho3, rfl⟩ ?_
  rintro ⟨ov, i⟩ w5 Kn ⟨hi, h5, M, hsub, hM, hMk⟩ hKn
  have hi : i ≤ L.length := hi
  have hsub : List.Sublist M (L.take i) := hsub
  have hM : RowR w2.heap.size t_impl_Poset w5 ov M := hM
  have hMk : M.map keyR = coreK (partsL f) i := hMk
  intro _
  simp only [gx]
  refine iLenK (OwK.ext hL h5).sl (iLt ?_)
  refine iCndP (fun h => ?_) (fun h => ?_)
  · have hi1 : i < L.length := by omega
    refine iLp (fun s : Bool × Nat => [.bool s.1, .int .i64 (s.2 : Int)]) (fun s w' => s.2 ≤ L.length ∧ Ext w5 w' ∧ s.1 = aloneK (partsL f) i s.2) (fun s => L.length - s.2) (true, 0) rfl ⟨Nat.zero_le _, Ext.refl _, rfl⟩ ?_
    rintro ⟨al, k⟩ w7 Kn' ⟨hk, h7, hal⟩ hKn'
    have hk : k ≤ L.length := hk
    have hal : al = aloneK (partsL f) i k := hal
    have h57 := h5.trans h7
    intro _
    simp only [gx]
    refine iJnB (al && decide (k < L.length)) w7 (fun J hJ => ?_) (fun w9 x9 => ?_)
    · refine iCnd (fun h => ?_) (fun h => ?_)
      · rw [h, Bool.true_and] at hJ
        refine iLenK (OwK.ext hL h57).sl (iLt ?_)
        have e : decide ((k : Int) < (L.length : Nat)) = decide (k < L.length) := by
          rw [decide_eq_decide]; omega
        rw [e]
        exact hJ w7 (Ext.refl _)
      · rw [h, Bool.false_and] at hJ
        exact hJ w7 (Ext.refl _)
    intro _
    simp only [gx]
    have h59 := h57.trans x9
    refine iCnd (fun hc => ?_) (fun hc => ?_)
    · rw [Bool.and_eq_true, decide_eq_true_eq] at hc
      have hsucc := aloneK_succ (partsL f) i k
      rw [← hal, hc.1, Bool.true_and] at hsucc
      refine iNe (iCndP (fun hne => ?_) (fun hne => ?_))
      · have hne : ¬ k = i := by omega
        rw [decide_eq_false hne, Bool.false_or] at hsucc
        refine iRdX (j := k) (OwK.ext hL h59).sl rfl hc.2 ?_
        refine iRdX (j := i) (OwK.ext hL h59).sl rfl hi1 ?_
        intro w10 x10
        have hE10 := (hE.ext h59).ext x10
        obtain ⟨p1, p2, p3⟩ := hPo k hc.2
        obtain ⟨q1, q2, q3⟩ := hPo i hi1
        have sk : SlN w10 (gt L k).2.1 (frP (partsL f) k).a := by
          have := (hE10.1 _ (hQ k hc.2).2).sl
          rw [p3] at this; exact this
        have si : SlN w10 (gt L i).2.1 (frP (partsL f) i).a := by
          have := (hE10.1 _ (hQ i hi1).2).sl
          rw [q3] at this; exact this
        unfold valR
        rw [p2, q2]
        refine iCall ((ok_spec_l21Part p1 q1.ok sk si).mono ?_)
        rintro _ w11 ⟨x11, vr, rfl, _⟩
        ((with_reducible refine iE30 ?_; refine iE31 ?_; refine iE32 ?_))
        intro w12 x12
        ((with_reducible refine iNot ?_); refine iAdd (by omega) ?_)
        refine hKn' (!(partOut (frP (partsL f) k) (frP (partsL f) i)).isSome, k + 1) _ ⟨by show k + 1 ≤ L.length; omega, ((h7.trans x9).trans x10).trans (x11.trans x12), ?_⟩ (by show L.length - (k + 1) < L.length - k; omega)
        show (!(partOut (frP (partsL f) k) (frP (partsL f) i)).isSome) = aloneK (partsL f) i (k + 1)
        rw [hsucc]
        cases partOut (frP (partsL f) k) (frP (partsL f) i) <;> rfl
      · have hne : k = i := by omega
        rw [decide_eq_true hne, Bool.true_or] at hsucc
        refine iAdd (by omega) ?_
        refine hKn' (al, k + 1) _ ⟨by show k + 1 ≤ L.length; omega, h7.trans x9, ?_⟩ (by show L.length - (k + 1) < L.length - k; omega)
        show al = aloneK (partsL f) i (k + 1)
        rw [hsucc]; exact hc.1
    · have hres : al = alone (partsL f) i := by
        rcases Nat.lt_or_ge k L.length with hkl | hkl
        · rw [decide_eq_true hkl, Bool.and_true] at hc
          unfold alone
          rw [hc]
          rw [hc] at hal
          symm
          rw [Bool.eq_false_iff]
          intro hT
          unfold aloneK at hT hal
          rw [List.all_eq_true] at hT
          have := List.all_eq_false.1 hal.symm
          obtain ⟨j, hj, hjn⟩ := this
          exact hjn (hT j (List.mem_range.2 (by have := List.mem_range.1 hj; omega)))
        · rw [hal]
          unfold alone
          rw [hQl, show k = L.length by omega]
      have hcs := coreK_succ (partsL f) i
      refine iCnd (fun ha => ?_) (fun ha => ?_)
      · rw [← hres, if_pos ha] at hcs
        refine iRdX (j := i) (OwK.ext hL h59).sl rfl hi1 ?_
        have hMl : M.length ≤ 1000 := by have := hsub.length_le; rw [List.length_take] at this; omega
        have hx := h7.trans x9
        refine RowR.app (t := t_Simpl_Poset) u_Simpl_Poset i_Simpl_Poset (by decide) (l := (gt L i).2.2) (n := (gt L i).1) (OwK.ext hM hx) (hE.1 _ (hQ i hi1).2).cell (Nat.le_trans h5.size hx.size) hMl fun v' w' hO' hg' hlo' => ?_
        refine iAdd (by omega) ?_
        refine hKn (v', i + 1) _ ⟨by show i + 1 ≤ L.length; omega, (h5.trans hx).grown hg' hlo', M ++ [gt L i], ?_, hO', ?_⟩ (by show L.length - (i + 1) < L.length - i; omega)
        · show List.Sublist (M ++ [gt L i]) (L.take (i + 1))
          rw [List.take_succ_eq_append_getElem hi1, gt_eq hi1]
          exact hsub.append (List.Sublist.refl _)
        · show (M ++ [gt L i]).map keyR = coreK (partsL f) (i + 1)
          rw [hcs, List.map_append, hMk, List.map_cons, List.map_nil, (hQ i hi1).1]
      · rw [← hres, if_neg (by rw [ha]; simp)] at hcs
        refine iAdd (by omega) ?_
        refine hKn (ov, i + 1) _ ⟨by show i + 1 ≤ L.length; omega, (h5.trans h7).trans x9, M, ?_, hM.ext (h7.trans x9), by show M.map keyR = coreK (partsL f) (i + 1); rw [hcs, hMk]⟩ (by show L.length - (i + 1) < L.length - i; omega)
        show List.Sublist M (L.take (i + 1))
        rw [List.take_succ_eq_append_getElem hi1]
        exact hsub.trans (List.sublist_append_left _ _)
  · obtain rfl : i = L.length := by omega
    rw [List.take_length] at hsub
    refine ⟨(x1.trans x2).trans h5, M, OwK.mono hM (Nat.le_trans hsz1 x2.size), ((hE.ext h5).sub hsub).mono hsz1, ?_⟩
    rw [hMk]
    unfold coreL
    rw [hQl]
end Go.Proofs.YtfhdhdgabdpmkaaGreat

/- Contracts: the program's core of a poset: Clone, Delete, ContainsFunc, CoreOf; the reference's CoreOf. Conditions: none. -/
namespace Go.Proofs.YtfhdhdgabdpmkaaGreat
open Go.Vc
theorem ok_slices_CloneR {lo : Nat} {v : Value} {L : List PR} {w : World} (hs : RowR lo t_impl_Poset w v L) (hc : ∀ r ∈ L, isCell r.2.1 = true) (hL : L.length ≤ 1000) :
    Cal Tryz.prog f_slices_Clone_Simpl_Poset_impl_Poset #[v] w fun r w' => Ext w w' ∧ RowR w.heap.size t_impl_Poset w' r L := by
  apply c_slices_Clone_Simpl_Poset_impl_Poset; unfold S_slices_Clone_Simpl_Poset_impl_Poset
  have hcells : ∀ u ∈ cellsR L, isCell u = true := fun u hu => by
    obtain ⟨r, hr, hru⟩ := List.mem_flatMap.1 hu
    simp only [List.mem_cons, List.not_mem_nil, or_false] at hru
    rcases hru with rfl | rfl
    · rfl
    · exact hc r hr
  obtain ⟨_, a, c, rfl, hlc, hcm, hcells'⟩ := hs.sl
  refine ⟨trivial, rfl, iCnd (fun h1 => ?_) (fun h1 => ?_)⟩
  · refine ⟨Ext.refl _, ?_⟩
    cases a with
    | some ad => simp [isNilS] at h1
    | none =>
      rcases hcells' with h | ⟨b, o, h, _⟩
      · have : L = [] := List.length_eq_zero_iff.1 h
        rw [this]; exact OwK.nil _ _ _ _
      · cases h
  · refine iBsA0 fun u w1 _ x1 ho => ?_
    refine iAppK (k := 2) u_Simpl_Poset i_Simpl_Poset rfl (by omega) ho (OwK.ext hs x1).sl hcells (by omega) (by omega) x1.size fun v' w2 ho2 hg _ => ?_
    refine ⟨x1.grown hg fun c hc => (ho.blk c hc).1, ?_⟩
    show OwK 2 _ _ w2 v' _ _
    rw [Nat.zero_add, List.nil_append] at ho2
    exact ho2
theorem ok_slices_DeleteR {lo i : Nat} {v : Value} {L : List PR} {w : World} (hs : RowR lo t_impl_Poset w v L) (hc : ∀ r ∈ L, isCell r.2.1 = true) (hi : i < L.length) (hL : L.length ≤ 1000) :
    Cal Tryz.prog f_slices_Delete_Simpl_Poset_impl_Poset #[v, .int .i64 (i : Int), .int .i64 ((i + 1 : Nat) : Int)] w fun r w' => RowR lo t_impl_Poset w' r (L.take i ++ L.drop (i + 1)) ∧ Ch (fun c => v.ownBlock = some c) w w' := by
  apply c_slices_Delete_Simpl_Poset_impl_Poset; unfold S_slices_Delete_Simpl_Poset_impl_Poset
  obtain ⟨g, cap, cur, rfl, hg, hcap, hR, hx⟩ := OwK.rx hs (by omega)
  have hcl := hR.2.1
  have hcm := hR.2.2
  have hA : cur.take (i * 2) = cellsR (L.take i) := by rw [← cellsR_take, ← hx, List.take_take, Nat.min_eq_left (by omega)]
  have hB : (cur.drop ((i + 1) * 2)).take ((L.length - (i + 1)) * 2) = cellsR (L.drop (i + 1)) := by rw [← cellsR_drop, ← hx, List.drop_take]; congr 1; omega
  have hB2 : (cellsR (L.drop (i + 1))).length = (L.length - (i + 1)) * 2 := by rw [cellsR_len, List.length_drop]
  have hBc : ∀ u ∈ cellsR (L.drop (i + 1)), isCell u = true := fun u hu => by
    obtain ⟨r, hr, hru⟩ := List.mem_flatMap.1 hu
    simp only [List.mem_cons, List.not_mem_nil, or_false] at hru
    rcases hru with rfl | rfl
    · rfl
    · exact hc r (List.mem_of_mem_drop hr)
  refine iLenL ?_
  refine ⟨.slice (if L.length = i then some ⟨g, 0, none⟩ else (some (⟨g, 0, none⟩ : Addr)).map (·.add (i * 2))) (i + 1 - i) (L.length - i), fun w' _ => ?_, ?_⟩
  · have h1 : ((i + 1 : Nat) : Int) ≤ (L.length : Int) := by omega
    have h2 : (L.length : Int) ≤ (cap : Int) := by omega
    have h3 : (i : Int) ≤ ((i + 1 : Nat) : Int) := by omega
    have hz : ∀ w, (sizeOf t_impl_Poset).run Tryz.prog w = .ok 2 w := Tryz.sizeOf29
    have b1 := run_sliceBound (P := Tryz.prog) w' .i64 (L.length : Int) cap .slice3Acap (by omega) h2
    have b2 := run_sliceBound (P := Tryz.prog) w' .i64 ((i + 1 : Nat) : Int) L.length .slice3B (by omega) h1
    have b3 := run_sliceBound (P := Tryz.prog) w' .i64 (i : Int) (i + 1) .slice3C (by omega) h3
    rw [Int.toNat_natCast] at b1 b2 b3
    simp only [Instr.sliceAt, Instr.slice, Instr.sliceBounds, Sem.run_bind, Sem.run_pure, run_underlying u_Simpl_Poset, Result.andThen_ok, b1, b2, b3, hz, if_true, Option.isSome_some]
  refine iEq (iCndF (decide_eq_false (by omega)) ?_)
  refine iLenL ?_
  refine iHX (k := i) (by omega) ?_
  refine iTX (l := i + 1) (by omega) hcap fun o2 ho2 => ?_
  intro w1 x1
  have hR1 := hR.ext x1
  refine iAppRx (i := i) (m := L.length - (i + 1)) u_Simpl_Poset i_Simpl_Poset hR1 (hR1.sl (l := i + 1) (m := L.length - (i + 1)) (fun _ => by have := ho2 (by omega); omega) (by omega) (by omega) (by omega)) (by rw [hB]; exact hBc) (by omega) fun w2 hR2 hc2 => ?_
  rw [hB] at hR2
  intro w3 x3
  have hR3 := hR2.ext x3
  have hn : i + (L.length - (i + 1)) = L.length - 1 := by omega
  rw [hn]
  refine iLenL ?_
  refine iMX (l := L.length - 1) (k := L.length) (by omega) (by omega) (by omega) ?_
  refine iClrX (l := L.length - 1) u_Simpl_Poset i_Simpl_Poset rfl (by simp [Value.cells, isCell]) hR3 (by omega) (by omega) (by omega) fun ys w4 hys hR4 hc4 => ?_
  have hS : ∀ c, c = g → (Value.slice (some ⟨g, 0, none⟩) L.length cap).ownBlock = some c := fun c e => by rw [e]; rfl
  refine ⟨?_, ((x1.ch.trans (hc2.mono hS) fun _ h => .inl h).trans (x3.ch (S := fun _ => False)) (fun _ h => h.elim)).trans (hc4.mono hS) fun _ h => .inl h⟩
  show OwK 2 lo _ w4 _ _ _
  have hlen : (L.take i ++ L.drop (i + 1)).length = L.length - 1 := by rw [List.length_append, List.length_take, List.length_drop]; omega
  rw [hlen, cellsR_app]
  refine hR4.own hg (by omega) ?_
  have h2l : (putX cur (i * 2) (cellsR (L.drop (i + 1)))).length = cap * 2 := by rw [putX_len (by omega), hcl]
  rw [putX_low (by omega) (by omega), putX_take (by omega) (by omega), hA]
theorem ok_CF_row {v fv : Value} {w : World} {L : List PR} (hs : SlK 2 w v L.length (cellsR L)) (p : PR → Bool)
    (hf : ∀ r ∈ L, ∀ w', Ext w w' → callV Tryz.prog fv [valR r] w' fun u w'' => u = .bool (p r) ∧ Ext w' w'') :
    Ret Tryz.prog f_slices_ContainsFunc_Simpl_Poset_impl_Poset #[v, fv] w (.bool (L.any p)) := by
  have hlen := hs.len
  have hidx : Cal Tryz.prog f_slices_IndexFunc_Simpl_Poset_impl_Poset #[v, fv] w fun r w' => Ext w w' ∧ ∃ j : Int, r = .int .i64 j ∧ decide (0 ≤ j) = L.any p := by
    apply c_slices_IndexFunc_Simpl_Poset_impl_Poset; unfold S_slices_IndexFunc_Simpl_Poset_impl_Poset
    refine iLenK hs ?_
    refine iLp (fun k : Nat => [.int .i64 (k : Int)]) (fun k w' => k ≤ L.length ∧ Ext w w' ∧ (L.take k).any p = false) (fun k => L.length - k) 0 rfl ⟨Nat.zero_le _, Ext.refl _, rfl⟩ ?_
    rintro k w2 Kn ⟨hk, h2, hno⟩ hKn
    have hs2 := SlK.ext hs h2
    intro _
    simp only [gx]
    refine iLt (iCndP (fun h3 => ?_) (fun h3 => ?_))
    · have hk1 : k < L.length := by omega
      have ht : L.take (k + 1) = L.take k ++ [gt L k] := by rw [List.take_succ_eq_append_getElem hk1, gt_eq hk1]
      have hm : gt L k ∈ L := by rw [gt_eq hk1]; exact List.getElem_mem _
      refine iRdX (j := k) hs2 rfl hk1 ?_
      refine (hf _ hm w2 h2).mono ?_
      rintro _ w3 ⟨rfl, h4⟩
      refine iCnd (fun h5 => ?_) (fun h5 => ?_)
      · refine ⟨h2.trans h4, (k : Int), rfl, ?_⟩
        rw [decide_eq_true (by omega)]
        symm
        rw [List.any_eq_true]
        exact ⟨_, hm, h5⟩
      · refine iAdd (by omega) ?_
        refine hKn (k + 1) _ ⟨by omega, h2.trans h4, ?_⟩ (by omega)
        rw [ht, List.any_append, hno, Bool.false_or]
        simpa using h5
    · refine ⟨h2, -1, rfl, ?_⟩
      rw [List.take_of_length_le (by omega)] at hno
      rw [hno]; rfl
  apply c_slices_ContainsFunc_Simpl_Poset_impl_Poset; unfold S_slices_ContainsFunc_Simpl_Poset_impl_Poset
  refine iCall (hidx.mono ?_)
  rintro _ w1 ⟨h1, j, rfl, hj⟩
  refine iLe ?_
  exact ⟨by rw [hj], h1⟩
/-- A list of one poset. -/
theorem slp_one {e : TypeId} {b : Nat} {w : World} {n : Int} {v : Value} {l : List Int} (hB : Blk e w b [.int .i64 n, v]) (hs : SlI w v l) : SlP w (.slice (some ⟨b, 0, none⟩) 1 1) [(n, l)] := by
  refine ⟨_, 1, rfl, by simp, by omega, .inr ⟨b, 0, rfl, fun i n' l' hi => ?_⟩⟩
  cases i with
  | zero =>
    simp only [List.getElem?_cons_zero, Option.some.injEq, Prod.mk.injEq] at hi
    obtain ⟨rfl, rfl⟩ := hi
    exact ⟨v, by rw [hB.cell]; rfl, by rw [hB.cell]; rfl, hs⟩
  | succ i => simp at hi
theorem ok_spec_CoreOf {w : World} {v : Value} {l : List Int} (hs : SlI w v l) (n : Int) : Cal Tryz.prog f_spec_CoreOf #[.agg #[.int .i64 n, v]] w fun r w' => Ext w w' ∧ ∃ u L, r = .tuple #[u, .int .i64 (coreRes n l).2] ∧ RowR w.heap.size t_impl_Poset w' u L ∧ Els w.heap.size t_i64 w' L ∧ L.map keyR = (coreRes n l).1 := by
  apply c_spec_CoreOf; unfold S_spec_CoreOf
  refine iNew fun b w1 hb x1 hB => ?_
  refine iLdA hB rfl ?_
  refine iBsA fun b2 w2 hb2 x2 hB2 => ?_
  have hX2 := x1.trans x2
  refine iRet (ok_spec_l34Code (slp_one hB2 (hs.ext hX2))) fun w3 x3 => ?_
  have hX3 := hX2.trans x3
  unfold coreRes
  refine iNe (iCndP (fun h => ?_) (fun h => ?_))
  · rw [if_neg h]
    exact ⟨hX3, _, [], rfl, OwK.nil _ _ _ _, Els.nil _ _ _, rfl⟩
  · have h : codeS [(n, l)] = 0 := by simpa using h
    rw [if_pos h]
    obtain ⟨hok, hn⟩ := codeS_one h
    obtain ⟨hp, e1, e2⟩ := posetOk_po hok
    have hs3 : SlN w3 v (frOf n l).a := by have := hs.ext hX3; rw [e2] at this; exact this
    refine iLdA ((hB.ext x2).ext x3) rfl ?_
    rw [e1]
    refine iCall ((ok_spec_l34Core hp (by omega) hs3).mono ?_)
    rintro u w4 ⟨x4, L, hL, hE, hk⟩
    have hz := hX3.size
    rw [← e1]
    refine ⟨hX3.trans x4, u, L, ?_, OwK.mono hL hz, hE.mono hz, hk⟩
    rfl
theorem alone_any {Q : List (Int × List Int)} {L : List PR} {i : Nat} (hk : L.map keyR = Q) (hi : i < L.length) (p : PR → Bool) (hp : ∀ j, j < L.length → p (gt L j) = (partOut (frP Q j) (frP Q i)).isSome) : (!(L.take i ++ L.drop (i + 1)).any p) = alone Q i := by
  have hl : Q.length = L.length := by rw [← hk]; simp
  rw [Bool.eq_iff_iff, Bool.not_eq_true', List.any_eq_false]
  unfold alone aloneK
  rw [List.all_eq_true]
  constructor
  · intro h j hj
    rw [List.mem_range, hl] at hj
    by_cases hji : j = i
    · rw [decide_eq_true hji, Bool.true_or]
    · have hm : gt L j ∈ L.take i ++ L.drop (i + 1) := by
        rw [gt_eq hj, List.mem_append]
        rcases Nat.lt_or_ge j i with h' | h'
        · exact .inl (List.mem_take_iff_getElem.2 ⟨j, by omega, rfl⟩)
        · refine .inr (List.mem_drop_iff_getElem.2 ⟨j - (i + 1), by omega, ?_⟩)
          congr 1; omega
      have := h _ hm
      rw [hp j hj] at this
      rw [decide_eq_false hji, Bool.false_or]
      cases hpo : partOut (frP Q j) (frP Q i)
      · rfl
      · rw [hpo] at this; simp at this
  · intro h r hr
    have : ∃ j, j < L.length ∧ j ≠ i ∧ gt L j = r := by
      rcases List.mem_append.1 hr with hr | hr
      · obtain ⟨j, hj, e⟩ := List.mem_take_iff_getElem.1 hr
        exact ⟨j, by omega, by omega, by rw [gt_eq (by omega)]; exact e⟩
      · obtain ⟨j, hj, e⟩ := List.mem_drop_iff_getElem.1 hr
        exact ⟨i + 1 + j, by omega, by omega, by rw [gt_eq (by omega)]; exact e⟩
    obtain ⟨j, hj, hji, rfl⟩ := this
    have := h j (List.mem_range.2 (by omega))
    rw [decide_eq_false hji, Bool.false_or] at this
    rw [hp j hj]
    cases hpo : partOut (frP Q j) (frP Q i)
    · simp
    · rw [hpo] at this; cases this
theorem ok_impl_CoreOf {w : World} {v : Value} {l : List Int} (hs : SlI w v l) (n : Int) : Cal Tryz.prog f_impl_CoreOf #[.agg #[.int .i64 n, v]] w fun r w' => Ext w w' ∧ ∃ u L, r = .tuple #[u, .int .i64 (coreRes n l).2] ∧ RowR w.heap.size t_impl_Poset w' u L ∧ Els w.heap.size t_i64 w' L ∧ L.map keyR = (coreRes n l).1 := by
  apply c_impl_CoreOf; unfold S_impl_CoreOf
  refine iNew fun b w1 hb x1 hB => ?_
  refine iLdA hB rfl ?_
  refine iBsA fun b2 w2 hb2 x2 hB2 => ?_
  have hX2 := x1.trans x2
  refine iRet (ok_impl_sixCode (slp_one hB2 (hs.ext hX2))) fun w3 x3 => ?_
  have hX3 := hX2.trans x3
  unfold coreRes
  refine iNe (iCndP (fun h => ?_) (fun h => ?_))
  · rw [if_neg h]
    exact ⟨hX3, _, [], rfl, OwK.nil _ _ _ _, Els.nil _ _ _, rfl⟩
  have h : codeS [(n, l)] = 0 := by simpa using h
  rw [if_pos h]
  obtain ⟨hok, hn⟩ := codeS_one h
  obtain ⟨hp, e1, e2⟩ := posetOk_po hok
  have hs3 : SlN w3 v (frOf n l).a := by have := hs.ext hX3; rw [e2] at this; exact this
  refine iLdA ((hB.ext x2).ext x3) rfl ?_
  rw [e1]
  refine iCall ((ok_impl_rootedParts hp (by omega) hs3).mono ?_)
  rintro pv w4 ⟨x4, L, hL, hE, hkey⟩
  rw [← e1]
  generalize frOf n l = f at *
  have hLn : L.length ≤ f.n := by
    have := partsL_len f
    rw [← hkey] at this
    simpa using this
  have hf8 := hp.ok.1
  have hQl : (partsL f).length = L.length := by rw [← hkey]; simp
  have hQ : ∀ i (hi : i < L.length), keyR (gt L i) = (partsL f).getD i (0, []) ∧ gt L i ∈ L := fun i hi => by
    rw [gt_eq hi]
    refine ⟨?_, List.getElem_mem _⟩
    rw [← hkey, List.getD_eq_getElem?_getD, List.getElem?_map, List.getElem?_eq_getElem hi]; rfl
  have hPo : ∀ i (hi : i < L.length), Po (frP (partsL f) i) ∧ (gt L i).1 = ((frP (partsL f) i).n : Int) ∧ (gt L i).2.2 = nats (frP (partsL f) i).a := fun i hi => by
    have h1 := (partsL_po hp).at (i := i) (by omega)
    have e : (partsL f)[i]'(by omega) = keyR (gt L i) := by
      rw [(hQ i hi).1, List.getD_eq_getElem?_getD, List.getElem?_eq_getElem (by omega)]; rfl
    rw [e] at h1
    exact h1
  refine iLenK hL.sl ?_
  refine iLp (fun s : Value × Nat => [s.1, .int .i64 (s.2 : Int)]) (fun s w' => s.2 ≤ L.length ∧ Ext w4 w' ∧ ∃ M, List.Sublist M (L.take s.2) ∧ RowR w4.heap.size t_impl_Poset w' s.1 M ∧ M.map keyR = coreK (partsL f) s.2) (fun s => L.length - s.2) (.slice none 0 0, 0) rfl ⟨Nat.zero_le _, Ext.refl _, [], List.Sublist.slnil, OwK.nil _ _ _ _, rfl⟩ ?_
  rintro ⟨ov, i⟩ w6 Kn ⟨hi, h6, M, hsub, hM, hMk⟩ hKn
  have hi : i ≤ L.length := hi
  have hsub : List.Sublist M (L.take i) := hsub
  have hM : RowR w4.heap.size t_impl_Poset w6 ov M := hM
  have hMk : M.map keyR = coreK (partsL f) i := hMk
  intro _
  simp only [gx]
  refine iLt (iCndP (fun h => ?_) (fun h => ?_))
  · have hi1 : i < L.length := by omega
    obtain ⟨q1, q2, q3⟩ := hPo i hi1
    have hgm := (hQ i hi1).2
    refine iRdX (j := i) (OwK.ext hL h6).sl rfl hi1 ?_
    refine iNew fun b8 w7 hb8 x7 hB8 => ?_
    have o7 := ((hE.ext h6).ext x7).1 _ hgm
    refine iStAB hB8 rfl rfl (o7.pair _) fun w8 hu8 hB8' => ?_
    have x8 : Ext w6 w8 := x7.upd hu8 (by omega)
    have h48 := h6.trans x8
    refine iCall ((ok_slices_CloneR (OwK.ext hL h48) (fun r hr => (hE.1 r hr).cell) (by omega)).mono ?_)
    rintro cv w9 ⟨x9, hcv⟩
    refine iAdd (by omega) ?_
    have ei : (i : Int) + 1 = ((i + 1 : Nat) : Int) := by omega
    rw [ei]
    refine iCall ((ok_slices_DeleteR hcv (fun r hr => (hE.1 r hr).cell) hi1 (by omega)).mono ?_)
    rintro dv w10 ⟨hdv, hc10⟩
    have x10 : Ext w8 w10 := x9.thenCh hc10 fun c hc => (OwK.blk hcv c hc).1
    have hX10 := h48.trans x10
    refine iLdA (hB8'.ext x10) rfl ?_
    have hpj : ∀ j, j < L.length → (fun r : PR => (partOut (frOf r.1 r.2.2) (frP (partsL f) i)).isSome) (gt L j) = (partOut (frP (partsL f) j) (frP (partsL f) i)).isSome := fun j hj => by
      have e : frOf (gt L j).1 (gt L j).2.2 = frP (partsL f) j := by
        have := (hQ j hj).1
        unfold frP
        rw [← this]; rfl
      show (partOut (frOf (gt L j).1 (gt L j).2.2) _).isSome = _
      rw [e]
    have hCF := ok_CF_row (w := w10) (fv := .func (.func f_impl_Poset_belongsTo) #[valR (gt L i)] #[]) hdv.sl (fun r : PR => (partOut (frOf r.1 r.2.2) (frP (partsL f) i)).isSome) (fun r hr w' x' => by
      have hrL : r ∈ L := by
        rcases List.mem_append.1 hr with hr | hr
        · exact List.mem_of_mem_take hr
        · exact List.mem_of_mem_drop hr
      obtain ⟨j, hj, rfl⟩ := List.getElem_of_mem hrL
      rw [← gt_eq hj]
      obtain ⟨p1, p2, p3⟩ := hPo j hj
      have hE' := (hE.ext hX10).ext x'
      have sj : SlN w' (gt L j).2.1 (frP (partsL f) j).a := by
        have := (hE'.1 _ (hQ j hj).2).sl
        rw [p3] at this; exact this
      have si : SlN w' (gt L i).2.1 (frP (partsL f) i).a := by
        have := (hE'.1 _ hgm).sl
        rw [q3] at this; exact this
      have hb := ok_impl_belongsTo p1 q1.ok sj si
      have hpe : (partOut (frOf (gt L j).1 (gt L j).2.2) (frP (partsL f) i)).isSome = (partOut (frP (partsL f) j) (frP (partsL f) i)).isSome := hpj j hj
      rw [hpe]
      unfold valR
      rw [p2, q2]
      refine iClo rfl ?_
      exact hb)
    refine iRet hCF fun w11 x11 => ?_
    have hal := alone_any (i := i) hkey hi1 (fun r : PR => (partOut (frOf r.1 r.2.2) (frP (partsL f) i)).isSome) hpj
    refine iNot ?_
    rw [hal]
    have hcs := coreK_succ (partsL f) i
    have x611 := x8.trans (x10.trans x11)
    refine iCnd (fun ha => ?_) (fun ha => ?_)
    · rw [if_pos ha] at hcs
      refine iLdA ((hB8'.ext x10).ext x11) rfl ?_
      have hMl : M.length ≤ 1000 := by have := hsub.length_le; rw [List.length_take] at this; omega
      refine RowR.app (t := t_Simpl_Poset) u_Simpl_Poset i_Simpl_Poset (by decide) (l := (gt L i).2.2) (n := (gt L i).1) (OwK.ext hM x611) (hE.1 _ hgm).cell (Nat.le_trans h6.size x611.size) hMl fun v' w' hO' hg' hlo' => ?_
      refine iAdd (by omega) ?_
      refine hKn (v', i + 1) _ ⟨by show i + 1 ≤ L.length; omega, (h6.trans x611).grown hg' hlo', M ++ [gt L i], ?_, hO', ?_⟩ (by show L.length - (i + 1) < L.length - i; omega)
      · show List.Sublist (M ++ [gt L i]) (L.take (i + 1))
        rw [List.take_succ_eq_append_getElem hi1, gt_eq hi1]
        exact hsub.append (List.Sublist.refl _)
      · show (M ++ [gt L i]).map keyR = coreK (partsL f) (i + 1)
        rw [hcs, List.map_append, hMk, List.map_cons, List.map_nil, (hQ i hi1).1]
    · rw [if_neg (by rw [ha]; simp)] at hcs
      refine iAdd (by omega) ?_
      refine hKn (ov, i + 1) _ ⟨by show i + 1 ≤ L.length; omega, h6.trans x611, M, ?_, OwK.ext hM x611, by show M.map keyR = coreK (partsL f) (i + 1); rw [hcs, hMk]⟩ (by show L.length - (i + 1) < L.length - i; omega)
      show List.Sublist M (L.take (i + 1))
      rw [List.take_succ_eq_append_getElem hi1]
      exact hsub.trans (List.sublist_append_left _ _)
  · obtain rfl : i = L.length := by omega
    rw [List.take_length] at hsub
    have hz := (hX3.trans x4).size
    refine ⟨(hX3.trans x4).trans h6, ov, M, rfl, OwK.mono hM hz, ((hE.ext h6).sub hsub).mono hX3.size, ?_⟩
    rw [hMk]
    unfold coreL
    rw [hQl]
end Go.Proofs.YtfhdhdgabdpmkaaGreat

/- The law on CoreOf: rows that are marked, and what its body answers. Conditions: none. -/
namespace Go.Proofs.YtfhdhdgabdpmkaaGreat
open Go.Vc
/-- The rows of a list that has been marked from k on. -/
def mkR : Nat → List PR → List PR
  | _, [] => []
  | k, r :: L => ((k : Int), r.2.1, marks (k + 1) r.2.2.length) :: mkR (k + 1 + r.2.2.length) L
def totR (L : List PR) : Nat := (L.map fun r => 1 + r.2.2.length).sum
theorem totR_app (A B : List PR) : totR (A ++ B) = totR A + totR B := by simp [totR]
theorem totR_take (L : List PR) (k : Nat) : totR (L.take k) ≤ totR L := by
  conv => rhs; rw [← List.take_append_drop k L, totR_app]
  omega
theorem totR_succ {L : List PR} {k : Nat} (h : k < L.length) : totR (L.take (k + 1)) = totR (L.take k) + (1 + L[k].2.2.length) := by
  rw [List.take_succ_eq_append_getElem h, totR_app]; simp [totR]
theorem mkR_app (A B : List PR) : ∀ k, mkR k (A ++ B) = mkR k A ++ mkR (k + totR A) B := by
  induction A with
  | nil => intro k; simp [mkR, totR]
  | cons r A ih =>
    intro k
    rw [List.cons_append, mkR, mkR, ih, List.cons_append]
    congr 3
    simp only [totR, List.map_cons, List.sum_cons]; omega
theorem mkR_len (L : List PR) : ∀ k, (mkR k L).length = L.length := by
  induction L with
  | nil => intro k; rfl
  | cons r L ih => intro k; rw [mkR, List.length_cons, ih, List.length_cons]
theorem mkR_at {L : List PR} {k j : Nat} (h : j < L.length) : gt (mkR k L) j = (((k + totR (L.take j) : Nat) : Int), L[j].2.1, marks (k + totR (L.take j) + 1) L[j].2.2.length) := by
  have e : mkR k L = mkR k (L.take j) ++ mkR (k + totR (L.take j)) (L.drop j) := by rw [← mkR_app, List.take_append_drop]
  have hl : (mkR k (L.take j)).length = j := by rw [mkR_len, List.length_take]; omega
  unfold gt
  rw [e, List.drop_eq_getElem_cons h, mkR, List.getD_eq_getElem?_getD, List.getElem?_append_right (by omega), hl, Nat.sub_self]
  rfl
theorem Els.upd {lo : Nat} {e0 : TypeId} {w w' : World} {L : List PR} {k : Nat} (h : Els lo e0 w L) (hk : k < L.length) {n : Int} {l : List Int} (hc : Ch (fun c => L[k].2.1.ownBlock = some c) w w') (ho : Ow lo e0 w' L[k].2.1 (ints l)) : Els lo e0 w' (L.set k (n, L[k].2.1, l)) := by
  have hp := List.pairwise_iff_getElem.1 h.2
  have hd : ∀ i j (hi : i < L.length) (hj : j < L.length), i ≠ j → ∀ c, L[i].2.1.ownBlock = some c → L[j].2.1.ownBlock ≠ some c := fun i j hi hj hij c hc => by
    rcases Nat.lt_or_ge i j with h' | h'
    · exact hp i j hi hj h' c hc
    · exact fun hc' => hp j i hj hi (by omega) c hc' hc
  refine ⟨fun r hr => ?_, List.pairwise_iff_getElem.2 fun i j hi hj hij => ?_⟩
  · obtain ⟨i, hi, rfl⟩ := List.getElem_of_mem hr
    rw [List.length_set] at hi
    rw [List.getElem_set]
    split
    · exact ho
    · rename_i hne
      exact (h.1 _ (List.getElem_mem hi)).ch hc fun c hc' hc'' => hd i k hi hk (fun e => hne e.symm) c hc' hc''
  · rw [List.length_set] at hi hj
    have hv : ∀ i (hi : i < L.length), ((L.set k (n, L[k].2.1, l))[i]'(by rw [List.length_set]; exact hi)).2.1 = L[i].2.1 := fun i hi => by
      rw [List.getElem_set]
      split
      · rename_i e; subst e; rfl
      · rfl
    rw [hv i hi, hv j hj]
    exact hp i j hi hj hij
theorem ok_laws_markPosetR {lo : Nat} {e : TypeId} {v : Value} {w : World} {L : List PR} (hne : t_i64 ≠ e) (hs : RowR lo e w v L) (hE : Els lo t_i64 w L) (hl : totR L ≤ 1000000000) :
    Cal Tryz.prog f_laws_markPosetS #[v, .int .i64 1] w fun r w' => r = .int .i64 ((1 + totR L : Nat) : Int) ∧ RowR lo e w' v (mkR 1 L) ∧ Els lo t_i64 w' (mkR 1 L) ∧ Ch (fun c => lo ≤ c) w w' := by
  apply c_laws_markPosetS; unfold S_laws_markPosetS
  have hcap := hs.sl.len
  refine iLp (fun k : Nat => [.int .i64 ((1 + totR (L.take k) : Nat) : Int), .int .i64 (k : Int)]) (fun k w' => k ≤ L.length ∧ Ch (fun c => lo ≤ c) w w' ∧ RowR lo e w' v (mkR 1 (L.take k) ++ L.drop k) ∧ Els lo t_i64 w' (mkR 1 (L.take k) ++ L.drop k)) (fun k => L.length - k) 0 (by simp [totR]) ⟨Nat.zero_le _, (Ext.refl w).ch, by simpa [mkR] using hs, by simpa [mkR] using hE⟩ ?_
  rintro k w2 Kn ⟨hk, hch, hs2, hE2⟩ hKn
  have hml : (mkR 1 (L.take k)).length = k := by rw [mkR_len, List.length_take]; omega
  have hMl : (mkR 1 (L.take k) ++ L.drop k).length = L.length := by rw [List.length_append, hml, List.length_drop]; omega
  have hlen : ∀ {K : Value → Prop}, K (.int .i64 (L.length : Nat)) → xLenS v K := fun h => iLenK hs2.sl (by rw [hMl]; exact h)
  have htk := totR_take L k
  intro _
  simp only [gx]
  refine hlen ?_
  refine iLt (iCndP (fun h3 => ?_) (fun h3 => ?_))
  · have hkL : k < L.length := by omega
    have hkM : k < (mkR 1 (L.take k) ++ L.drop k).length := by omega
    have hMk : (mkR 1 (L.take k) ++ L.drop k)[k] = L[k] := by
      rw [List.getElem_append_right (by omega)]
      simp [hml]
    have ht := totR_succ hkL
    have htk1 := totR_take L (k + 1)
    refine iStFX (f := 0) hs2 rfl hkM (by omega) rfl fun w3 hs3 hc3 => ?_
    have hE3 : Els lo t_i64 w3 (mkR 1 (L.take k) ++ L.drop k) := hE2.ch hc3 fun r hr c hc hv => OwK.ne_ow hs2 (hE2.1 r hr) (fun h => hne h.symm) hv hc
    have hv := (hs2.blk)
    rw [Nat.add_zero, cellsR_set0 _ _ _ (marks (1 + totR (L.take k) + 1) L[k].2.2.length) hkM] at hs3
    have hgk : gt (mkR 1 (L.take k) ++ L.drop k) k = L[k] := by rw [gt_eq hkM, hMk]
    rw [hgk] at hs3
    have hs3 : RowR lo e w3 v ((mkR 1 (L.take k) ++ L.drop k).set k (((1 + totR (L.take k) : Nat) : Int), L[k].2.1, marks (1 + totR (L.take k) + 1) L[k].2.2.length)) := by show OwK 2 lo e _ _ _ _; rw [List.length_set]; exact hs3
    refine iAdd (by omega) ?_
    refine iRdXs (j := k) hs3.sl rfl (by rw [List.length_set]; exact hkM) ?_
    have hg3 : gt ((mkR 1 (L.take k) ++ L.drop k).set k (((1 + totR (L.take k) : Nat) : Int), L[k].2.1, marks (1 + totR (L.take k) + 1) L[k].2.2.length)) k = (((1 + totR (L.take k) : Nat) : Int), L[k].2.1, marks (1 + totR (L.take k) + 1) L[k].2.2.length) := by rw [gt_set _ hkM, if_pos rfl]
    rw [hg3]
    have ho3 : Ow lo t_i64 w3 L[k].2.1 (ints L[k].2.2) := hE3.1 _ (by rw [← hMk]; exact List.getElem_mem hkM)
    have e1 : ((1 + totR (L.take k) : Nat) : Int) + 1 = ((1 + totR (L.take k) + 1 : Nat) : Int) := by omega
    rw [e1]
    refine iCall ((ok_laws_markInt64S ho3 (1 + totR (L.take k) + 1) (by omega)).mono ?_)
    rintro _ w4 ⟨rfl, ho4, hg⟩
    have hc4 : Ch (fun c => L[k].2.1.ownBlock = some c) w3 w4 := grown_ch hg fun c hc => hc
    have hs4 := hs3.ch hc4 fun c hc hc' => OwK.ne_ow hs3 ho3 (fun h => hne h.symm) hc hc'
    have hE4 := Els.upd hE3 hkM (n := ((1 + totR (L.take k) : Nat) : Int)) (l := marks (1 + totR (L.take k) + 1) L[k].2.2.length) (by rw [hMk]; exact hc4) (by rw [hMk]; exact ho4)
    rw [hMk] at hE4
    have e3 : (mkR 1 (L.take k) ++ L.drop k).set k (((1 + totR (L.take k) : Nat) : Int), L[k].2.1, marks (1 + totR (L.take k) + 1) L[k].2.2.length) = mkR 1 (L.take (k + 1)) ++ L.drop (k + 1) := by
      rw [List.set_append_right _ _ (by omega), hml, Nat.sub_self, List.drop_eq_getElem_cons hkL, List.set_cons_zero, List.take_succ_eq_append_getElem hkL, mkR_app]
      simp [mkR]
    rw [e3] at hs4 hE4
    refine iAdd (by omega) ?_
    have e4 : ((1 + totR (L.take k) + 1 + L[k].2.2.length : Nat) : Int) = ((1 + totR (L.take (k + 1)) : Nat) : Int) := by omega
    rw [e4]
    exact hKn (k + 1) _ ⟨by omega, (hch.trans hc3 fun c hc => .inl (hs2.blk c hc).1).trans hc4 fun c hc => .inl (ho3.blk c hc).1, hs4, hE4⟩ (by omega)
  · obtain rfl : k = L.length := by omega
    rw [List.take_length, List.drop_length, List.append_nil] at hs2 hE2
    rw [List.take_length]
    exact ⟨rfl, hs2, hE2, hch⟩
theorem ok_laws_heldPosetR {lo : Nat} {e : TypeId} {v : Value} {w : World} {L : List PR} (hs : RowR lo e w v (mkR 1 L)) (hE : Els lo t_i64 w (mkR 1 L)) (hl : totR L ≤ 1000000000) :
    Ret Tryz.prog f_laws_heldPosetS #[v, .int .i64 1] w (.int .i64 ((1 + totR L : Nat) : Int)) := by
  apply c_laws_heldPosetS; unfold S_laws_heldPosetS
  have hcap := hs.sl.len
  rw [mkR_len] at hcap
  refine iLp (fun k : Nat => [.int .i64 ((1 + totR (L.take k) : Nat) : Int), .int .i64 (k : Int)]) (fun k w' => k ≤ L.length ∧ Ext w w') (fun k => L.length - k) 0 (by simp [totR]) ⟨Nat.zero_le _, Ext.refl w⟩ ?_
  rintro k w2 Kn ⟨hk, h3⟩ hKn
  have hs2 := (hs.ext h3).sl
  have htk := totR_take L k
  intro _
  simp only [gx]
  refine iLenK hs2 ?_
  rw [mkR_len]
  refine iLt (iCndP (fun h4 => ?_) (fun h4 => ?_))
  · have hkL : k < L.length := by omega
    have hkM : k < (mkR 1 L).length := by rw [mkR_len]; exact hkL
    have ht := totR_succ hkL
    have htk1 := totR_take L (k + 1)
    have hg := mkR_at (k := 1) hkL
    refine iRdX0 (j := k) hs2 rfl hkM ?_
    rw [hg]
    refine iNe (iCndP (fun h => absurd rfl h) (fun _ => ?_))
    refine iAdd (by omega) ?_
    refine iRdXs (j := k) hs2 rfl hkM ?_
    rw [hg]
    have e1 : ((1 + totR (L.take k) : Nat) : Int) + 1 = ((1 + totR (L.take k) + 1 : Nat) : Int) := by omega
    rw [e1]
    have ho := (hE.1 _ (List.getElem_mem hkM)).ext h3
    rw [← gt_eq hkM, hg] at ho
    have hh := ok_laws_heldInt64S (l := marks (1 + totR (L.take k) + 1) L[k].2.2.length) ho.sl (1 + totR (L.take k) + 1) (by rw [marks_length]; omega)
    unfold heldN at hh
    rw [marks_length, if_pos rfl] at hh
    refine iRet hh fun w3 h5 => ?_
    refine iLt (iCndP (fun h => absurd h (by omega)) (fun _ => ?_))
    refine iAdd (by omega) ?_
    have e4 : ((1 + totR (L.take k) + 1 + L[k].2.2.length : Nat) : Int) = ((1 + totR (L.take (k + 1)) : Nat) : Int) := by omega
    rw [e4]
    exact hKn (k + 1) _ ⟨by omega, h3.trans h5⟩ (by omega)
  · obtain rfl : k = L.length := by omega
    rw [List.take_length]
    exact ⟨rfl, h3⟩
theorem totR_small {L : List PR} (h : ∀ r ∈ L, r.2.2.length ≤ 8) : totR L ≤ 9 * L.length := by
  induction L with
  | nil => simp [totR]
  | cons r L ih =>
    have h1 := ih fun x hx => h x (List.mem_cons_of_mem _ hx)
    have h2 := h r List.mem_cons_self
    have e : totR (r :: L) = (1 + r.2.2.length) + totR L := by simp [totR]
    rw [e, List.length_cons]; omega
theorem coreRes_small {n : Int} {l : List Int} {L : List PR} (h : L.map keyR = (coreRes n l).1) : totR L ≤ 1000000000 := by
  have key : (∀ r ∈ L, r.2.2.length ≤ 8) ∧ L.length ≤ 8 := by
    unfold coreRes at h
    split at h
    · rename_i hc
      have h : L.map keyR = coreL (frOf n l) := h
      obtain ⟨hp, _, _⟩ := posetOk_po (codeS_one hc).1
      refine ⟨fun r hr => ?_, ?_⟩
      · have hm : keyR r ∈ coreL (frOf n l) := by rw [← h]; exact List.mem_map_of_mem hr
        obtain ⟨h1, h2, h3⟩ := partsL_po hp _ (mem_coreL hm)
        have e : r.2.2.length = (frOf (keyR r).1 (keyR r).2).a.length := by
          have := congrArg List.length h3
          rwa [nats_length] at this
        rw [e, h1.ok.2.1]; exact h1.ok.1
      · have h1 := coreL_len (frOf n l)
        rw [← h, List.length_map] at h1
        have := hp.ok.1
        omega
    · have : L = [] := by simpa using h
      subst this
      exact ⟨fun r hr => (by cases hr), by simp⟩
  have := totR_small key.1
  omega
theorem ok_laws_FnExactCoreOf {w : World} {s0 : Value} {l0 : List Int} (hs0 : SlI w s0 l0) (n0 : Int) : Ret Tryz.prog f_laws_FnExactCoreOf #[.agg #[.int .i64 n0, s0]] w (.bool true) := by
  apply c_laws_FnExactCoreOf; unfold S_laws_FnExactCoreOf
  have hX := Ext.refl w
  refine iNew fun b2 w1 hb2 h hB2 => ?_
  have hX := hX.trans h
  ((with_reducible refine iLdA (by assumption) ?_ ?_); rfl)
  refine iRet (frPoset.sz (hs0.ext hX) n0 1048576 (by omega)) fun w2 h => ?_
  have hX := hX.trans h
  have hB2 := hB2.ext h
  ((with_reducible refine iLt ?_))
  refine iCndP (fun h3 => ⟨rfl, hX⟩) (fun h3 => ?_)
  obtain ⟨hl0, hl0'⟩ := szN_neg _ _ h3
  ((with_reducible refine iLdA (by assumption) ?_ ?_); rfl)
  refine iCall ((frPoset.to (hs0.ext hX) n0 (by omega)).mono ?_)
  rintro _ w3 ⟨h, a0, rfl, ho0⟩
  have hX := hX.trans h
  have hB2 := hB2.ext h
  refine iCall ((ok_spec_CoreOf ho0.sl n0).mono ?_)
  rintro _ w4 ⟨h, r1, L1, rfl, hr1, hE1, hk1⟩
  have hX := hX.trans h
  have hB2 := hB2.ext h
  have hX0 := hX
  have hs0 := hs0.ext hX0
  have hX := Ext.refl w4
  have hfin : ∀ w', Ext w4 w' → (.bool true : Value) = .bool true ∧ Ext w w' := fun w' h => ⟨rfl, hX0.trans h⟩
  have hp1 : ∀ w', Ext w4 w' → SlP w' r1 (coreRes n0 l0).1 := fun w' h => by
    rw [← hk1]; exact RowR.slp (OwK.ext hr1 h) fun r hr => ((hE1.1 r hr).ext h).sl
  ((with_reducible refine iE20 ?_; refine iE21 ?_); (with_reducible refine iLdA (by assumption) ?_ ?_); rfl)
  refine iCall ((frPoset.to (hs0.ext hX) n0 (by omega)).mono ?_)
  rintro _ w5 ⟨h, a8, rfl, ho8⟩
  have ho8 := ho8.mono hX.size
  have hX := hX.trans h
  have hB2 := hB2.ext h
  refine iNew fun b8 w6 hb8 h hD8 => ?_
  have hlo8 : w4.heap.size ≤ b8 := by have := hX.size; omega
  have hX := hX.trans h
  have hB2 := hB2.ext h
  have ho8 := ho8.ext h
  refine iStAB hD8 rfl rfl (ho8.pair n0) fun w7 hu hD8' => ?_
  have hX := hX.upd hu hlo8
  have hB2 := hB2.upd hu (hB2.ne_blk hD8 (by decide))
  have ho8 := ho8.upd hu (ho8.ne_blk hD8 (by decide))
  have hD8 := hD8'
  ((with_reducible refine iLdA (by assumption) ?_ ?_); rfl)
  refine iCall ((ok_impl_CoreOf ho8.sl n0).mono ?_)
  rintro _ w8 ⟨h, r2, L2, rfl, hr2, hE2, hk2⟩
  have hsm := coreRes_small hk2
  have hb8' := fun c (hc : a8.ownBlock = some c) => (ho8.blk c hc).2
  have hb2' := hB2.lt
  have hhi := hX.size
  have hX := hX.trans h
  have hB2 := hB2.ext h
  have ho8 := ho8.ext h
  have hD8 := hD8.ext h
  have hp2 : ∀ w', RowR w7.heap.size t_impl_Poset w' r2 L2 → Els w7.heap.size t_i64 w' L2 → SlP w' r2 (coreRes n0 l0).1 := fun w' h k => by
    rw [← hk2]; exact RowR.slp h fun r hr => (k.1 r hr).sl
  ((with_reducible refine iE20 ?_; refine iE21 ?_))
  refine iJnB false w8 (fun J hJ => ?_) (fun w10 h => ?_)
  · refine iRet (ok_laws_eqPosetS (hp2 _ hr2 hE2) (hp1 _ hX)) fun w11 h => ?_
    ((with_reducible refine iNot ?_))
    refine iCndF rfl ?_
    ((with_reducible refine iNe ?_))
    have := hJ w11 h
    simpa using this
  have hX := hX.trans h
  have hB2 := hB2.ext h
  have ho8 := ho8.ext h
  have hD8 := hD8.ext h
  have hr2 := OwK.ext hr2 h
  have hE2 := hE2.ext h
  (intro _; (try simp only [gx]))
  refine iCndF rfl ?_
  ((with_reducible refine iLdA (by assumption) ?_ ?_); rfl; (with_reducible refine iLdA (by assumption) ?_ ?_); rfl)
  intro w12 h
  have hX := hX.trans h
  have hB2 := hB2.ext h
  have ho8 := ho8.ext h
  have hD8 := hD8.ext h
  have hr2 := OwK.ext hr2 h
  have hE2 := hE2.ext h
  refine iCall ((frPoset.to (hs0.ext hX) n0 (by omega)).mono ?_)
  rintro _ w13 ⟨h, a2, rfl, ho2⟩
  (try refine ⟨h, ?_⟩)
  have hX := hX.trans h
  have hB2 := hB2.ext h
  have ho8 := ho8.ext h
  have hD8 := hD8.ext h
  have hr2 := OwK.ext hr2 h
  have hE2 := hE2.ext h
  refine iRetQ (fun w' h' => frPoset.eq (ho8.ext h').sl (ho2.ext h').sl n0 n0) ?_
  ((with_reducible refine iNot ?_))
  intro w14 h
  have hX := hX.trans h
  have hB2 := hB2.ext h
  have ho8 := ho8.ext h
  have hD8 := hD8.ext h
  have hr2 := OwK.ext hr2 h
  have hE2 := hE2.ext h
  refine iCndF (by simp) ?_
  ((with_reducible refine iLdA (by assumption) ?_ ?_); rfl)
  refine iCall ((frPoset.mark ho8 n0 1 (by omega)).mono ?_)
  rintro _ w15 ⟨rfl, _, hg⟩
  have hX := hX.grown hg fun c hc => (ho8.blk c hc).1
  have hc15 := grown_ch (S := fun c => a8.ownBlock = some c) hg (fun c hc => hc)
  have hE2 := hE2.ch hc15 fun r hr c hc hc' => by have := ((hE2.1 r hr).blk c hc).1; have := hb8' c hc'; omega
  have hr2 : RowR w7.heap.size t_impl_Poset w15 r2 L2 := OwK.ch hr2 hc15 fun c hc hc' => by have := (OwK.blk hr2 c hc).1; have := hb8' c hc'; omega
  have hB2 := hB2.grown hg (ho8.ne_blk hB2 (by decide))
  refine iJnB false w15 (fun J hJ => ?_) (fun w17 h => ?_)
  · ((with_reducible refine iLt ?_))
    refine iCndP (fun h => absurd h (by omega)) (fun _ => ?_)
    refine iRet (ok_laws_eqPosetS (hp2 _ hr2 hE2) (hp1 _ hX)) fun w18 h => ?_
    ((with_reducible refine iNot ?_))
    refine iCndF rfl ?_
    ((with_reducible refine iNe ?_))
    have := hJ w18 h
    simpa using this
  have hX := hX.trans h
  have hB2 := hB2.ext h
  have hr2 := OwK.ext hr2 h
  have hE2 := hE2.ext h
  (intro _; (try simp only [gx]))
  refine iCndF rfl ?_
  refine iCall ((ok_laws_markPosetR (by decide) hr2 hE2 hsm).mono ?_)
  rintro _ w19 ⟨rfl, hr2, hE2, hch⟩
  have hX := hX.thenCh hch fun c hc => Nat.le_trans hhi hc
  have hB2 := hB2.ch hch (by show ¬ _ ≤ b2; omega)
  refine iRet (ok_laws_heldPosetR hr2 hE2 hsm) fun w20 h => ?_
  have hX := hX.trans h
  have hB2 := hB2.ext h
  have hr2 := OwK.ext hr2 h
  have hE2 := hE2.ext h
  ((with_reducible refine iLt ?_))
  refine iCndP (fun h => absurd h (by omega)) (fun _ => ?_)
  ((with_reducible refine iNe ?_))
  refine iCndP (fun h => absurd rfl h) (fun _ => ?_)
  ((with_reducible refine iLdA (by assumption) ?_ ?_); rfl)
  refine iCall ((frPoset.to (hs0.ext hX) n0 (by omega)).mono ?_)
  rintro _ w21 ⟨h, a4, rfl, ho4⟩
  have hX := hX.trans h
  have hr2 := OwK.ext hr2 h
  have hE2 := hE2.ext h
  refine iCall ((ok_impl_CoreOf ho4.sl n0).mono ?_)
  rintro _ w22 ⟨h, r3, L3, rfl, hr3, hE3, hk3⟩
  have hX := hX.trans h
  have hr2 := OwK.ext hr2 h
  have hE2 := hE2.ext h
  have hp3 : SlP w22 r3 (coreRes n0 l0).1 := by
    rw [← hk3]; exact RowR.slp hr3 fun r hr => (hE3.1 r hr).sl
  ((with_reducible refine iE20 ?_; refine iE21 ?_))
  refine iJnB false w22 (fun J hJ => ?_) (fun w24 h => ?_)
  · refine iRet (ok_laws_eqPosetS hp3 (hp1 _ hX)) fun w25 h => ?_
    ((with_reducible refine iNot ?_))
    refine iCndF rfl ?_
    ((with_reducible refine iNe ?_))
    have := hJ w25 h
    simpa using this
  have hX := hX.trans h
  have hr2 := OwK.ext hr2 h
  have hE2 := hE2.ext h
  (intro _; (try simp only [gx]))
  refine iCndF rfl ?_
  refine iRet (ok_laws_heldPosetR hr2 hE2 hsm) fun w26 h => ?_
  have hX := hX.trans h
  ((with_reducible refine iLt ?_))
  refine iCndP (fun h => absurd h (by omega)) (fun _ => ?_)
  ((with_reducible refine iNe ?_))
  refine iCndP (fun h => absurd rfl h) (fun _ => ?_)
  have := hfin _ hX
  simpa using this
end Go.Proofs.YtfhdhdgabdpmkaaGreat
