/- The proof of FnExactTellingFormulas, part 4 of 5. Conditions: none. -/
import Derived.Test.YtfhdhdgabdpmkaaGreatKR24c
/- Plain facts on sorting in place: swaps in a part of a list, insertion, heaps, partitions. No program in sight. Conditions: none. -/
namespace Go.Vc
universe u
section
variable {α : Type u} [Inhabited α]
/-- The k-th element. -/
def gt (L : List α) (k : Nat) : α := L.getD k default
theorem gt_eq {L : List α} {k : Nat} (h : k < L.length) : gt L k = L[k] := by unfold gt; simp [List.getD_eq_getElem?_getD, h]
theorem gt_set {L : List α} {i : Nat} (x : α) (hi : i < L.length) (k : Nat) : gt (L.set i x) k = if k = i then x else gt L k := by
  unfold gt
  simp only [List.getD_eq_getElem?_getD, List.getElem?_set]
  by_cases h : i = k
  · subst h; simp [hi]
  · simp [h, Ne.symm h]
variable {lt : α → α → Bool}
 omit [Inhabited α] in
 omit [Inhabited α] in
 omit [Inhabited α] in
/-! ### Insertion -/
/-! ### Heaps -/
/-! ### Windows -/
end
end Go.Vc

/- Contracts: slices.IndexFunc, DeleteFunc and Index on []int64; masks for Jankov's formulas. Conditions: none. -/
namespace Go.Vc
section
universe u
variable {α : Type u} {enc : α → Value}
/-- The call's own slice v holds L', and nothing else has turned. -/
structure Turn (lo : Nat) (e : TypeId) (enc : α → Value) (v : Value) (w w' : World) (L' : List α) : Prop where
  ow : Ow lo e w' v (L'.map enc)
  ch : Ch (fun c => v.ownBlock = some c) w w'
theorem Turn.refl {lo : Nat} {e : TypeId} {v : Value} {w : World} {L : List α} (h : Ow lo e w v (L.map enc)) : Turn lo e enc v w w L := ⟨h, (Ext.refl w).ch⟩
theorem Turn.ext {lo : Nat} {e : TypeId} {v : Value} {w w' w'' : World} {L : List α} (h : Turn lo e enc v w w' L) (k : Ext w' w'') : Turn lo e enc v w w'' L :=
  ⟨h.ow.ext k, h.ch.trans (k.ch (S := fun _ => False)) fun _ e => e.elim⟩
end
section
variable {P : Program} {w : World} {lo : Nat} {e : TypeId}
theorem Ow.open {v : Value} {xs : List Value} (hs : Ow lo e w v xs) (hne : xs ≠ []) : ∃ g cap, v = .slice (some ⟨g, 0, none⟩) xs.length cap ∧ xs.length ≤ cap ∧ cap ≤ 9223372036854775807 := by
  obtain ⟨_, ⟨_, h0⟩ | ⟨g, cap, cur, hv, _, _, h1, h2, _⟩⟩ := hs
  · exact absurd (List.length_eq_zero_iff.1 h0) hne
  · exact ⟨g, cap, hv, h1, h2⟩
theorem iSlTail {g n cap k : Nat} {ki : IntKind} {K : Value → Prop} (hk : k < n) (hc : n ≤ cap) (h : K (.slice (some ⟨g, k, none⟩) (n - k) (cap - k))) : xSl 1 (.slice (some ⟨g, 0, none⟩) n cap) (some (.int ki (k : Int))) none K := by
  refine ⟨_, _, _, k, n, rfl, rfl, ⟨ki, rfl⟩, by omega, hc, ?_⟩
  rw [if_neg (by omega), Option.map_some, addr_add, Nat.zero_add, Nat.mul_one]
  exact h
theorem iSlHead {g n cap k : Nat} {ki : IntKind} {K : Value → Prop} (hk : k ≤ n) (hc : n ≤ cap) (h : K (.slice (some ⟨g, 0, none⟩) k cap)) : xSl 1 (.slice (some ⟨g, 0, none⟩) n cap) none (some (.int ki (k : Int))) K := by
  refine ⟨_, _, _, 0, k, rfl, ⟨ki, rfl⟩, rfl, Nat.zero_le _, by omega, ?_⟩
  have e : (if cap = 0 then some (⟨g, 0, none⟩ : Addr) else (some (⟨g, 0, none⟩ : Addr)).map (·.add (0 * 1))) = some ⟨g, 0, none⟩ := by
    split
    · rfl
    · simp [Addr.add]
  rw [e, Nat.sub_zero, Nat.sub_zero]
  exact h
theorem iClr {t ty : TypeId} {z : Value} {bytes g n cap k : Nat} {xs : List Value} {K : Value → World → Prop} (ht : P.underlying t = some (.slice e)) (hi : (P.info? e).map (fun i => (i.zero, i.size, i.bytes)) = some (some z, 1, bytes)) (hz : isCell z = true)
    (hs : Ow lo e w (.slice (some ⟨g, 0, none⟩) n cap) xs) (hn : xs.length = n) (hk : k < n) (h : ∀ w', Ow lo e w' (.slice (some ⟨g, 0, none⟩) k cap) (xs.take k) → Ch (fun c => c = g) w w' → K (.tuple #[]) w') :
    xOp P (Builtin.clear_ #[t] ty #[.slice (some ⟨g, k, none⟩) (n - k) (cap - k)]) w K := by
  obtain ⟨i, hi, h3⟩ := Option.map_eq_some_iff.1 hi
  simp only [Prod.mk.injEq] at h3
  obtain ⟨hz0, -, -⟩ := h3
  obtain ⟨-, ⟨hv, -⟩ | ⟨g', cap', cur, hv, hg, hh, h1, h2, h3, h4⟩⟩ := hs
  · cases hv
  · injection hv with e1 e2 e3
    injection e1 with e1
    injection e1 with e1
    subst e1
    subst e3
    rw [hn] at h1 h4
    rw [Nat.mul_one] at h3 h4
    have hzc : (Builtin.zeroCells z.cells (n - k)).toList = List.replicate (n - k) z := by
      rw [isCell_cells hz]
      simp [Builtin.zeroCells]
      apply List.ext_getElem
      · simp
      · intro i h1 h2
        simp [Nat.mod_one]
    have hrun := run_storeCells_at P g k e (List.replicate (n - k) z) 0 cur w hh (by rw [List.length_replicate]; omega) (fun v hv => isCell_one (by rw [List.eq_of_mem_replicate hv]; exact hz))
    refine ⟨_, _, ?_, h (w.setRow g (cur.toList.take (k + 0) ++ List.replicate (n - k) z ++ cur.toList.drop (k + 0 + (List.replicate (n - k) z).length)).toArray) ?_ ?_⟩
    · obtain ⟨m, hm⟩ : ∃ m, n - k = m + 1 := ⟨n - k - 1, by omega⟩
      rw [hm] at hrun hzc ⊢
      simp [Builtin.clear_, run_underlying ht, zeroValue, run_info hi, hz0, hzc, hrun]
    · refine ⟨by simp, .inr ⟨g, cap, _, ?_, hg, setRow_heap w g cur _ e (0, 0) hh, by rw [List.length_take]; omega, h2, ?_, ?_⟩⟩
      · rw [List.length_take, hn, Nat.min_eq_left (by omega)]
      · simp; omega
      · rw [List.length_take, hn, Nat.min_eq_left (by omega), Nat.mul_one, Nat.add_zero, List.take_append_of_le_length (by simp; omega), List.take_append_of_le_length (by simp; omega), List.take_take, Nat.min_self, ← h4, List.take_take, Nat.min_eq_left (by omega)]
    · exact ⟨rfl, rfl, rfl, by rw [setRow_size]; exact Nat.le_refl _, fun c _ hc => setRow_other w g c _ hc⟩
end
theorem gt_takeI {L : List Int} {k i : Nat} (h : i < k) : gt (L.take k) i = gt L i := by unfold gt; simp [List.getD_eq_getElem?_getD, h]
theorem ints_takeJ (L : List Int) (k : Nat) : (ints L).take k = ints (L.take k) := by simp [ints, List.map_take]
theorem filter_noneI {p : Int → Bool} {L : List Int} (h : ∀ j, j < L.length → p (gt L j) = false) : L.filter (fun x => !p x) = L := by
  rw [List.filter_eq_self]
  intro x hx
  obtain ⟨j, hj, rfl⟩ := List.getElem_of_mem hx
  rw [← gt_eq hj, h j hj]; rfl
theorem iIaI2 {w : World} {v : Value} {L : List Int} {z : Int} {j : Nat} {k : IntKind} {K : Value → Prop} (hs : SlI w v L) (hz : z = (j : Int)) (hj : j < L.length) (h : K (.int .i64 (gt L j))) : xIa 1 v (.int k z) fun p => xLd w p K := by
  subst hz
  refine iIa (j := (j : Int)) hs (by omega) (by rw [ints_length]; omega) fun p hp => ?_
  refine iLd (hp.trans ?_) h
  rw [Int.toNat_natCast, gt_eq hj]
  simp [ints, hj]
end Go.Vc
namespace Go.Proofs.YtfhdhdgabdpmkaaGreat
open Go.Vc
theorem ok_slices_IndexFuncN {v fv : Value} {L : List Int} {p : Int → Bool} {w0 w : World} (h0 : Ext w0 w) (hs : SlI w v L) (hf : ∀ x ∈ L, ∀ w', Ext w0 w' → callV Tryz.prog fv [.int .i64 x] w' fun u w'' => u = .bool (p x) ∧ Ext w' w'') :
    Cal Tryz.prog f_slices_IndexFunc_Si64_i64 #[v, fv] w fun r w' => Ext w w' ∧ ((r = .int .i64 (-1) ∧ ∀ j, j < L.length → p (gt L j) = false) ∨ ∃ i : Nat, r = .int .i64 (i : Int) ∧ i < L.length ∧ p (gt L i) = true ∧ ∀ j, j < i → p (gt L j) = false) := by
  apply c_slices_IndexFunc_Si64_i64; unfold S_slices_IndexFunc_Si64_i64
  have hln := hs.len
  refine iLenI hs ?_
  refine iLp (fun i : Nat => [.int .i64 (i : Int)]) (fun i w' => i ≤ L.length ∧ Ext w w' ∧ ∀ j, j < i → p (gt L j) = false) (fun i => L.length - i) 0 rfl ⟨Nat.zero_le _, Ext.refl _, fun j hj => by omega⟩ ?_
  rintro i w2 Kn ⟨hi, h2, hno⟩ hKn
  intro _
  simp only [gx]
  refine iLt ?_
  refine iCndP (fun h => ?_) (fun h => ?_)
  · refine iIaI2 (hs.ext h2) rfl (by omega) ?_
    refine (hf (gt L i) (by rw [gt_eq (show i < L.length by omega)]; exact List.getElem_mem _) w2 (h0.trans h2)).mono ?_
    rintro u w3 ⟨rfl, h23⟩
    refine iCnd (fun h3 => ?_) (fun h3 => ?_)
    · exact ⟨h2.trans h23, .inr ⟨i, rfl, by omega, h3, hno⟩⟩
    · refine iAdd (by omega) ?_
      refine hKn (i + 1) _ ⟨by omega, h2.trans h23, fun j hj => ?_⟩ (by omega)
      by_cases hji : j = i
      · subst hji; exact h3
      · exact hno j (by omega)
  · exact ⟨h2, .inl ⟨by first | trivial | rfl, fun j hj => hno j (by omega)⟩⟩
theorem ok_slices_DeleteFuncN {v fv : Value} {L : List Int} {p : Int → Bool} {w0 w : World} (h0 : Ext w0 w) (hs : Ow w0.heap.size t_i64 w v (ints L)) (hL : L.length ≤ 1099511627776) (hf : ∀ x ∈ L, ∀ w', Ext w0 w' → callV Tryz.prog fv [.int .i64 x] w' fun u w'' => u = .bool (p x) ∧ Ext w' w'') :
    Cal Tryz.prog f_slices_DeleteFunc_Si64_i64 #[v, fv] w fun r w' => Ext w0 w' ∧ Ow w0.heap.size t_i64 w' r (ints (L.filter fun x => !p x)) := by
  apply c_slices_DeleteFunc_Si64_i64; unfold S_slices_DeleteFunc_Si64_i64
  refine iCall ((ok_slices_IndexFuncN h0 hs.sl hf).mono ?_)
  rintro r w1 ⟨x1, ⟨rfl, hno⟩ | ⟨i0, rfl, hi0, hp0, hno⟩⟩
  · refine iEq (iCndT (by decide) ⟨h0.trans x1, ?_⟩)
    rw [filter_noneI hno]; exact hs.ext x1
  refine iEq (iCndF (by simp) ?_)
  refine iAdd (by omega) ?_
  have hs1 := hs.ext x1
  have X1 := h0.trans x1
  obtain ⟨g, cap, hv, hcap, hcm⟩ := hs1.open (by intro e; have := ints_length L; rw [e] at this; simp at this; omega)
  rw [ints_length] at hv hcap
  have hg : v.ownBlock = some g := by rw [hv]; rfl
  have hglo := (hs1.blk g hg).1
  have hfl : ∀ j, L.take (j + 1) = L.take j ++ (if j < L.length then [gt L j] else []) := fun j => by
    split
    · rename_i h; rw [List.take_succ_eq_append_getElem h, gt_eq h]
    · rename_i h; rw [List.append_nil, List.take_of_length_le (by omega), List.take_of_length_le (by omega)]
  refine iLp (fun s : Nat × Nat => [.int .i64 (s.1 : Int), .int .i64 (s.2 : Int)]) (fun s w' => s.1 < s.2 ∧ s.2 ≤ L.length ∧ ∃ M, Turn w0.heap.size t_i64 (fun x => .int .i64 x) v w1 w' M ∧ M.length = L.length ∧ M.take s.1 = (L.take s.2).filter (fun x => !p x) ∧ ∀ j, s.2 ≤ j → gt M j = gt L j) (fun s => L.length - s.2) (i0, i0 + 1) rfl
    ⟨by show i0 < i0 + 1; omega, by show i0 + 1 ≤ _; omega, L, Turn.refl hs1, rfl, ?_, fun _ _ => rfl⟩ ?_
  · show L.take i0 = (L.take (i0 + 1)).filter fun x => !p x
    rw [hfl, if_pos hi0, List.filter_append, List.filter_cons, hp0]
    have : (L.take i0).filter (fun x => !p x) = L.take i0 := filter_noneI fun j hj => by
      rw [List.length_take] at hj
      rw [gt_takeI (by omega)]; exact hno j (by omega)
    rw [this]; simp
  rintro ⟨i, j⟩ w3 Kn ⟨hij, hj, M, ht, hM, hMt, hMe⟩ hKn
  have hij : i < j := hij
  have hj : j ≤ L.length := hj
  have hMt : M.take i = (L.take j).filter (fun x => !p x) := hMt
  have hMe : ∀ k, j ≤ k → gt M k = gt L k := hMe
  have X3 : Ext w0 w3 := X1.thenCh ht.ch fun b hb => by rw [hg] at hb; cases hb; exact hglo
  intro _
  simp only [gx]
  have hlenv : ∀ {K : Value → Prop}, K (.int .i64 (L.length : Nat)) → xLenS v K := fun h => by rw [hv]; exact iLenL h
  refine hlenv ?_
  refine iLt ?_
  refine iCndP (fun h3 => ?_) (fun h3 => ?_)
  · have hjl : j < L.length := by omega
    have hsl : SlI w3 v M := ht.ow.sl
    refine iIaI2 hsl rfl (by omega) ?_
    rw [hMe j (Nat.le_refl _)]
    refine (hf (gt L j) (by rw [gt_eq hjl]; exact List.getElem_mem _) w3 X3).mono ?_
    rintro u w4 ⟨rfl, x4⟩
    have ht4 := ht.ext x4
    refine iNot ?_
    have hfj : (L.take (j + 1)).filter (fun x => !p x) = (L.take j).filter (fun x => !p x) ++ if p (gt L j) then [] else [gt L j] := by
      rw [hfl, if_pos hjl, List.filter_append, List.filter_cons]
      cases p (gt L j) <;> simp
    refine iCnd (fun h4 => ?_) (fun h4 => ?_)
    · rw [show p (gt L j) = false by simpa using h4] at hfj
      refine iIaOw ht4.ow (by omega) (by rw [List.length_map]; omega) fun b o hb _ _ hc hfz hset => ?_
      refine iSt (hc.trans (List.getElem?_eq_getElem (by rw [List.length_map]; omega))) hfz rfl ?_
      have hset := hset (.int .i64 (gt L j))
      rw [Int.toNat_natCast, ← List.map_set] at hset
      refine iAdd (by omega) ?_
      refine iAdd (by omega) ?_
      refine hKn (i + 1, j + 1) _ ⟨by show i + 1 < j + 1; omega, hjl, M.set i (gt L j), ⟨hset, ht4.ch.trans ((Upd.setCell w4 b o _).ch (S := fun c => v.ownBlock = some c) hb) fun _ e => .inl e⟩, by rw [List.length_set]; exact hM, ?_, fun k hk => ?_⟩ (by show L.length - (j + 1) < L.length - j; omega)
      · show (M.set i (gt L j)).take (i + 1) = (L.take (j + 1)).filter fun x => !p x
        rw [hfj, List.take_succ_eq_append_getElem (by rw [List.length_set]; omega), List.getElem_set_self, List.take_set_of_le (Nat.le_refl _), hMt]
        rfl
      · have hk : j + 1 ≤ k := hk
        rw [gt_set _ (by omega), if_neg (by omega)]
        exact hMe k (by omega)
    · rw [show p (gt L j) = true by simpa using h4] at hfj
      refine iAdd (by omega) ?_
      refine hKn (i, j + 1) _ ⟨by show i < j + 1; omega, hjl, M, ht4, hM, ?_, fun k hk => hMe k (by have hk : j + 1 ≤ k := hk; omega)⟩ (by show L.length - (j + 1) < L.length - j; omega)
      show M.take i = _
      rw [hfj, hMt]; simp
  · have hend : j = L.length := by omega
    subst hend
    rw [List.take_length] at hMt
    have ho := ht.ow
    rw [hv] at ho ⊢
    refine iSlTail (k := i) (by omega) hcap ?_
    refine iClr u_Si64 i_Si64 rfl ho (by rw [List.length_map]; exact hM) (by omega) fun w8 h8 hc8 => ?_
    refine iSlHead (k := i) (by omega) hcap ?_
    rw [show (List.map (fun x => Value.int .i64 x) M).take i = ints (M.take i) from ints_takeJ M i, hMt] at h8
    exact ⟨X3.thenCh hc8 fun b hb => by rw [hb]; exact hglo, h8⟩
end Go.Proofs.YtfhdhdgabdpmkaaGreat

/- Contracts: where all that is seen lies in a set; roots; the least elements of a set. Conditions: none. -/
namespace Go.Vc
/-- Where all that is seen lies in m. -/
def boxK (a : List Nat) (m k : Nat) : Nat := setOf ((List.range k).filter fun i => decide (sdiff (a.getD i 0) m = 0))
theorem boxK_succ (a : List Nat) (m k : Nat) : boxK a m (k + 1) = if sdiff (a.getD k 0) m = 0 then boxK a m k ||| 2 ^ k else boxK a m k := by
  unfold boxK
  rw [List.range_succ, List.filter_append]
  by_cases h : sdiff (a.getD k 0) m = 0
  · rw [if_pos h, ← setOf_snoc, List.filter_cons, if_pos (decide_eq_true h), List.filter_nil]
  · rw [if_neg h, List.filter_cons, if_neg (by rw [decide_eq_true_eq]; exact h), List.filter_nil, List.append_nil]
theorem boxK_lt (a : List Nat) (m k : Nat) : boxK a m k < 2 ^ k := setOf_lt fun _ hy => List.mem_range.1 (List.mem_filter.1 hy).1
theorem and_sub {a m : Nat} : a &&& m = a ↔ sdiff a m = 0 := by
  rw [sdiff_eq_zero]
  constructor
  · intro h i hi
    rw [← h, Nat.testBit_and, Bool.and_eq_true] at hi
    exact hi.2
  · intro h
    apply Nat.eq_of_testBit_eq
    intro i
    rw [Nat.testBit_and]
    cases ha : a.testBit i
    · rfl
    · rw [h i ha]; rfl
/-- Some element sees all. -/
def Rooted (f : Fr) : Prop := ∃ k, k < f.n ∧ f.a.getD k 0 = 2 ^ f.n - 1
theorem root_at {f : Fr} {k : Nat} (hk : k < f.n) (h1 : f.a.getD k 0 = 2 ^ f.n - 1) (h2 : ∀ i, i < k → ¬ f.a.getD i 0 = 2 ^ f.n - 1) : rootN f = k := by
  unfold rootN
  rw [List.findIdx_eq (by simpa using hk)]
  refine ⟨by simpa using h1, fun j hj => ?_⟩
  simpa using h2 j hj
theorem Rooted.root {f : Fr} (h : Rooted f) : rootN f < f.n ∧ f.a.getD (rootN f) 0 = 2 ^ f.n - 1 ∧ ∀ i, i < rootN f → ¬ f.a.getD i 0 = 2 ^ f.n - 1 := by
  obtain ⟨k, hk, e⟩ := h
  have key : ∀ k, k < f.n → f.a.getD k 0 = 2 ^ f.n - 1 → ∃ j, j ≤ k ∧ f.a.getD j 0 = 2 ^ f.n - 1 ∧ ∀ i, i < j → ¬ f.a.getD i 0 = 2 ^ f.n - 1 := by
    intro k
    induction k using Nat.strongRecOn with
    | ind k ih =>
      intro hk e
      by_cases h : ∃ i, i < k ∧ f.a.getD i 0 = 2 ^ f.n - 1
      · obtain ⟨i, hi, ei⟩ := h
        obtain ⟨j, h1, h2, h3⟩ := ih i hi (by omega) ei
        exact ⟨j, by omega, h2, h3⟩
      · exact ⟨k, Nat.le_refl _, e, fun i hi he => h ⟨i, hi, he⟩⟩
  obtain ⟨j, h1, h2, h3⟩ := key k hk e
  have := root_at (f := f) (k := j) (by omega) h2 h3
  rw [this]
  exact ⟨by omega, h2, h3⟩
theorem cone_rooted {g : Fr} (hg : Po g) {x : Nat} (hx : x < g.n) : Rooted (partFr g (g.a.getD x 0)) := by
  have hm := hg.ok.lt hx
  have hmc : ∀ y, y ∈ mem (g.a.getD x 0) ↔ (g.a.getD x 0).testBit y = true := fun y => mem_mem (mask63 hg.ok hm)
  have hxm : x ∈ mem (g.a.getD x 0) := (hmc x).2 (hg.refl x hx)
  have hpb : ∀ i j, (((partFr g (g.a.getD x 0)).a.getD i 0).testBit j = true) ↔ i < (mem (g.a.getD x 0)).length ∧ j < (mem (g.a.getD x 0)).length ∧ (g.a.getD ((mem (g.a.getD x 0)).getD i 0) 0).testBit ((mem (g.a.getD x 0)).getD j 0) = true := fun i j => part_bit i j
  have hn : (partFr g (g.a.getD x 0)).n = (mem (g.a.getD x 0)).length := rfl
  unfold Rooted
  rw [hn]
  generalize mem (g.a.getD x 0) = C at *
  have hi := List.idxOf_lt_length_of_mem hxm
  have hxe : C.getD (C.idxOf x) 0 = x := by simp [List.getD_eq_getElem?_getD, hi]
  refine ⟨C.idxOf x, hi, ?_⟩
  apply Nat.eq_of_testBit_eq
  intro j
  rw [Bool.eq_iff_iff, hpb, hxe, Nat.testBit_two_pow_sub_one, decide_eq_true_eq]
  constructor
  · exact fun h => h.2.1
  · intro hj
    exact ⟨hi, hj, (hmc _).1 (getD_mem hj)⟩
end Go.Vc
namespace Go.Proofs.YtfhdhdgabdpmkaaGreat
open Go.Vc
theorem ok_impl_box {v : Value} {w : World} {a : List Nat} (hs : SlN w v a) (hl : a.length ≤ 8) (ha : ∀ x ∈ a, x < 2 ^ 8) (m : Nat) (hm : m < 2 ^ 63) : Ret Tryz.prog f_impl_box #[v, .int .i64 (m : Int)] w (.int .i64 ((boxK a m a.length : Nat) : Int)) := by
  apply c_impl_box; unfold S_impl_box
  ((with_reducible refine iLenN (by assumption) ?_))
  refine iLp (fun k : Nat => [.int .i64 ((boxK a m k : Nat) : Int), .int .i64 (k : Int)]) (fun k w' => k ≤ a.length ∧ Ext w w') (fun k => a.length - k) 0 rfl ⟨Nat.zero_le _, Ext.refl w⟩ ?_
  rintro k w2 Kn ⟨hk, h2⟩ hKn
  have hs2 := hs.ext h2
  (intro _; (try simp only [gx]); (with_reducible refine iLt ?_))
  refine iCndP (fun h3 => ?_) (fun h3 => ?_)
  · have hk1 : k < a.length := by omega
    have hak : a.getD k 0 < 2 ^ 8 := getD_lt ha hk1
    have hb8 : boxK a m k < 2 ^ 8 := Nat.lt_of_lt_of_le (boxK_lt a m k) (Nat.pow_le_pow_right (by omega) (by omega))
    have hbs := boxK_succ a m k
    ((with_reducible refine iIaNN (by assumption) ?_ (fun pa_ hpa_ => ?_)); omega; (with_reducible refine iLd (by assumption) ?_))
    refine iRet (ok_impl_within _ m (by omega) hm w2) fun w3 h4 => ?_
    refine iCndP (fun h5 => ?_) (fun h5 => ?_)
    · rw [if_pos h5] at hbs
      have h2k : 2 ^ k < 2 ^ 63 := Nat.pow_lt_pow_right (by omega) (by omega)
      refine iShlOne (by omega) ?_
      refine iBOr (by omega) h2k ?_
      rw [← hbs]
      (refine iAdd (by omega) ?_)
      exact hKn (k + 1) _ ⟨by omega, h2.trans h4⟩ (by omega)
    · rw [if_neg h5] at hbs
      rw [← hbs]
      (refine iAdd (by omega) ?_)
      exact hKn (k + 1) _ ⟨by omega, h2.trans h4⟩ (by omega)
  · obtain rfl : k = a.length := by omega
    exact ⟨rfl, h2⟩
theorem ok_spec_l01Box {v : Value} {w : World} {a : List Nat} (hs : SlN w v a) (hl : a.length ≤ 8) (ha : ∀ x ∈ a, x < 2 ^ 8) (m : Nat) (hm : m < 2 ^ 63) : Ret Tryz.prog f_spec_l01Box #[v, .int .i64 (m : Int)] w (.int .i64 ((boxK a m a.length : Nat) : Int)) := by
  apply c_spec_l01Box; unfold S_spec_l01Box
  refine iLp (fun k : Nat => [.int .i64 ((boxK a m k : Nat) : Int), .int .i64 (k : Int)]) (fun k w' => k ≤ a.length ∧ Ext w w') (fun k => a.length - k) 0 rfl ⟨Nat.zero_le _, Ext.refl w⟩ ?_
  rintro k w2 Kn ⟨hk, h2⟩ hKn
  have hs2 := hs.ext h2
  (intro _; (try simp only [gx]); (with_reducible refine iLenN (by assumption) ?_; refine iLt ?_))
  refine iCndP (fun h3 => ?_) (fun h3 => ?_)
  · have hk1 : k < a.length := by omega
    have hak : a.getD k 0 < 2 ^ 8 := getD_lt ha hk1
    have hb8 : boxK a m k < 2 ^ 8 := Nat.lt_of_lt_of_le (boxK_lt a m k) (Nat.pow_le_pow_right (by omega) (by omega))
    have hbs := boxK_succ a m k
    ((with_reducible refine iIaNN (by assumption) ?_ (fun pa_ hpa_ => ?_)); omega; (with_reducible refine iLd (by assumption) ?_))
    refine iBAnd (by omega) hm ?_
    ((with_reducible refine iIaNN (by assumption) ?_ (fun pa_ hpa_ => ?_)); omega; (with_reducible refine iLd (by assumption) ?_; refine iEq ?_))
    intro w3 h4
    refine iCndP (fun h5 => ?_) (fun h5 => ?_)
    · have h5 : a.getD k 0 &&& m = a.getD k 0 := by exact_mod_cast h5
      rw [if_pos (and_sub.1 h5)] at hbs
      have h2k : 2 ^ k < 2 ^ 63 := Nat.pow_lt_pow_right (by omega) (by omega)
      refine iRet (ok_spec_l01One k (by omega) w3) fun w4 h6 => ?_
      refine iBOr (by omega) h2k ?_
      rw [← hbs]
      (refine iAdd (by omega) ?_)
      exact hKn (k + 1) _ ⟨by omega, (h2.trans h4).trans h6⟩ (by omega)
    · have h5 : ¬ a.getD k 0 &&& m = a.getD k 0 := fun e => h5 (by exact_mod_cast e)
      rw [if_neg (fun e => h5 (and_sub.2 e))] at hbs
      rw [← hbs]
      (refine iAdd (by omega) ?_)
      exact hKn (k + 1) _ ⟨by omega, h2.trans h4⟩ (by omega)
  · obtain rfl : k = a.length := by omega
    exact ⟨rfl, h2⟩
theorem ok_impl_imply {f : Fr} (hf : f.ok) {v : Value} {w : World} (hs : SlN w v f.a) (a b : Nat) (ha : a < 2 ^ f.n) (hb : b < 2 ^ f.n) : Ret Tryz.prog f_impl_Poset_imply #[.agg #[.int .i64 (f.n : Int), v], .int .i64 (a : Int), .int .i64 (b : Int)] w (.int .i64 ((impM f a b : Nat) : Int)) := by
  apply c_impl_Poset_imply; unfold S_impl_Poset_imply
  have hf8 := hf.1
  have h28 : 2 ^ f.n ≤ 2 ^ 8 := Nat.pow_le_pow_right (by omega) hf8
  refine iNew fun q w1 hq x1 hB => ?_
  have hs1 := hs.ext x1
  ((with_reducible refine iFa ?_); refine iLdB (by assumption) (by first | rfl | simp) ?_; (with_reducible refine iLdA (by assumption) ?_ ?_); rfl)
  refine iRetQ (fun w' _ => ok_impl_Poset_all f.n hf8 v w') ?_
  refine iBAndNot (by omega) (by omega) ?_
  have h1 : sdiff (2 ^ f.n - 1) a < 2 ^ f.n := sdiff_lt (by have := Nat.two_pow_pos f.n; omega)
  refine iBOr (by omega) (by omega) ?_
  have h2 : sdiff (2 ^ f.n - 1) a ||| b < 2 ^ f.n := Nat.or_lt_two_pow h1 hb
  refine iRetQ (fun w' h' => ok_impl_box (hs1.ext h') (by rw [hf.2.1]; exact hf8) (fun x hx => Nat.lt_of_lt_of_le (hf.2.2 x hx) h28) _ (by omega)) ?_
  intro w2 x2
  rw [hf.2.1]
  exact ⟨rfl, x1.trans x2⟩
theorem ok_spec_l17Arrow {f : Fr} (hf : f.ok) {v : Value} {w : World} (hs : SlN w v f.a) (a b : Nat) (ha : a < 2 ^ f.n) (hb : b < 2 ^ f.n) : Ret Tryz.prog f_spec_l17Arrow #[.agg #[.int .i64 (f.n : Int), v], .int .i64 (a : Int), .int .i64 (b : Int)] w (.int .i64 ((impM f a b : Nat) : Int)) := by
  apply c_spec_l17Arrow; unfold S_spec_l17Arrow
  have hf8 := hf.1
  have h28 : 2 ^ f.n ≤ 2 ^ 8 := Nat.pow_le_pow_right (by omega) hf8
  refine iNew fun q w1 hq x1 hB => ?_
  have hs1 := hs.ext x1
  ((with_reducible refine iFa ?_); refine iLdB (by assumption) (by first | rfl | simp) ?_; (with_reducible refine iFa ?_); refine iLdB (by assumption) (by first | rfl | simp) ?_)
  refine iRetQ (fun w' _ => ok_spec_l01Full f.n (by omega) w') ?_
  refine iBAndNot (by omega) (by omega) ?_
  have h1 : sdiff (2 ^ f.n - 1) a < 2 ^ f.n := sdiff_lt (by have := Nat.two_pow_pos f.n; omega)
  refine iBOr (by omega) (by omega) ?_
  have h2 : sdiff (2 ^ f.n - 1) a ||| b < 2 ^ f.n := Nat.or_lt_two_pow h1 hb
  refine iRetQ (fun w' h' => ok_spec_l01Box (hs1.ext h') (by rw [hf.2.1]; exact hf8) (fun x hx => Nat.lt_of_lt_of_le (hf.2.2 x hx) h28) _ (by omega)) ?_
  intro w2 x2
  rw [hf.2.1]
  exact ⟨rfl, x1.trans x2⟩
theorem ok_slices_IndexN {v : Value} {w : World} {l : List Nat} (hs : SlN w v l) (x : Nat) {k : Nat} (hk : k < l.length) (h1 : l.getD k 0 = x) (h2 : ∀ i, i < k → ¬ l.getD i 0 = x) : Ret Tryz.prog f_slices_Index_Si64_i64 #[v, .int .i64 (x : Int)] w (.int .i64 (k : Int)) := by
  apply c_slices_Index_Si64_i64; unfold S_slices_Index_Si64_i64
  have hln := hs.len
  ((with_reducible refine iLenN (by assumption) ?_))
  refine iLp (fun i : Nat => [.int .i64 (i : Int)]) (fun i w' => i ≤ k ∧ Ext w w') (fun i => l.length - i) 0 rfl ⟨Nat.zero_le _, Ext.refl w⟩ ?_
  rintro i w2 Kn ⟨hi, x2⟩ hKn
  have hs2 := hs.ext x2
  (intro _; (try simp only [gx]); (with_reducible refine iLt ?_))
  refine iCndP (fun _ => ?_) (fun h => absurd (show (i : Int) < (l.length : Nat) by omega) h)
  ((with_reducible refine iIaNN (by assumption) ?_ (fun pa_ hpa_ => ?_)); omega; (with_reducible refine iLd (by assumption) ?_; refine iEq ?_))
  refine iCndP (fun h => ?_) (fun h => ?_)
  · have h : x = l.getD i 0 := by exact_mod_cast h
    have : i = k := by
      rcases Nat.lt_or_ge i k with h' | h'
      · exact absurd h.symm (h2 i h')
      · omega
    subst this
    exact ⟨rfl, x2⟩
  · have h : ¬ x = l.getD i 0 := fun e => h (by exact_mod_cast e)
    have : i < k := by
      rcases Nat.lt_or_ge i k with h' | h'
      · exact h'
      · have : i = k := by omega
        subst this
        exact absurd h1.symm h
    (refine iAdd (by omega) ?_)
    exact hKn (i + 1) _ ⟨by omega, x2⟩ (by omega)
theorem ok_impl_root {f : Fr} (hf : f.ok) (hr : Rooted f) {v : Value} {w : World} (hs : SlN w v f.a) : Ret Tryz.prog f_impl_Poset_root #[.agg #[.int .i64 (f.n : Int), v]] w (.int .i64 ((rootN f : Nat) : Int)) := by
  apply c_impl_Poset_root; unfold S_impl_Poset_root
  obtain ⟨r1, r2, r3⟩ := hr.root
  refine iNew fun q w1 hq x1 hB => ?_
  have hs1 := hs.ext x1
  ((with_reducible refine iFa ?_); refine iLdB (by assumption) (by first | rfl | simp) ?_; (with_reducible refine iLdA (by assumption) ?_ ?_); rfl)
  refine iRetQ (fun w' _ => ok_impl_Poset_all f.n hf.1 v w') ?_
  refine iRetQ (fun w' h' => ok_slices_IndexN (hs1.ext h') _ (by rw [hf.2.1]; exact r1) r2 r3) ?_
  intro w2 x2
  exact ⟨rfl, x1.trans x2⟩
theorem ok_spec_l16Root {f : Fr} (hf : f.ok) (hr : Rooted f) {v : Value} {w : World} (hs : SlN w v f.a) : Ret Tryz.prog f_spec_l16Root #[.agg #[.int .i64 (f.n : Int), v]] w (.int .i64 ((rootN f : Nat) : Int)) := by
  apply c_spec_l16Root; unfold S_spec_l16Root
  obtain ⟨r1, r2, r3⟩ := hr.root
  have hf8 := hf.1
  have hfl := hf.2.1
  refine iNew fun q w1 hq x1 hB => ?_
  refine iLp (fun i : Nat => [.int .i64 (i : Int)]) (fun i w' => i ≤ rootN f ∧ Ext w1 w') (fun i => f.n - i) 0 rfl ⟨Nat.zero_le _, Ext.refl w1⟩ ?_
  rintro i w3 Kn ⟨hi, x3⟩ hKn
  have hs3 := hs.ext (x1.trans x3)
  have hB3 := hB.ext x3
  (intro _; (try simp only [gx]); (with_reducible refine iFa ?_); refine iLdB (by assumption) (by first | rfl | simp) ?_; (with_reducible refine iLt ?_))
  refine iCndP (fun _ => ?_) (fun h => absurd (show (i : Int) < (f.n : Int) by omega) h)
  ((with_reducible refine iFa ?_); refine iLdB (by assumption) (by first | rfl | simp) ?_; (with_reducible refine iIaNN (by assumption) ?_ (fun pa_ hpa_ => ?_)); omega; (with_reducible refine iLd (by assumption) ?_; refine iFa ?_); refine iLdB (by assumption) (by first | rfl | simp) ?_)
  refine iRetQ (fun w' _ => ok_spec_l01Full f.n (by omega) w') ?_
  ((with_reducible refine iEq ?_))
  intro w4 x4
  refine iCndP (fun h => ?_) (fun h => ?_)
  · have h : f.a.getD i 0 = 2 ^ f.n - 1 := by exact_mod_cast h
    have : i = rootN f := by
      rcases Nat.lt_or_ge i (rootN f) with h' | h'
      · exact absurd h (r3 i h')
      · omega
    subst this
    exact ⟨rfl, (x1.trans x3).trans x4⟩
  · have h : ¬ f.a.getD i 0 = 2 ^ f.n - 1 := fun e => h (by exact_mod_cast e)
    have : i < rootN f := by
      rcases Nat.lt_or_ge i (rootN f) with h' | h'
      · exact h'
      · have : i = rootN f := by omega
        subst this
        exact absurd r2 h
    (refine iAdd (by omega) ?_)
    exact hKn (i + 1) _ ⟨by omega, x3.trans x4⟩ (by omega)
end Go.Proofs.YtfhdhdgabdpmkaaGreat

/- Contracts: the source of numbers from which the laws draw. Conditions: none. -/
namespace Go.Vc
end Go.Vc
namespace Go.Proofs.YtfhdhdgabdpmkaaGreat
open Go.Vc
end Go.Proofs.YtfhdhdgabdpmkaaGreat

/- Contracts: drawn frames. Conditions: none. -/
namespace Go.Vc
end Go.Vc
namespace Go.Proofs.YtfhdhdgabdpmkaaGreat
open Go.Vc
end Go.Proofs.YtfhdhdgabdpmkaaGreat

/- Contracts: drawn frames, two of them (l05Draw, l05Renumber, DrawFindFrameIsomorphism). Conditions: none. -/
namespace Go.Vc
theorem ints_take (l : List Int) (j : Nat) : (ints l).take j = ints (l.take j) := by simp [ints, List.map_take]
end Go.Vc
namespace Go.Proofs.YtfhdhdgabdpmkaaGreat
open Go.Vc
end Go.Proofs.YtfhdhdgabdpmkaaGreat

/- Contracts: drawn posets (l16Shuffle, l16Some, l16Rooted, l16Draw) and lists of them (l34Some). Conditions: none. -/
namespace Go.Vc
end Go.Vc
namespace Go.Proofs.YtfhdhdgabdpmkaaGreat
open Go.Vc
end Go.Proofs.YtfhdhdgabdpmkaaGreat

/- Contracts: drawn posets (l16Rooted, l16Draw) and lists of them (l34Some, DrawGreatestLogics). Conditions: none. -/
namespace Go.Vc
theorem OwK.ne_ow {k lo lo' : Nat} {e e' : TypeId} {w : World} {v v' : Value} {n : Nat} {xs xs' : List Value} {c : Nat} (h : OwK k lo e w v n xs) (h' : Ow lo' e' w v' xs') (hne : e ≠ e') (hc : v.ownBlock = some c) : v'.ownBlock ≠ some c := by
  intro hc'
  obtain ⟨cur, h1⟩ := h.ty hc
  obtain ⟨cur', h2⟩ := h'.ty hc'
  rw [h1] at h2
  injection h2 with hb
  injection hb with _ hb _
  exact hne hb
end Go.Vc
namespace Go.Proofs.YtfhdhdgabdpmkaaGreat
open Go.Vc
end Go.Proofs.YtfhdhdgabdpmkaaGreat

/- Contracts: disjunctions of variables in the program and the reference. Conditions: none. -/
namespace Go.Vc
/-- 'make([]T, 0, n)', elements of two cells. -/
theorem iMkX {w : World} {e : TypeId} {z0 z1 : Value} {bytes n : Nat} {k : IntKind} {K : Value → World → Prop} (h1 : bytes * n ≤ 2 ^ 48) (h2 : (n : Int) ≤ 9223372036854775807)
    (h : ∀ v w', Ext w w' → OwK 2 w.heap.size e w' v 0 [] → K v w') : xMk e (Value.cells (.agg #[z0, z1])) 2 bytes (.int k 0) (.int k (n : Int)) w K := by
  refine ⟨k, k, 0, n, rfl, rfl, Nat.zero_le _, h2, by exact_mod_cast h1, ?_⟩
  refine h _ _ (Ext.alloc w _) ⟨rfl, .inr ⟨w.heap.size, n, _, rfl, Nat.le_refl _, heap_alloc_new w _, Nat.zero_le _, by simpa [maxLen] using (by omega : n ≤ 9223372036854775807), ?_, by simp⟩⟩
  simp
end Go.Vc
namespace Go.Proofs.YtfhdhdgabdpmkaaGreat
open Go.Vc
/-- A row of formulas of the call's own. -/
abbrev RF (lo : Nat) (w : World) (v : Value) (L : List (Value × Fm)) : Prop := Ow lo t_Simpl_Node w v (L.map Prod.fst)
/-- Formulas, each in a row of its own. -/
def EF (lo : Nat) (w : World) (L : List (Value × Fm)) : Prop := (∀ p ∈ L, FmW lo w p.1 p.2) ∧ L.Pairwise fun a b => ∀ c, a.1.ownBlock = some c → b.1.ownBlock ≠ some c
theorem EF.nil (lo : Nat) (w : World) : EF lo w [] := ⟨fun p hp => (by cases hp), List.Pairwise.nil⟩
theorem EF.ext {lo : Nat} {w w' : World} {L : List (Value × Fm)} (h : EF lo w L) (x : Ext w w') : EF lo w' L := ⟨fun p hp => (h.1 p hp).ext x, h.2⟩
theorem EF.ch {lo : Nat} {S : Nat → Prop} {w w' : World} {L : List (Value × Fm)} (h : EF lo w L) (x : Ch S w w') (hn : ∀ p ∈ L, ∀ c, p.1.ownBlock = some c → ¬ S c) : EF lo w' L := ⟨fun p hp => (h.1 p hp).ch x (hn p hp), h.2⟩
theorem EF.mono {lo lo' : Nat} {w : World} {L : List (Value × Fm)} (h : EF lo w L) (hl : lo' ≤ lo) : EF lo' w L := ⟨fun p hp => (h.1 p hp).mono hl, h.2⟩
theorem EF.app {lo : Nat} {w : World} {A B : List (Value × Fm)} (h : EF lo w A) (k : EF lo w B) (hd : ∀ p ∈ A, ∀ q ∈ B, ∀ c, p.1.ownBlock = some c → q.1.ownBlock ≠ some c) : EF lo w (A ++ B) :=
  ⟨fun p hp => by
    rcases List.mem_append.1 hp with hp | hp
    · exact h.1 p hp
    · exact k.1 p hp, List.pairwise_append.2 ⟨h.2, k.2, hd⟩⟩
theorem iRdF {w : World} {v : Value} {L : List (Value × Fm)} {z : Int} {j : Nat} {k : IntKind} {K : Value → Prop} (hs : Sl w v (L.map Prod.fst)) (hz : z = (j : Int)) (hj : j < L.length) (h : K L[j].1) : xIa 1 v (.int k z) fun p => xLd w p K := by
  subst hz
  refine iIa (j := (j : Int)) hs (by omega) (by rw [List.length_map]; omega) fun p hp => ?_
  refine iLd (hp.trans ?_) h
  rw [Int.toNat_natCast, List.getElem?_map, List.getElem?_eq_getElem hj]; rfl
theorem ok_impl_joinAll {v : Value} {w : World} {L : List (Value × Fm)} {l : List Nat} (hs : Sl w v (L.map Prod.fst)) (hF : ∀ p ∈ L, FmS w p.1 p.2) (hl : L.map Prod.snd = l.map Fm.var) (h8 : L.length ≤ 8) :
    Cal Tryz.prog f_impl_joinAll #[.int .i64 3, v] w fun r w' => Ext w w' ∧ FmW w.heap.size w' r (orV l) := by
  apply c_impl_joinAll; unfold S_impl_joinAll
  have hll : l.length = L.length := by have := congrArg List.length hl; simpa using this.symm
  have hlen : ∀ w', Ext w w' → ∀ {K : Value → Prop}, K (.int .i64 (L.length : Nat)) → xLenS v K := fun w' x _ h => iLenS (Sl.ext hs x) (by rw [List.length_map]; exact h)
  have hat : ∀ i (hi : i < L.length), L[i].2 = .var (l[i]'(by omega)) ∧ L[i] ∈ L := fun i hi => by
    refine ⟨?_, List.getElem_mem _⟩
    have h1 : (L.map Prod.snd)[i]? = (l.map Fm.var)[i]? := by rw [hl]
    rw [List.getElem?_map, List.getElem?_map, List.getElem?_eq_getElem hi, List.getElem?_eq_getElem (by omega)] at h1
    exact Option.some.inj h1
  refine hlen w (Ext.refl _) ?_
  refine iEq (iCndP (fun h => ?_) (fun h => ?_))
  · refine iEq (iCndF (by decide) ?_)
    have : l = [] := List.length_eq_zero_iff.1 (by omega)
    subst this
    exact iCall (ok_impl_falsum w)
  · obtain ⟨x, l', rfl⟩ : ∃ x l', l = x :: l' := by
      cases l with
      | nil => simp at hll; omega
      | cons x l' => exact ⟨x, l', rfl⟩
    have hll' : l'.length + 1 = L.length := by simpa using hll
    refine hlen w (Ext.refl _) ?_
    refine iSub (by omega) ?_
    refine hlen w (Ext.refl _) ?_
    have e0 : ((L.length : Nat) : Int) - 1 = ((l'.length + 0 : Nat) : Int) := by omega
    rw [e0]
    refine iLp (fun i : Nat => [.int .i64 ((l'.length + i : Nat) : Int), .int .i64 (i : Int)]) (fun i w' => i ≤ L.length ∧ Ext w w') (fun i => L.length - i) 0 rfl ⟨Nat.zero_le _, Ext.refl _⟩ ?_
    rintro i w4 Kn ⟨hi, x4⟩ hKn
    intro _
    simp only [gx]
    refine iLt (iCndP (fun h4 => ?_) (fun h4 => ?_))
    · have hi1 : i < L.length := by omega
      obtain ⟨e1, e2⟩ := hat i hi1
      refine iRdF (j := i) (Sl.ext hs x4) rfl hi1 ?_
      refine iLenK (hF _ e2) ?_
      rw [e1]
      refine iAdd (by show _; simp only [Fm.size]; omega) ?_
      refine iAdd (by omega) ?_
      have e3 : ((l'.length + i : Nat) : Int) + ((Fm.var ((x :: l')[i]'(by omega))).size : Nat) = ((l'.length + (i + 1) : Nat) : Int) := by simp only [Fm.size]; omega
      rw [e3]
      exact hKn (i + 1) _ ⟨by omega, x4⟩ (by omega)
    · obtain rfl : i = L.length := by omega
      refine iMkX (by omega) (by omega) fun v5 w5 x5 ho5 => ?_
      have X5 := x4.trans x5
      refine hlen w (Ext.refl _) ?_
      refine iSub (by omega) ?_
      have e6 : ((L.length : Nat) : Int) - 1 = ((l'.length : Nat) : Int) := by omega
      rw [e6]
      refine iLp (fun s : Value × Nat => [s.1, .int .i64 (s.2 : Int)]) (fun s w' => s.2 ≤ l'.length ∧ Ext w4 w' ∧ OwK 2 w4.heap.size t_impl_Node w' s.1 s.2 (List.replicate s.2 (nd 3 0)).flatten) (fun s => l'.length - s.2) (v5, 0) rfl ⟨Nat.zero_le _, x5, ho5⟩ ?_
      rintro ⟨u, j⟩ w7 Kn2 ⟨hj, x7, ho7⟩ hKn2
      have hj : j ≤ l'.length := hj
      have ho7 : OwK 2 w4.heap.size t_impl_Node w7 u j (List.replicate j (nd 3 0)).flatten := ho7
      intro _
      simp only [gx]
      refine iLt (iCndP (fun h7 => ?_) (fun h7 => ?_))
      · have hj1 : j < l'.length := by omega
        refine iBuild2 rfl rfl ?_
        refine iBsA fun q w8 hq x8 hB => ?_
        refine iAppK u_Simpl_Node i_Simpl_Node rfl (by omega) (OwK.ext ho7 x8) (node_one hq hB).sl (fun y hy => ?_) (by omega) (by omega) (Nat.le_trans x7.size x8.size) fun v9 w9 ho9 hg9 _ => ?_
        · simp only [List.mem_cons, List.not_mem_nil, or_false] at hy
          rcases hy with rfl | rfl <;> rfl
        refine iAdd (by omega) ?_
        refine hKn2 (v9, j + 1) _ ⟨by show j + 1 ≤ l'.length; omega, (x7.trans x8).grown hg9 fun c hc => (ho7.blk c hc).1, ?_⟩ (by show l'.length - (j + 1) < l'.length - j; omega)
        show OwK 2 _ _ w9 v9 (j + 1) (List.replicate (j + 1) (nd 3 0)).flatten
        rw [List.replicate_succ', List.flatten_append]
        simpa [nd] using ho9
      · obtain rfl : j = l'.length := by omega
        refine hlen w (Ext.refl _) ?_
        refine iLp (fun s : Value × Nat => [s.1, .int .i64 (s.2 : Int)]) (fun s w' => s.2 ≤ L.length ∧ Ext w4 w' ∧ OwK 2 w4.heap.size t_impl_Node w' s.1 (l'.length + s.2) ((List.replicate l'.length (nd 3 0)).flatten ++ ((x :: l').take s.2).flatMap fun v => nd 0 v)) (fun s => L.length - s.2) (u, 0) rfl ⟨Nat.zero_le _, x7, by show OwK 2 _ _ _ _ (l'.length + 0) _; simpa using ho7⟩ ?_
        rintro ⟨u', k⟩ w11 Kn3 ⟨hk, x11, ho11⟩ hKn3
        have hk : k ≤ L.length := hk
        have ho11 : OwK 2 w4.heap.size t_impl_Node w11 u' (l'.length + k) ((List.replicate l'.length (nd 3 0)).flatten ++ ((x :: l').take k).flatMap fun v => nd 0 v) := ho11
        intro _
        simp only [gx]
        refine iLt (iCndP (fun h11 => ?_) (fun h11 => ?_))
        · have hk1 : k < L.length := by omega
          obtain ⟨e1, e2⟩ := hat k hk1
          have X11 := x4.trans x11
          refine iRdF (j := k) (Sl.ext hs X11) rfl hk1 ?_
          have hv := SlK.ext (hF _ e2) X11
          rw [e1] at hv
          refine iAppK u_Simpl_Node i_Simpl_Node rfl (by omega) ho11 hv (Fm.cells_cell _) (by simp only [Fm.size]; omega) (by simp only [Fm.size]; omega) x11.size fun v9 w9 ho9 hg9 _ => ?_
          refine iAdd (by omega) ?_
          refine hKn3 (v9, k + 1) _ ⟨by show k + 1 ≤ L.length; omega, x11.grown hg9 fun c hc => (ho11.blk c hc).1, ?_⟩ (by show L.length - (k + 1) < L.length - k; omega)
          show OwK 2 _ _ w9 v9 (l'.length + (k + 1)) ((List.replicate l'.length (nd 3 0)).flatten ++ ((x :: l').take (k + 1)).flatMap fun v => nd 0 v)
          rw [List.take_succ_eq_append_getElem (by omega), List.flatMap_append, ← List.append_assoc]
          simpa [Fm.cells, Fm.size, Nat.add_assoc] using ho9
        · obtain rfl : k = L.length := by omega
          refine ⟨x4.trans x11, ?_⟩
          rw [List.take_of_length_le (by omega)] at ho11
          show OwK 2 _ _ w11 u' (orV (x :: l')).size (orV (x :: l')).cells
          rw [orV_cells]
          have es : (orV (x :: l')).size = l'.length + L.length := by
            show (orG (.var x) l').size = _
            rw [orG_size]; simp only [Fm.size]; omega
          rw [es]
          exact OwK.mono ho11 x4.size
theorem RF.appS {lo : Nat} {w : World} {v x : Value} {L N : List (Value × Fm)} {K : Value → World → Prop} (hR : RF lo w v L) (hE : EF lo w (L ++ N)) (hx : Sl w x (N.map Prod.fst)) (hlo : lo ≤ w.heap.size) (hb : L.length + N.length ≤ 100000)
    (hk : ∀ v' w', RF lo w' v' (L ++ N) → EF lo w' (L ++ N) → w.grownBy w' v.ownBlock → K v' w') : xOp Tryz.prog (Builtin.append_ #[t_SSimpl_Node, t_SSimpl_Node] t_SSimpl_Node #[v, x]) w K := by
  refine iApp u_SSimpl_Node i_SSimpl_Node rfl hR hx (fun y hy => ?_) (by rw [List.length_map, List.length_map]; omega) (by rw [List.length_map, List.length_map]; omega) hlo fun v' w' ho hg => hk v' w' (by show Ow _ _ _ _ _; rw [List.map_append]; exact ho) ?_ hg
  · obtain ⟨p, hp, rfl⟩ := List.mem_map.1 hy
    exact (hE.1 p (List.mem_append_right _ hp)).cell
  · exact hE.ch (grown_ch (S := fun c => v.ownBlock = some c) hg fun c hc => hc) fun p hp c hc hc' => OwK.ne_ow (hE.1 p hp) hR (by decide) hc hc'
theorem EF.one {lo : Nat} {w : World} {u : Value} {a : Fm} (h : FmW lo w u a) : EF lo w [(u, a)] := ⟨fun p hp => by simp only [List.mem_singleton] at hp; subst hp; exact h, by simp⟩
/-- New formulas stand apart from old ones. -/
theorem EF.fresh {lo m : Nat} {w0 w : World} {A B : List (Value × Fm)} (h : EF lo w0 A) (k : EF m w B) (hm : w0.heap.size ≤ m) : ∀ p ∈ A, ∀ q ∈ B, ∀ c, p.1.ownBlock = some c → q.1.ownBlock ≠ some c := fun p hp q hq c hc hc' => by
  have h1 := ((h.1 p hp).blk c hc).2
  have h2 := ((k.1 q hq).blk c hc').1
  omega
theorem ok_impl_anyOf {v : Value} {w : World} {l : List Nat} (hs : SlN w v l) (h8 : l.length ≤ 8) : Cal Tryz.prog f_impl_anyOf #[v] w fun r w' => Ext w w' ∧ FmW w.heap.size w' r (orV l) := by
  apply c_impl_anyOf; unfold S_impl_anyOf
  ((with_reducible refine iLenN (by assumption) ?_))
  refine iLp (fun s : Value × Nat => [s.1, .int .i64 (s.2 : Int)]) (fun s w' => s.2 ≤ l.length ∧ Ext w w' ∧ ∃ L, RF w.heap.size w' s.1 L ∧ EF w.heap.size w' L ∧ L.map Prod.snd = (l.take s.2).map Fm.var) (fun s => l.length - s.2) (.slice none 0 0, 0) rfl ⟨Nat.zero_le _, Ext.refl _, [], Ow.nil _ _ _, EF.nil _ _, rfl⟩ ?_
  rintro ⟨u, k⟩ w2 Kn ⟨hk, x2, L, hR, hE, hL⟩ hKn
  have hk : k ≤ l.length := hk
  have hR : RF w.heap.size w2 u L := hR
  have hL : L.map Prod.snd = (l.take k).map Fm.var := hL
  have hLl : L.length = k := by have := congrArg List.length hL; rw [List.length_map, List.length_map, List.length_take] at this; omega
  have hs2 := hs.ext x2
  (intro _; (try simp only [gx]); (with_reducible refine iLt ?_))
  refine iCndP (fun h3 => ?_) (fun h3 => ?_)
  · have hk1 : k < l.length := by omega
    ((with_reducible refine iIaNN (by assumption) ?_ (fun pa_ hpa_ => ?_)); omega; (with_reducible refine iLd (by assumption) ?_))
    refine iCall ((ok_impl_variable (l.getD k 0) w2).mono ?_)
    rintro y w3 ⟨x3, hy⟩
    have hd := hE.fresh (EF.one hy) (Nat.le_refl _)
    refine iBs1 rfl hy.cell fun b w4 hb x4 hB => ?_
    have hE4 : EF w.heap.size w4 (L ++ [(y, .var (l.getD k 0))]) := ((hE.ext x3).app (EF.one (hy.mono x2.size)) hd).ext x4
    refine RF.appS (Ow.ext hR (x3.trans x4)) hE4 (Sl.ofBlk hB rfl (by omega)) (x2.trans (x3.trans x4)).size (by simp only [List.length_singleton]; omega) fun v' w5 hR5 hE5 hg5 => ?_
    refine iAdd (by omega) ?_
    refine hKn (v', k + 1) _ ⟨by show k + 1 ≤ l.length; omega, (x2.trans (x3.trans x4)).grown hg5 fun c hc => (Ow.blk hR c hc).1, _, hR5, hE5, ?_⟩ (by show l.length - (k + 1) < l.length - k; omega)
    show (L ++ [(y, Fm.var (l.getD k 0))]).map Prod.snd = (l.take (k + 1)).map Fm.var
    rw [List.map_append, hL, List.take_succ_eq_append_getElem hk1, List.map_append]
    simp [List.getD_eq_getElem?_getD, hk1]
  · obtain rfl : k = l.length := by omega
    rw [List.take_length] at hL
    refine iCall ((ok_impl_joinAll (Ow.sl hR) (fun p hp => (hE.1 p hp).sl) hL (by omega)).mono ?_)
    rintro r w3 ⟨x3, hr⟩
    exact ⟨x2.trans x3, hr.mono x2.size⟩
theorem ok_spec_l02Own {va : Value} {w : World} {a : Fm} (ha : FmS w va a) (hsz : a.size ≤ 1000000) : Cal Tryz.prog f_spec_l02Own #[va] w fun r w' => Ext w w' ∧ FmW w.heap.size w' r a := by
  apply c_spec_l02Own; unfold S_spec_l02Own
  refine iBsA0 fun u w1 _ x1 ho => ?_
  refine iAppK u_Simpl_Node i_Simpl_Node rfl (by omega) ho (SlK.ext ha x1) a.cells_cell (by omega) (by omega) x1.size fun v2 w2 ho2 hg2 _ => ?_
  refine ⟨x1.grown hg2 fun c hc => (ho.blk c hc).1, ?_⟩
  show OwK 2 _ _ w2 v2 _ _
  rw [Nat.zero_add, List.nil_append] at ho2
  exact ho2
theorem ok_spec_l02All {v : Value} {w : World} {L : List (Value × Fm)} {l : List Nat} (hs : Sl w v (L.map Prod.fst)) (hF : ∀ p ∈ L, FmS w p.1 p.2) (hl : L.map Prod.snd = l.map Fm.var) (h8 : L.length ≤ 8) :
    Cal Tryz.prog f_spec_l02All #[.int .i64 3, v] w fun r w' => Ext w w' ∧ FmW w.heap.size w' r (orV l) := by
  apply c_spec_l02All; unfold S_spec_l02All
  have hll : l.length = L.length := by have := congrArg List.length hl; simpa using this.symm
  have hlen : ∀ w', Ext w w' → ∀ {K : Value → Prop}, K (.int .i64 (L.length : Nat)) → xLenS v K := fun w' x _ h => iLenS (Sl.ext hs x) (by rw [List.length_map]; exact h)
  have hat : ∀ i (hi : i < L.length), L[i].2 = .var (l[i]'(by omega)) ∧ L[i] ∈ L := fun i hi => by
    refine ⟨?_, List.getElem_mem _⟩
    have h1 : (L.map Prod.snd)[i]? = (l.map Fm.var)[i]? := by rw [hl]
    rw [List.getElem?_map, List.getElem?_map, List.getElem?_eq_getElem hi, List.getElem?_eq_getElem (by omega)] at h1
    exact Option.some.inj h1
  refine hlen w (Ext.refl _) ?_
  refine iEq (iCndP (fun h => ?_) (fun h => ?_))
  · refine iEq (iCndF (by decide) ?_)
    have : l = [] := List.length_eq_zero_iff.1 (by omega)
    subst this
    exact iCall (ok_spec_l02False w)
  · obtain ⟨x, l', rfl⟩ : ∃ x l', l = x :: l' := by
      cases l with
      | nil => simp at hll; omega
      | cons x l' => exact ⟨x, l', rfl⟩
    have hll' : l'.length + 1 = L.length := by simpa using hll
    obtain ⟨e1, e2⟩ := hat 0 (by omega)
    refine iRdF (j := 0) hs rfl (by omega) ?_
    have hv0 := hF _ e2
    rw [e1] at hv0
    refine iCall ((ok_spec_l02Own hv0 (by simp only [Fm.size]; omega)).mono ?_)
    rintro u w3 ⟨x3, hu⟩
    refine iLp (fun s : Value × Nat => [s.1, .int .i64 ((s.2 + 1 : Nat) : Int)]) (fun s w' => s.2 ≤ l'.length ∧ Ext w w' ∧ FmW w.heap.size w' s.1 (orG (.var x) (l'.take s.2))) (fun s => l'.length - s.2) (u, 0) rfl ⟨Nat.zero_le _, x3, hu⟩ ?_
    rintro ⟨o, k⟩ w5 Kn ⟨hk, x5, ho⟩ hKn
    have hk : k ≤ l'.length := hk
    have ho : FmW w.heap.size w5 o (orG (.var x) (l'.take k)) := ho
    intro _
    simp only [gx]
    refine hlen w5 x5 ?_
    refine iLt (iCndP (fun h4 => ?_) (fun h4 => ?_))
    · have hk1 : k < l'.length := by omega
      obtain ⟨e1, e2⟩ := hat (k + 1) (by omega)
      refine iRdF (j := k + 1) (Sl.ext hs x5) rfl (by omega) ?_
      have hv := SlK.ext (hF _ e2) x5
      have e3 : L[k + 1].2 = .var l'[k] := e1
      rw [e3] at hv
      have es : (orG (.var x) (l'.take k)).size ≤ 100 := by rw [orG_size, List.length_take]; simp only [Fm.size]; omega
      refine iCall ((ok_spec_l02Pair (c := .or (orG (.var x) (l'.take k)) (.var l'[k])) (k := 3) rfl rfl ho.sl hv (by simp only [Fm.size]; omega)).mono ?_)
      rintro r w6 ⟨x6, hr⟩
      refine iAdd (by omega) ?_
      refine hKn (r, k + 1) _ ⟨by show k + 1 ≤ l'.length; omega, x5.trans x6, ?_⟩ (by show l'.length - (k + 1) < l'.length - k; omega)
      show FmW w.heap.size w6 r (orG (.var x) (l'.take (k + 1)))
      rw [List.take_succ_eq_append_getElem hk1, orG_snoc]
      exact hr.mono x5.size
    · obtain rfl : k = l'.length := by omega
      rw [List.take_length] at ho
      exact ⟨x5, ho⟩
end Go.Proofs.YtfhdhdgabdpmkaaGreat

/- Contracts: the disjunction of the least elements of a set, in the program and the reference. Conditions: none. -/
namespace Go.Proofs.YtfhdhdgabdpmkaaGreat
open Go.Vc
def notLeast (f : Fr) (m x : Nat) : Bool := (mem m).any fun y => !decide (y = x) && (f.a.getD y 0).testBit x
theorem minL_eq (f : Fr) (m : Nat) : minL f m = (mem m).filter fun x => !notLeast f m x := rfl
theorem nats_mem {x : Int} {l : List Nat} (h : x ∈ nats l) : ∃ i : Nat, i ∈ l ∧ x = (i : Int) := by
  obtain ⟨i, hi, e⟩ := List.mem_map.1 h
  exact ⟨i, hi, e.symm⟩
theorem ok_minimal_1_1 {f : Fr} (hf : f.ok) {ev : TypeId} {w : World} {v : Value} (hs : SlN w v f.a) {e : TypeId} {q p : Nat} {x y : Nat} (hx : x < f.n) (hy : y < f.n) (hq : Blk e w q [.int .i64 (x : Int)]) (hp : Blk ev w p [.int .i64 (f.n : Int), v]) :
    Ret Tryz.prog f_impl_Poset_minimal_1_1 #[.int .i64 (y : Int), .pointer (some ⟨q, 0, none⟩), .pointer (some ⟨p, 0, none⟩)] w (.bool (!decide (y = x) && (f.a.getD y 0).testBit x)) := by
  apply c_impl_Poset_minimal_1_1; unfold S_impl_Poset_minimal_1_1
  have hf8 := hf.1
  have hfl := hf.2.1
  refine iJnB (!decide (y = x) && (f.a.getD y 0).testBit x) w (fun J hJ => ?_) (fun w2 h2 => ?_)
  · refine iLdB hq rfl ?_
    refine iNe (iCndP (fun h => ?_) (fun h => ?_))
    · have h : ¬ y = x := fun e => h (by rw [e])
      rw [decide_eq_false h, Bool.not_false, Bool.true_and] at hJ
      ((with_reducible refine iFa ?_); refine iLdB (by assumption) (by first | rfl | simp) ?_; (with_reducible refine iIaNN (by assumption) ?_ (fun pa_ hpa_ => ?_)); omega; (with_reducible refine iLd (by assumption) ?_); refine iLdB (by assumption) (by first | rfl | simp) ?_)
      have hlt := hf.lt hy
      refine iRetQ (fun w' _ => ok_impl_has _ x (Nat.lt_of_lt_of_le hlt (Nat.pow_le_pow_right (by omega) (by omega))) (by omega) w') ?_
      intro w3 x3
      exact hJ w3 x3
    · have h : y = x := by omega
      rw [decide_eq_true h, Bool.not_true, Bool.false_and] at hJ
      intro w4 x4
      exact hJ w4 x4
  · intro _
    simp only [gx]
    exact ⟨by first | trivial | rfl, h2⟩
theorem any_nats {l : List Nat} (g : Nat → Bool) : (nats l).any (fun z => g z.toNat) = l.any g := by
  unfold nats
  rw [List.any_map]
  rfl
theorem ok_minimal_1 {f : Fr} (hf : f.ok) {ev : TypeId} {w : World} {v : Value} (hs : SlN w v f.a) {e : TypeId} {q p : Nat} {m x : Nat} (hm : m < 2 ^ f.n) (hx : x < f.n) (hq : Blk e w q [.int .i64 (m : Int)]) (hp : Blk ev w p [.int .i64 (f.n : Int), v]) :
    Ret Tryz.prog f_impl_Poset_minimal_1 #[.int .i64 (x : Int), .pointer (some ⟨q, 0, none⟩), .pointer (some ⟨p, 0, none⟩)] w (.bool (notLeast f m x)) := by
  apply c_impl_Poset_minimal_1; unfold S_impl_Poset_minimal_1
  have hm63 := mask63 hf hm
  refine iNew fun b w1 hb x1 hB => ?_
  refine iLdB (hq.ext x1) rfl ?_
  refine iCall ((ok_impl_membersOf m hm63 w1).mono ?_)
  rintro u w2 ⟨x2, ho⟩
  have hX := x1.trans x2
  refine iRet (ok_slices_ContainsFunc_Si64_i64 ho.sl (fun z => !decide (z.toNat = x) && (f.a.getD z.toNat 0).testBit x) fun w' h' z hz => ?_) fun w3 x3 => ?_
  · obtain ⟨y, hy, rfl⟩ := nats_mem hz
    have hyn : y < f.n := mem_lt hf hm hy
    refine iClo rfl ?_
    have h := ok_minimal_1_1 hf (hs.ext (hX.trans h')) hx hyn ((hB.ext x2).ext h') ((hp.ext hX).ext h')
    rw [Int.toNat_natCast]
    exact h
  · refine ⟨?_, hX.trans x3⟩
    rw [any_nats fun y => !decide (y = x) && (f.a.getD y 0).testBit x]
    rfl
theorem ok_impl_minimal {f : Fr} (hf : f.ok) {w : World} {v : Value} (hs : SlN w v f.a) (m : Nat) (hm : m < 2 ^ f.n) : Cal Tryz.prog f_impl_Poset_minimal #[.agg #[.int .i64 (f.n : Int), v], .int .i64 (m : Int)] w fun r w' => Ext w w' ∧ SlN w' r (minL f m) := by
  apply c_impl_Poset_minimal; unfold S_impl_Poset_minimal
  have hm63 := mask63 hf hm
  refine iNew fun b2 w1 hb2 x1 hB2 => ?_
  refine iNew fun b3 w2 hb3 x2 hB3 => ?_
  have hX2 := x1.trans x2
  refine iLdB hB3 rfl ?_
  refine iCall ((ok_impl_membersOf m hm63 w2).mono ?_)
  rintro u w3 ⟨x3, ho⟩
  have hml := mem_len hf hm
  have hf8 := hf.1
  refine iCall ((ok_slices_DeleteFuncN (w0 := w2) (p := fun z => notLeast f m z.toNat) x3 ho (by rw [nats_length]; omega) fun z hz w' hw' => ?_).mono ?_)
  · obtain ⟨x, hx, rfl⟩ := nats_mem hz
    refine iClo rfl ?_
    rw [Int.toNat_natCast]
    exact ok_minimal_1 hf (hs.ext (hX2.trans hw')) hm (mem_lt hf hm hx) (hB3.ext hw') ((hB2.ext x2).ext hw')
  · rintro r w4 ⟨x4, ho4⟩
    refine ⟨hX2.trans x4, ?_⟩
    have e : (nats (mem m)).filter (fun z => !notLeast f m z.toNat) = nats (minL f m) := by
      rw [minL_eq]
      unfold nats
      rw [List.filter_map]
      rfl
    rw [e] at ho4
    exact ho4.sl
theorem ok_impl_joined {f : Fr} (hf : f.ok) {w : World} {v : Value} (hs : SlN w v f.a) (m : Nat) (hm : m < 2 ^ f.n) : Cal Tryz.prog f_impl_Poset_joined #[.agg #[.int .i64 (f.n : Int), v], .int .i64 (m : Int)] w fun r w' => Ext w w' ∧ FmW w.heap.size w' r (jnF f m) := by
  apply c_impl_Poset_joined; unfold S_impl_Poset_joined
  refine iNew fun b2 w1 hb2 x1 hB2 => ?_
  refine iLdA hB2 rfl ?_
  refine iCall ((ok_impl_minimal hf (hs.ext x1) m hm).mono ?_)
  rintro u w2 ⟨x2, hu⟩
  have hl := minL_len f m
  have hml := mem_len hf hm
  have hf8 := hf.1
  refine iCall ((ok_impl_anyOf hu (by omega)).mono ?_)
  rintro r w3 ⟨x3, hr⟩
  exact ⟨(x1.trans x2).trans x3, hr.mono (x1.trans x2).size⟩
/-- x is least in m among those before k. -/
def lstK (f : Fr) (m x k : Nat) : Bool := m.testBit x && (List.range k).all fun y => decide (y = x) || (!m.testBit y || !(f.a.getD y 0).testBit x)
theorem lstK_succ (f : Fr) (m x k : Nat) : lstK f m x (k + 1) = (lstK f m x k && (decide (k = x) || (!m.testBit k || !(f.a.getD k 0).testBit x))) := by
  unfold lstK
  rw [List.range_succ, List.all_append, Bool.and_assoc]
  simp
def lstL (f : Fr) (m k : Nat) : List Nat := (List.range k).filter fun x => lstK f m x f.n
theorem lstL_succ (f : Fr) (m k : Nat) : lstL f m (k + 1) = if lstK f m k f.n then lstL f m k ++ [k] else lstL f m k := by
  unfold lstL
  rw [List.range_succ, List.filter_append]
  by_cases h : lstK f m k f.n = true
  · rw [if_pos h, List.filter_cons, if_pos h, List.filter_nil]
  · rw [if_neg h, List.filter_cons, if_neg h, List.filter_nil, List.append_nil]
theorem lstL_end {f : Fr} (hf : f.ok) {m : Nat} (hm : m < 2 ^ f.n) : lstL f m f.n = minL f m := by
  have hf8 := hf.1
  rw [minL_eq, ← memK_mem (by omega) hm]
  unfold lstL memK
  rw [List.filter_filter]
  apply List.filter_congr
  intro x hx
  have hmb : ∀ y, y ∈ mem m ↔ m.testBit y = true := fun y => mem_mem (mask63 hf hm)
  rw [Bool.eq_iff_iff]
  unfold lstK notLeast
  rw [Bool.and_eq_true, Bool.and_eq_true, Bool.not_eq_true', List.any_eq_false, List.all_eq_true]
  constructor
  · rintro ⟨h1, h2⟩
    refine ⟨fun y hy => ?_, h1⟩
    have hyb := (hmb y).1 hy
    have := h2 y (List.mem_range.2 (mem_lt hf hm hy))
    rw [hyb] at this
    intro hc
    rw [Bool.and_eq_true, Bool.not_eq_true', decide_eq_false_iff_not] at hc
    rw [decide_eq_false hc.1, hc.2] at this
    simp at this
  · rintro ⟨h1, h2⟩
    refine ⟨h2, fun y hy => ?_⟩
    cases hb : m.testBit y
    · simp
    · have := h1 y ((hmb y).2 hb)
      by_cases hyx : y = x
      · simp [hyx]
      · rw [decide_eq_false hyx] at this ⊢
        simpa using this
theorem ok_spec_l16Leq {f : Fr} (hf : f.ok) {w : World} {v : Value} (hs : SlN w v f.a) (x y : Nat) (hx : x < f.n) (hy : y ≤ 8) : Ret Tryz.prog f_spec_l16Leq #[.agg #[.int .i64 (f.n : Int), v], .int .i64 (x : Int), .int .i64 (y : Int)] w (.bool ((f.a.getD x 0).testBit y)) := by
  apply c_spec_l16Leq; unfold S_spec_l16Leq
  have hf8 := hf.1
  have hfl := hf.2.1
  have hlt := hf.lt hx
  refine iNew fun b w1 hb x1 hB => ?_
  have hs1 := hs.ext x1
  ((with_reducible refine iFa ?_); refine iLdB (by assumption) (by first | rfl | simp) ?_; (with_reducible refine iIaNN (by assumption) ?_ (fun pa_ hpa_ => ?_)); omega; (with_reducible refine iLd (by assumption) ?_))
  refine iRet (ok_spec_l01Bit _ y (Nat.lt_of_lt_of_le hlt (Nat.pow_le_pow_right (by omega) (by omega))) (by omega) w1) fun w2 x2 => ?_
  exact ⟨rfl, x1.trans x2⟩
theorem ok_spec_l21Join {f : Fr} (hf : f.ok) {w : World} {v : Value} (hs : SlN w v f.a) (m : Nat) (hm : m < 2 ^ f.n) : Cal Tryz.prog f_spec_l21Join #[.agg #[.int .i64 (f.n : Int), v], .int .i64 (m : Int)] w fun r w' => Ext w w' ∧ FmW w.heap.size w' r (jnF f m) := by
  apply c_spec_l21Join; unfold S_spec_l21Join
  have hf8 := hf.1
  have hm63 := mask63 hf hm
  refine iNew fun b w1 hb x1 hB => ?_
  refine iBs0 fun u w2 _ x2 ho2 => ?_
  refine iLp (fun s : Value × Nat => [s.1, .int .i64 (s.2 : Int)]) (fun s w' => s.2 ≤ f.n ∧ Ext w1 w' ∧ ∃ L, RF w1.heap.size w' s.1 L ∧ EF w1.heap.size w' L ∧ L.map Prod.snd = (lstL f m s.2).map Fm.var) (fun s => f.n - s.2) (u, 0) rfl ⟨Nat.zero_le _, x2, [], ho2, EF.nil _ _, rfl⟩ ?_
  rintro ⟨o, x⟩ w4 Kn ⟨hx, x4, L, hR, hE, hL⟩ hKn
  have hx : x ≤ f.n := hx
  have hR : RF w1.heap.size w4 o L := hR
  have hL : L.map Prod.snd = (lstL f m x).map Fm.var := hL
  have hLl : L.length ≤ x := by
    have h1 := congrArg List.length hL
    rw [List.length_map, List.length_map] at h1
    have h2 : (lstL f m x).length ≤ x := by
      have := List.length_filter_le (fun x => lstK f m x f.n) (List.range x)
      rw [List.length_range] at this
      exact this
    omega
  have hB4 := hB.ext x4
  have hX4 := x1.trans x4
  (intro _; (try simp only [gx]); (with_reducible refine iFa ?_); refine iLdB (by assumption) (by first | rfl | simp) ?_; (with_reducible refine iLt ?_))
  refine iCndP (fun h => ?_) (fun h => ?_)
  · have hx1 : x < f.n := by omega
    refine iRet (ok_spec_l01Bit m x hm63 (by omega) w4) fun w5 x5 => ?_
    refine iLp (fun s : Bool × Nat => [.bool s.1, .int .i64 (s.2 : Int)]) (fun s w' => s.2 ≤ f.n ∧ Ext w5 w' ∧ s.1 = lstK f m x s.2) (fun s => f.n - s.2) (m.testBit x, 0) rfl ⟨Nat.zero_le _, Ext.refl _, by show m.testBit x = lstK f m x 0; simp [lstK]⟩ ?_
    rintro ⟨al, y⟩ w7 Kn2 ⟨hy, x7, hal⟩ hKn2
    have hy : y ≤ f.n := hy
    have hal : al = lstK f m x y := hal
    have X7 := x5.trans x7
    have hB7 := hB4.ext X7
    (intro _; (try simp only [gx]); (with_reducible refine iFa ?_); refine iLdB (by assumption) (by first | rfl | simp) ?_; (with_reducible refine iLt ?_))
    refine iCndP (fun h7 => ?_) (fun h7 => ?_)
    · have hy1 : y < f.n := by omega
      have hsc := lstK_succ f m x y
      rw [← hal] at hsc
      refine iJnB (lstK f m x (y + 1)) w7 (fun J hJ => ?_) (fun w9 x9 => ?_)
      · refine iCnd (fun ha => ?_) (fun ha => ?_)
        · rw [ha, Bool.true_and] at hsc
          refine iEq (iCndP (fun he => ?_) (fun he => ?_))
          · have he : y = x := by omega
            rw [decide_eq_true he, Bool.true_or] at hsc
            rw [hsc] at hJ
            exact hJ w7 (Ext.refl _)
          · have he : ¬ y = x := fun e => he (by rw [e])
            rw [decide_eq_false he, Bool.false_or] at hsc
            refine iRet (ok_spec_l01Bit m y hm63 (by omega) w7) fun w10 x10 => ?_
            refine iNot ?_
            refine iCnd (fun hb => ?_) (fun hb => ?_)
            · rw [hb, Bool.true_or] at hsc
              rw [hsc] at hJ
              exact hJ w10 x10
            · rw [hb, Bool.false_or] at hsc
              refine iLdA (hB7.ext x10) rfl ?_
              refine iRet (ok_spec_l16Leq hf (hs.ext ((hX4.trans X7).trans x10)) y x hy1 (by omega)) fun w11 x11 => ?_
              refine iNot ?_
              rw [← hsc]
              exact hJ w11 (x10.trans x11)
        · rw [ha, Bool.false_and] at hsc
          rw [hsc] at hJ
          exact hJ w7 (Ext.refl _)
      · intro _
        simp only [gx]
        refine iAdd (by omega) ?_
        exact hKn2 (lstK f m x (y + 1), y + 1) _ ⟨by show y + 1 ≤ f.n; omega, x7.trans x9, rfl⟩ (by show f.n - (y + 1) < f.n - y; omega)
    · obtain rfl : y = f.n := by omega
      have hls := lstL_succ f m x
      rw [← hal] at hls
      refine iCnd (fun ha => ?_) (fun ha => ?_)
      · rw [if_pos ha] at hls
        refine iCall ((ok_spec_l02Var x w7).mono ?_)
        rintro q w12 ⟨x12, hq⟩
        have hE7 := hE.ext X7
        have hd := hE7.fresh (EF.one hq) (Nat.le_refl _)
        refine iBs1 rfl hq.cell fun b13 w13 hb13 x13 hB13 => ?_
        have hE13 : EF w1.heap.size w13 (L ++ [(q, .var x)]) := ((hE7.ext x12).app (EF.one (hq.mono (x4.trans X7).size)) hd).ext x13
        refine RF.appS (Ow.ext hR (X7.trans (x12.trans x13))) hE13 (Sl.ofBlk hB13 rfl (by omega)) (x4.trans (X7.trans (x12.trans x13))).size (by simp only [List.length_singleton]; omega) fun v' w14 hR14 hE14 hg14 => ?_
        refine iAdd (by omega) ?_
        refine hKn (v', x + 1) _ ⟨by show x + 1 ≤ f.n; omega, (x4.trans (X7.trans (x12.trans x13))).grown hg14 fun c hc => (Ow.blk hR c hc).1, _, hR14, hE14, ?_⟩ (by show f.n - (x + 1) < f.n - x; omega)
        show (L ++ [(q, Fm.var x)]).map Prod.snd = (lstL f m (x + 1)).map Fm.var
        rw [List.map_append, hL, hls, List.map_append]
        rfl
      · rw [if_neg (by rw [ha]; simp)] at hls
        refine iAdd (by omega) ?_
        exact hKn (o, x + 1) _ ⟨by show x + 1 ≤ f.n; omega, x4.trans X7, L, Ow.ext hR X7, hE.ext X7, by show L.map Prod.snd = (lstL f m (x + 1)).map Fm.var; rw [hls, hL]⟩ (by show f.n - (x + 1) < f.n - x; omega)
  · obtain rfl : x = f.n := by omega
    rw [lstL_end hf hm] at hL
    refine iCall ((ok_spec_l02All (Ow.sl hR) (fun p hp => (hE.1 p hp).sl) hL (by omega)).mono ?_)
    rintro r w3 ⟨x3, hr⟩
    exact ⟨hX4.trans x3, hr.mono hX4.size⟩
end Go.Proofs.YtfhdhdgabdpmkaaGreat

/- Contracts: premises and conclusion of Jankov's formulas, in the program and the reference. Conditions: none. -/
namespace Go.Vc
theorem flat_le {α β : Type} (m : Nat) (f : α → List β) : ∀ l : List α, (∀ a ∈ l, (f a).length ≤ m) → (l.flatMap f).length ≤ m * l.length
  | [], _ => by simp
  | a :: l, h => by
    rw [List.flatMap_cons, List.length_append, List.length_cons, Nat.mul_succ]
    have h1 := flat_le m f l fun x hx => h x (List.mem_cons_of_mem _ hx)
    have h2 := h a (by simp)
    omega
theorem pairsK_len {f : Fr} (hf : f.n ≤ 8) {x y : Nat} (hx : x ≤ 8) (hy : y ≤ 8) : (pairsK f x y).length ≤ 200 := by
  unfold pairsK
  rw [List.length_append]
  have hin : ∀ a (l : List Nat), (l.flatMap (pairF f a)).length ≤ 2 * l.length := fun a l => flat_le 2 _ l fun _ _ => Nat.le_refl _
  have h1 := flat_le 16 (fun x => ((List.range f.n).drop (x + 1)).flatMap (pairF f x)) (List.range x) fun a _ => by
    have := hin a ((List.range f.n).drop (a + 1))
    rw [List.length_drop, List.length_range] at this
    omega
  have h2 := hin x ((List.range y).drop (x + 1))
  rw [List.length_range] at h1
  rw [List.length_drop, List.length_range] at h2
  omega
theorem upsK_len {f : Fr} (hf : f.ok) {x k : Nat} (hx : x ≤ 8) : (upsK f x k).length ≤ 5000 := by
  unfold upsK
  rw [List.length_append]
  have hu := upsets_len hf
  have hin : ∀ a (l : List Nat), (l.flatMap (upF f a)).length ≤ 2 * l.length := fun a l => flat_le 2 _ l fun _ _ => Nat.le_refl _
  have h1 := flat_le 512 (fun x => (upsets f).flatMap (upF f x)) (List.range x) fun a _ => by have := hin a (upsets f); omega
  have h2 := hin x ((upsets f).take k)
  rw [List.length_range] at h1
  rw [List.length_take] at h2
  omega
theorem jnF_size {f : Fr} (hf : f.ok) {m : Nat} (hm : m < 2 ^ f.n) : (jnF f m).size ≤ 17 := by
  have h1 := orV_size (minL f m)
  have h2 := minL_len f m
  have h3 := mem_len hf hm
  have := hf.1
  show (orV (minL f m)).size ≤ 17
  omega
theorem impM_lt (f : Fr) (a b : Nat) : impM f a b < 2 ^ f.n := setOf_lt fun _ hy => List.mem_range.1 (List.mem_filter.1 hy).1
end Go.Vc
namespace Go.Proofs.YtfhdhdgabdpmkaaGreat
open Go.Vc
theorem ok_impl_arrow2 {v va vb : Value} {a b : Fm} {w : World} (hs : Sl w v [va, vb]) (ha : FmS w va a) (hb : FmS w vb b) (hsz : (Fm.imp a b).size ≤ 1099511627776) : Cal Tryz.prog f_impl_arrow #[v] w fun r w' => Ext w w' ∧ FmW w.heap.size w' r (.imp a b) := by
  apply c_impl_arrow; unfold S_impl_arrow
  refine iLenS hs ?_
  refine iSub (by simp) ?_
  refine iIa (j := 1) hs (by omega) (by simp) fun p hp => ?_
  have hp : w.cell? p = some vb := hp
  refine iLd hp ?_
  refine iLenS hs ?_
  refine iSub (by simp) ?_
  refine iLp (fun s : Value × Nat => [s.1, .int .i64 ((s.2 : Int) - 1)]) (fun s w' => (s.2 = 1 ∧ s.1 = vb ∧ w' = w) ∨ (s.2 = 0 ∧ Ext w w' ∧ FmW w.heap.size w' s.1 (.imp a b))) (fun s => s.2) (vb, 1) rfl (.inl ⟨rfl, rfl, rfl⟩) ?_
  rintro ⟨u, s⟩ w2 Kn (⟨h1, h2, h3⟩ | ⟨h1, x2, ho⟩) hKn
  · have h1 : s = 1 := h1
    have h2 : u = vb := h2
    subst h1; subst h2; subst h3
    intro _
    simp only [gx]
    refine iLe (iCndT (by decide) ?_)
    refine iIa (j := 0) hs (by omega) (by simp) fun p hp => ?_
    have hp : w2.cell? p = some va := hp
    refine iLd hp ?_
    refine iCall ((ok_impl_join (k := 4) (c := .imp a b) rfl rfl ha hb hsz).mono ?_)
    rintro r w3 ⟨x3, ho⟩
    refine iSub (by simp) ?_
    exact hKn (r, 0) _ (.inr ⟨rfl, x3, ho⟩) (by simp)
  · have h1 : s = 0 := h1
    subst h1
    intro _
    simp only [gx]
    refine iLe (iCndF (by decide) ?_)
    exact ⟨x2, ho⟩
/-- Both implications, appended. -/
theorem impl_both {lo : Nat} {w : World} {out va vb : Value} {L : List (Value × Fm)} {A B : Fm} {K : Value → World → Prop} (hR : RF lo w out L) (hE : EF lo w L) (ha : FmS w va A) (hb : FmS w vb B) (hsA : A.size ≤ 100) (hsB : B.size ≤ 100) (hlo : lo ≤ w.heap.size) (hL : L.length ≤ 90000)
    (hk : ∀ v' w' N, N.map Prod.snd = bothF A B → RF lo w' v' (L ++ N) → EF lo w' (L ++ N) → w.grownBy w' out.ownBlock → K v' w') :
    xBs t_Simpl_Node (Value.cells (.slice none 0 0)) 1 2 [(0, va), (1, vb)] w fun v51 w18 => callV Tryz.prog (.func (.func f_impl_arrow) #[] #[]) [v51] w18 fun v52 w19 => xBs t_Simpl_Node (Value.cells (.slice none 0 0)) 1 2 [(0, vb), (1, va)] w19 fun v55 w20 => callV Tryz.prog (.func (.func f_impl_arrow) #[] #[]) [v55] w20 fun v56 w21 => xBs t_Simpl_Node (Value.cells (.slice none 0 0)) 1 2 [(0, v52), (1, v56)] w21 fun v57 w22 => xOp Tryz.prog (Builtin.append_ #[t_SSimpl_Node, t_SSimpl_Node] t_SSimpl_Node #[out, v57]) w22 K := by
  have hca : isCell va = true := by obtain ⟨_, _, _, h, _⟩ := ha; rw [h]; rfl
  have hcb : isCell vb = true := by obtain ⟨_, _, _, h, _⟩ := hb; rw [h]; rfl
  refine iBs2 rfl hca hcb fun c1 w1 hc1 x1 hB1 => ?_
  refine iCall ((ok_impl_arrow2 (Sl.ofBlk (n := 2) hB1 rfl (by decide)) (SlK.ext ha x1) (SlK.ext hb x1) (by simp only [Fm.size]; omega)).mono ?_)
  rintro r1 w2 ⟨x2, h1⟩
  have X2 := x1.trans x2
  refine iBs2 rfl hcb hca fun c3 w3 hc3 x3 hB3 => ?_
  have X3 := X2.trans x3
  refine iCall ((ok_impl_arrow2 (Sl.ofBlk (n := 2) hB3 rfl (by decide)) (SlK.ext hb X3) (SlK.ext ha X3) (by simp only [Fm.size]; omega)).mono ?_)
  rintro r2 w4 ⟨x4, h2⟩
  have X4 := X3.trans x4
  refine iBs2 rfl h1.cell h2.cell fun c5 w5 hc5 x5 hB5 => ?_
  have X5 := X4.trans x5
  have h1' : FmW w1.heap.size w5 r1 (.imp A B) := OwK.ext h1 (x3.trans (x4.trans x5))
  have h2' : FmW w3.heap.size w5 r2 (.imp B A) := OwK.ext h2 x5
  have hN : EF w.heap.size w5 [(r1, .imp A B), (r2, .imp B A)] := by
    refine EF.app (A := [(r1, .imp A B)]) (EF.one (OwK.mono h1' x1.size)) (EF.one (OwK.mono h2' (X3.size))) ?_
    have hf := EF.fresh (w0 := w3) (EF.one (OwK.ext h1 x3)) (EF.one h2) (Nat.le_refl _)
    exact hf
  have hd := EF.fresh hE hN (Nat.le_refl _)
  refine RF.appS (Ow.ext hR X5) ((hE.ext X5).app (hN.mono hlo) hd) (Sl.ofBlk (n := 2) hB5 rfl (by decide)) (Nat.le_trans hlo X5.size) (by simp only [List.length_cons, List.length_nil]; omega) fun v' w' hR' hE' hg => hk v' w' _ rfl hR' hE' (grown_of_ext X5 hg)
theorem ok_spec_l21Both {w : World} {va vb : Value} {A B : Fm} (ha : FmS w va A) (hb : FmS w vb B) (hsA : A.size ≤ 100) (hsB : B.size ≤ 100) : Cal Tryz.prog f_spec_l21Both #[va, vb] w fun r w' => Ext w w' ∧ ∃ N, Sl w' r (N.map Prod.fst) ∧ EF w.heap.size w' N ∧ N.map Prod.snd = bothF A B := by
  apply c_spec_l21Both; unfold S_spec_l21Both
  refine iCall ((ok_spec_l02Pair (c := .imp A B) (k := 4) rfl rfl ha hb (by simp only [Fm.size]; omega)).mono ?_)
  rintro r1 w1 ⟨x1, h1⟩
  refine iCall ((ok_spec_l02Pair (c := .imp B A) (k := 4) rfl rfl (SlK.ext hb x1) (SlK.ext ha x1) (by simp only [Fm.size]; omega)).mono ?_)
  rintro r2 w2 ⟨x2, h2⟩
  refine iBs2 rfl h1.cell h2.cell fun c3 w3 hc3 x3 hB3 => ?_
  refine ⟨(x1.trans x2).trans x3, [(r1, .imp A B), (r2, .imp B A)], Sl.ofBlk (n := 2) hB3 rfl (by decide), ?_, rfl⟩
  have hf := EF.fresh (w0 := w1) (EF.one h1) (EF.one h2) (Nat.le_refl _)
  exact EF.app (A := [(r1, .imp A B)]) (EF.one (OwK.ext h1 (x2.trans x3))) (EF.one (OwK.mono (OwK.ext h2 x3) x1.size)) hf
theorem and_lt8 {f : Fr} (hf : f.ok) {x y : Nat} (hx : x < f.n) : f.a.getD x 0 &&& f.a.getD y 0 < 2 ^ f.n := Nat.lt_of_le_of_lt Nat.and_le_left (hf.lt hx)
theorem ok_impl_premises {f : Fr} (hf : f.ok) (hr : Rooted f) {w : World} {v : Value} (hs : SlN w v f.a) : Cal Tryz.prog f_impl_jankovPremises #[.agg #[.int .i64 (f.n : Int), v]] w fun r w' => Ext w w' ∧ ∃ L, RF w.heap.size w' r L ∧ EF w.heap.size w' L ∧ L.map Prod.snd = premF f := by
  apply c_impl_jankovPremises; unfold S_impl_jankovPremises
  have hf8 := hf.1
  have hfl := hf.2.1
  refine iNew fun b w1 hb x1 hB => ?_
  refine iLdA hB rfl ?_
  refine iRet (ok_impl_root hf hr (hs.ext x1)) fun w2 x2 => ?_
  refine iCall ((ok_impl_variable (rootN f) w2).mono ?_)
  rintro y w3 ⟨x3, hy⟩
  refine iBs1 rfl hy.cell fun c w4 hc4 x4 hB4 => ?_
  have hX4 := ((x1.trans x2).trans x3).trans x4
  have x14 := (x2.trans x3).trans x4
  have hz2 := x2.size
  have hR4 : RF w1.heap.size w4 (.slice (some ⟨c, 0, none⟩) 1 1) [(y, .var (rootN f))] := Ow.ofBlk (n := 1) hB4 (by have := (x2.trans x3).size; omega) rfl (by decide)
  have hE4 : EF w1.heap.size w4 [(y, .var (rootN f))] := EF.one (OwK.mono (OwK.ext hy x4) hz2)
  have hB1 := hB.ext x14
  ((with_reducible refine iFa ?_); refine iLdB (by assumption) (by first | rfl | simp) ?_)
  refine iLp (fun s : Value × Nat => [s.1, .int .i64 (s.2 : Int)]) (fun s w' => s.2 ≤ f.n ∧ Ext w1 w' ∧ ∃ L, RF w1.heap.size w' s.1 L ∧ EF w1.heap.size w' L ∧ L.map Prod.snd = [.var (rootN f)] ++ pairsK f s.2 0) (fun s => f.n - s.2) (.slice (some ⟨c, 0, none⟩) 1 1, 0) rfl ⟨Nat.zero_le _, x14, _, hR4, hE4, by rw [pairsK_zero]; rfl⟩ ?_
  rintro ⟨o, x⟩ w6 Kn ⟨hx, x6, L, hR, hE, hL⟩ hKn
  have hx : x ≤ f.n := hx
  have hR : RF w1.heap.size w6 o L := hR
  have hL : L.map Prod.snd = [.var (rootN f)] ++ pairsK f x 0 := hL
  intro _
  simp only [gx]
  refine iLt (iCndP (fun h => ?_) (fun h => ?_))
  · have hx1 : x < f.n := by omega
    refine iAdd (by omega) ?_
    have ex : (x : Int) + 1 = ((x + 1 : Nat) : Int) := by omega
    rw [ex]
    refine iLp (fun s : Value × Nat => [s.1, .int .i64 (s.2 : Int)]) (fun s w' => x + 1 ≤ s.2 ∧ s.2 ≤ f.n ∧ Ext w1 w' ∧ ∃ L, RF w1.heap.size w' s.1 L ∧ EF w1.heap.size w' L ∧ L.map Prod.snd = [.var (rootN f)] ++ pairsK f x s.2) (fun s => f.n - s.2) (o, x + 1) rfl ⟨Nat.le_refl _, hx1, x6, L, hR, hE, by rw [hL]; show _ = [Fm.var (rootN f)] ++ pairsK f x (x + 1); rw [pairsK_start]⟩ ?_
    rintro ⟨o2, y⟩ w8 Kn2 ⟨hy1, hy2, x8, M, hRM, hEM, hM⟩ hKn2
    have hy1 : x + 1 ≤ y := hy1
    have hy2 : y ≤ f.n := hy2
    have hRM : RF w1.heap.size w8 o2 M := hRM
    have hM : M.map Prod.snd = [.var (rootN f)] ++ pairsK f x y := hM
    have hB8 := hB.ext x8
    have hs8 := hs.ext (x1.trans x8)
    have hMl : M.length ≤ 300 := by
      have h1 := congrArg List.length hM
      have h2 := pairsK_len hf8 (x := x) (y := y) (by omega) (by omega)
      rw [List.length_map, List.length_append, List.length_singleton] at h1
      omega
    (intro _; (try simp only [gx]); (with_reducible refine iFa ?_); refine iLdB (by assumption) (by first | rfl | simp) ?_; (with_reducible refine iLt ?_))
    refine iCndP (fun h8 => ?_) (fun h8 => ?_)
    · have hy3 : y < f.n := by omega
      have hax := hf.lt hx1
      have hay := hf.lt hy3
      have h28 : 2 ^ f.n ≤ 2 ^ 8 := Nat.pow_le_pow_right (by omega) hf8
      ((with_reducible refine iLdA (by assumption) ?_ ?_); rfl; (with_reducible refine iFa ?_); refine iLdB (by assumption) (by first | rfl | simp) ?_; (with_reducible refine iIaNN (by assumption) ?_ (fun pa_ hpa_ => ?_)); omega; (with_reducible refine iLd (by assumption) ?_; refine iFa ?_); refine iLdB (by assumption) (by first | rfl | simp) ?_; (with_reducible refine iIaNN (by assumption) ?_ (fun pa_ hpa_ => ?_)); omega; (with_reducible refine iLd (by assumption) ?_))
      refine iBAnd (by omega) (by omega) ?_
      intro w9 x9
      refine iCall ((ok_impl_variable x w9).mono ?_)
      rintro a1 w10 ⟨x10, h10⟩
      refine ⟨x10, fun w11 x11 => ?_⟩
      refine iCall ((ok_impl_variable y w11).mono ?_)
      rintro a2 w12 ⟨x12, h12⟩
      refine ⟨x12, fun w13 x13 => ?_⟩
      refine iCall ((ok_impl_join (c := .and (.var x) (.var y)) (k := 2) rfl rfl (SlK.ext h10.sl (x11.trans (x12.trans x13))) (SlK.ext h12.sl x13) (by simp only [Fm.size]; omega)).mono ?_)
      rintro a3 w14 ⟨x14, h14⟩
      refine ⟨x14, fun w15 x15 => ?_⟩
      have X15 : Ext w8 w15 := (x9.trans (x10.trans (x11.trans (x12.trans x13)))).trans (x14.trans x15)
      refine iCall ((ok_impl_joined hf (hs8.ext X15) _ (and_lt8 hf hx1)).mono ?_)
      rintro a4 w16 ⟨x16, h16⟩
      intro w17 x17
      have X17 : Ext w8 w17 := X15.trans (x16.trans x17)
      refine impl_both (A := .and (.var x) (.var y)) (B := jnF f (f.a.getD x 0 &&& f.a.getD y 0)) (Ow.ext hRM X17) (hEM.ext X17) (SlK.ext h14.sl (x15.trans (x16.trans x17))) (SlK.ext h16.sl x17) (by simp only [Fm.size]; omega) (by have := jnF_size hf (m := f.a.getD x 0 &&& f.a.getD y 0) (and_lt8 hf hx1); omega) (x8.trans X17).size (by omega) fun v' w' N hN hR' hE' hg => ?_
      refine iAdd (by omega) ?_
      refine hKn2 (v', y + 1) _ ⟨by show x + 1 ≤ y + 1; omega, by show y + 1 ≤ f.n; omega, (x8.trans X17).grown hg fun c hc => (Ow.blk hRM c hc).1, M ++ N, hR', hE', ?_⟩ (by show f.n - (y + 1) < f.n - y; omega)
      show (M ++ N).map Prod.snd = [.var (rootN f)] ++ pairsK f x (y + 1)
      rw [List.map_append, hM, hN, pairsK_step f x y hy1, List.append_assoc]; rfl
    · obtain rfl : y = f.n := by omega
      refine iAdd (by omega) ?_
      refine hKn (o2, x + 1) _ ⟨by show x + 1 ≤ f.n; omega, x8, M, hRM, hEM, ?_⟩ (by show f.n - (x + 1) < f.n - x; omega)
      rw [hM, pairsK_row]
  · obtain rfl : x = f.n := by omega
    have hB6 := hB.ext x6
    ((with_reducible refine iFa ?_); refine iLdB (by assumption) (by first | rfl | simp) ?_)
    refine iLp (fun s : Value × Nat => [s.1, .int .i64 (s.2 : Int)]) (fun s w' => s.2 ≤ f.n ∧ Ext w1 w' ∧ ∃ L, RF w1.heap.size w' s.1 L ∧ EF w1.heap.size w' L ∧ L.map Prod.snd = [.var (rootN f)] ++ pairsK f f.n 0 ++ upsK f s.2 0) (fun s => f.n - s.2) (o, 0) rfl ⟨Nat.zero_le _, x6, L, hR, hE, by rw [upsK_zero, List.append_nil]; exact hL⟩ ?_
    rintro ⟨o2, x⟩ w25 Kn2 ⟨hx2, x25, M, hRM, hEM, hM⟩ hKn2
    have hx2 : x ≤ f.n := hx2
    have hRM : RF w1.heap.size w25 o2 M := hRM
    have hM : M.map Prod.snd = [.var (rootN f)] ++ pairsK f f.n 0 ++ upsK f x 0 := hM
    intro _
    simp only [gx]
    refine iLt (iCndP (fun h => ?_) (fun h => ?_))
    · have hx1 : x < f.n := by omega
      refine iLdA (hB.ext x25) rfl ?_
      refine iCall ((ok_impl_Poset_upsets hf (hs.ext (x1.trans x25))).mono ?_)
      rintro uv w26 ⟨x26, hu⟩
      have hul := upsets_len hf
      have hus : SlN w26 uv (upsets f) := hu.sl
      ((with_reducible refine iLenN (by assumption) ?_))
      refine iLp (fun s : Value × Nat => [s.1, .int .i64 (s.2 : Int)]) (fun s w' => s.2 ≤ (upsets f).length ∧ Ext w1 w' ∧ Ow 0 t_i64 w' uv (ints (nats (upsets f))) ∧ ∃ L, RF w1.heap.size w' s.1 L ∧ EF w1.heap.size w' L ∧ L.map Prod.snd = [.var (rootN f)] ++ pairsK f f.n 0 ++ upsK f x s.2) (fun s => (upsets f).length - s.2) (o2, 0) rfl ⟨Nat.zero_le _, x25.trans x26, hu.mono (Nat.zero_le _), M, Ow.ext hRM x26, hEM.ext x26, hM⟩ ?_
      rintro ⟨o3, k⟩ w28 Kn3 ⟨hk, x28, y28, M3, hR3, hE3, hM3⟩ hKn3
      have hk : k ≤ (upsets f).length := hk
      have hR3 : RF w1.heap.size w28 o3 M3 := hR3
      have hM3 : M3.map Prod.snd = [.var (rootN f)] ++ pairsK f f.n 0 ++ upsK f x k := hM3
      have hB28 := hB.ext x28
      have hs28 := hs.ext (x1.trans x28)
      have hus28 : SlN w28 uv (upsets f) := y28.sl
      have hMl : M3.length ≤ 6000 := by
        have h1 := congrArg List.length hM3
        have h2 := pairsK_len hf8 (x := f.n) (y := 0) hf8 (by omega)
        have h3 := upsK_len hf (x := x) (k := k) (by omega)
        rw [List.length_map, List.length_append, List.length_append, List.length_singleton] at h1
        omega
      intro _
      simp only [gx]
      refine iLt (iCndP (fun h28 => ?_) (fun h28 => ?_))
      · have hk1 : k < (upsets f).length := by omega
        have hul2 : (upsets f).getD k 0 < 2 ^ f.n := upsets_lt (getD_mem hk1)
        have hue : (upsets f).getD k 0 = (upsets f)[k] := by simp [List.getD_eq_getElem?_getD, hk1]
        ((with_reducible refine iIaNN (by assumption) ?_ (fun pa_ hpa_ => ?_)); omega; (with_reducible refine iLd (by assumption) ?_); (with_reducible refine iLdA (by assumption) ?_ ?_); rfl; (with_reducible refine iLdA (by assumption) ?_ ?_); rfl; (with_reducible refine iLdA (by assumption) ?_ ?_); rfl; (with_reducible refine iFa ?_); refine iLdB (by assumption) (by first | rfl | simp) ?_; (with_reducible refine iIaNN (by assumption) ?_ (fun pa_ hpa_ => ?_)); omega; (with_reducible refine iLd (by assumption) ?_))
        intro w29 x29
        refine iCall ((ok_impl_variable x w29).mono ?_)
        rintro a1 w30 ⟨x30, h30⟩
        refine ⟨x30, fun w31 x31 => ?_⟩
        have X31 : Ext w28 w31 := x29.trans (x30.trans x31)
        refine iCall ((ok_impl_joined hf (hs28.ext X31) _ hul2).mono ?_)
        rintro a2 w32 ⟨x32, h32⟩
        refine ⟨x32, fun w33 x33 => ?_⟩
        have h30' := OwK.ext h30 (x31.trans (x32.trans x33))
        have h32' := OwK.ext h32 x33
        refine iBs2 rfl h30'.cell h32'.cell fun c34 w34 hc34 x34 hB34 => ⟨x34, fun w35 x35 => ?_⟩
        have sz1 := jnF_size hf hul2
        refine iCall ((ok_impl_arrow2 (Sl.ofBlk (n := 2) (hB34.ext x35) rfl (by decide)) (OwK.ext h30' (x34.trans x35)).sl (OwK.ext h32' (x34.trans x35)).sl (by simp only [Fm.size]; omega)).mono ?_)
        rintro a3 w36 ⟨x36, h36⟩
        have X36 : Ext w28 w36 := X31.trans ((x32.trans x33).trans (x34.trans (x35.trans x36)))
        refine ⟨x36, ?_⟩
        refine iRetQ (fun w' h' => ok_impl_imply hf (hs28.ext (X36.trans h')) _ _ (hf.lt hx1) hul2) ?_
        intro w37 x37
        refine iCall ((ok_impl_joined hf (hs28.ext (X36.trans x37)) _ (impM_lt f _ _)).mono ?_)
        rintro a4 w38 ⟨x38, h38⟩
        intro w39 x39
        have X39 : Ext w28 w39 := X36.trans (x37.trans (x38.trans x39))
        refine impl_both (A := .imp (.var x) (jnF f ((upsets f).getD k 0))) (B := jnF f (impM f (f.a.getD x 0) ((upsets f).getD k 0))) (Ow.ext hR3 X39) (hE3.ext X39) (SlK.ext h36.sl (x37.trans (x38.trans x39))) (SlK.ext h38.sl x39) (by simp only [Fm.size]; omega) (by have := jnF_size hf (impM_lt f (f.a.getD x 0) ((upsets f).getD k 0)); omega) (x28.trans X39).size (by omega) fun v' w' N hN hR' hE' hg => ?_
        refine iAdd (by omega) ?_
        refine hKn3 (v', k + 1) _ ⟨by show k + 1 ≤ (upsets f).length; omega, (x28.trans X39).grown hg fun c hc => (Ow.blk hR3 c hc).1, ?_, M3 ++ N, hR', hE', ?_⟩ (by show (upsets f).length - (k + 1) < (upsets f).length - k; omega)
        · exact (y28.ext X39).ch (grown_ch (S := fun c => o3.ownBlock = some c) hg fun c hc => hc) fun c hc hc' => (y28.ext X39).ne_ow (Ow.ext hR3 X39) (by decide) hc hc'
        · rw [List.map_append, hM3, hN]
          show _ = [Fm.var (rootN f)] ++ pairsK f f.n 0 ++ upsK f x (k + 1)
          rw [upsK_step f x k hk1, ← hue, List.append_assoc, List.append_assoc, List.append_assoc]
          rfl
      · obtain rfl : k = (upsets f).length := by omega
        refine iAdd (by omega) ?_
        refine hKn2 (o3, x + 1) _ ⟨by show x + 1 ≤ f.n; omega, x28, M3, hR3, hE3, ?_⟩ (by show f.n - (x + 1) < f.n - x; omega)
        rw [hM3, upsK_row]
    · obtain rfl : x = f.n := by omega
      exact ⟨x1.trans x25, M, Ow.mono hRM x1.size, hEM.mono x1.size, hM⟩
end Go.Proofs.YtfhdhdgabdpmkaaGreat

/- Contracts: premises in the reference, conclusions, TellingFormulas. Conditions: none. -/
namespace Go.Proofs.YtfhdhdgabdpmkaaGreat
open Go.Vc
theorem ok_spec_premises {f : Fr} (hf : f.ok) (hr : Rooted f) {w : World} {v : Value} (hs : SlN w v f.a) : Cal Tryz.prog f_spec_l21Premises #[.agg #[.int .i64 (f.n : Int), v]] w fun r w' => Ext w w' ∧ ∃ L, RF w.heap.size w' r L ∧ EF w.heap.size w' L ∧ L.map Prod.snd = premF f := by
  apply c_spec_l21Premises; unfold S_spec_l21Premises
  have hf8 := hf.1
  have hfl := hf.2.1
  refine iNew fun b w1 hb x1 hB => ?_
  refine iLdA hB rfl ?_
  refine iRet (ok_spec_l16Root hf hr (hs.ext x1)) fun w2 x2 => ?_
  refine iCall ((ok_spec_l02Var (rootN f) w2).mono ?_)
  rintro y w3 ⟨x3, hy⟩
  refine iBs1 rfl hy.cell fun c w4 hc4 x4 hB4 => ?_
  have x14 := (x2.trans x3).trans x4
  have hR4 : RF w1.heap.size w4 (.slice (some ⟨c, 0, none⟩) 1 1) [(y, .var (rootN f))] := Ow.ofBlk (n := 1) hB4 (by have := (x2.trans x3).size; omega) rfl (by decide)
  have hE4 : EF w1.heap.size w4 [(y, .var (rootN f))] := EF.one (OwK.mono (OwK.ext hy x4) x2.size)
  refine iLp (fun s : Value × Nat => [s.1, .int .i64 (s.2 : Int)]) (fun s w' => s.2 ≤ f.n ∧ Ext w1 w' ∧ ∃ L, RF w1.heap.size w' s.1 L ∧ EF w1.heap.size w' L ∧ L.map Prod.snd = [.var (rootN f)] ++ pairsK f s.2 0) (fun s => f.n - s.2) (.slice (some ⟨c, 0, none⟩) 1 1, 0) rfl ⟨Nat.zero_le _, x14, _, hR4, hE4, by rw [pairsK_zero]; rfl⟩ ?_
  rintro ⟨o, x⟩ w6 Kn ⟨hx, x6, L, hR, hE, hL⟩ hKn
  have hx : x ≤ f.n := hx
  have hR : RF w1.heap.size w6 o L := hR
  have hL : L.map Prod.snd = [.var (rootN f)] ++ pairsK f x 0 := hL
  have hB6 := hB.ext x6
  (intro _; (try simp only [gx]); (with_reducible refine iFa ?_); refine iLdB (by assumption) (by first | rfl | simp) ?_; (with_reducible refine iLt ?_))
  refine iCndP (fun h => ?_) (fun h => ?_)
  · have hx1 : x < f.n := by omega
    refine iAdd (by omega) ?_
    have ex : (x : Int) + 1 = ((x + 1 : Nat) : Int) := by omega
    rw [ex]
    refine iLp (fun s : Value × Nat => [s.1, .int .i64 (s.2 : Int)]) (fun s w' => x + 1 ≤ s.2 ∧ s.2 ≤ f.n ∧ Ext w1 w' ∧ ∃ L, RF w1.heap.size w' s.1 L ∧ EF w1.heap.size w' L ∧ L.map Prod.snd = [.var (rootN f)] ++ pairsK f x s.2) (fun s => f.n - s.2) (o, x + 1) rfl ⟨Nat.le_refl _, hx1, x6, L, hR, hE, by rw [hL]; show _ = [Fm.var (rootN f)] ++ pairsK f x (x + 1); rw [pairsK_start]⟩ ?_
    rintro ⟨o2, y⟩ w8 Kn2 ⟨hy1, hy2, x8, M, hRM, hEM, hM⟩ hKn2
    have hy1 : x + 1 ≤ y := hy1
    have hy2 : y ≤ f.n := hy2
    have hRM : RF w1.heap.size w8 o2 M := hRM
    have hM : M.map Prod.snd = [.var (rootN f)] ++ pairsK f x y := hM
    have hB8 := hB.ext x8
    have hs8 := hs.ext (x1.trans x8)
    have hMl : M.length ≤ 300 := by
      have h1 := congrArg List.length hM
      have h2 := pairsK_len hf8 (x := x) (y := y) (by omega) (by omega)
      rw [List.length_map, List.length_append, List.length_singleton] at h1
      omega
    (intro _; (try simp only [gx]); (with_reducible refine iFa ?_); refine iLdB (by assumption) (by first | rfl | simp) ?_; (with_reducible refine iLt ?_))
    refine iCndP (fun h8 => ?_) (fun h8 => ?_)
    · have hy3 : y < f.n := by omega
      have hax := hf.lt hx1
      have hay := hf.lt hy3
      have h28 : 2 ^ f.n ≤ 2 ^ 8 := Nat.pow_le_pow_right (by omega) hf8
      ((with_reducible refine iLdA (by assumption) ?_ ?_); rfl; (with_reducible refine iFa ?_); refine iLdB (by assumption) (by first | rfl | simp) ?_; (with_reducible refine iIaNN (by assumption) ?_ (fun pa_ hpa_ => ?_)); omega; (with_reducible refine iLd (by assumption) ?_; refine iFa ?_); refine iLdB (by assumption) (by first | rfl | simp) ?_; (with_reducible refine iIaNN (by assumption) ?_ (fun pa_ hpa_ => ?_)); omega; (with_reducible refine iLd (by assumption) ?_))
      refine iBAnd (by omega) (by omega) ?_
      intro w9 x9
      refine iCall ((ok_spec_l02Var x w9).mono ?_)
      rintro a1 w10 ⟨x10, h10⟩
      refine ⟨x10, fun w11 x11 => ?_⟩
      refine iCall ((ok_spec_l02Var y w11).mono ?_)
      rintro a2 w12 ⟨x12, h12⟩
      refine ⟨x12, fun w13 x13 => ?_⟩
      refine iCall ((ok_spec_l02Pair (c := .and (.var x) (.var y)) (k := 2) rfl rfl (SlK.ext h10.sl (x11.trans (x12.trans x13))) (SlK.ext h12.sl x13) (by simp only [Fm.size]; omega)).mono ?_)
      rintro a3 w14 ⟨x14, h14⟩
      refine ⟨x14, fun w15 x15 => ?_⟩
      have X15 : Ext w8 w15 := (x9.trans (x10.trans (x11.trans (x12.trans x13)))).trans (x14.trans x15)
      refine iCall ((ok_spec_l21Join hf (hs8.ext X15) _ (and_lt8 hf hx1)).mono ?_)
      rintro a4 w16 ⟨x16, h16⟩
      intro w17 x17
      have X17 : Ext w8 w17 := X15.trans (x16.trans x17)
      refine iCall ((ok_spec_l21Both (A := .and (.var x) (.var y)) (B := jnF f (f.a.getD x 0 &&& f.a.getD y 0)) (SlK.ext h14.sl (x15.trans (x16.trans x17))) (SlK.ext h16.sl x17) (by simp only [Fm.size]; omega) (by have := jnF_size hf (m := f.a.getD x 0 &&& f.a.getD y 0) (and_lt8 hf hx1); omega)).mono ?_)
      rintro r w18 ⟨x18, N, hsN, hEN, hN⟩
      intro w19 x19
      have X19 : Ext w8 w19 := X17.trans (x18.trans x19)
      have hd := EF.fresh (hEM.ext X17) hEN (Nat.le_refl _)
      have hNl : N.length = 2 := by have := congrArg List.length hN; simpa [bothF] using this
      refine RF.appS (Ow.ext hRM X19) ((hEM.ext X19).app ((hEN.ext x19).mono (x8.trans X17).size) hd) (Sl.ext hsN x19) (x8.trans X19).size (by omega) fun v' w20 hR' hE' hg => ?_
      intro w21 x21
      refine iAdd (by omega) ?_
      refine hKn2 (v', y + 1) _ ⟨by show x + 1 ≤ y + 1; omega, by show y + 1 ≤ f.n; omega, ((x8.trans X19).grown hg fun c hc => (Ow.blk hRM c hc).1).trans x21, M ++ N, Ow.ext hR' x21, hE'.ext x21, ?_⟩ (by show f.n - (y + 1) < f.n - y; omega)
      show (M ++ N).map Prod.snd = [.var (rootN f)] ++ pairsK f x (y + 1)
      rw [List.map_append, hM, hN, pairsK_step f x y hy1, List.append_assoc]; rfl
    · obtain rfl : y = f.n := by omega
      refine iAdd (by omega) ?_
      refine hKn (o2, x + 1) _ ⟨by show x + 1 ≤ f.n; omega, x8, M, hRM, hEM, ?_⟩ (by show f.n - (x + 1) < f.n - x; omega)
      rw [hM, pairsK_row]
  · obtain rfl : x = f.n := by omega
    refine iLdA hB6 rfl ?_
    refine iCall ((ok_spec_l16Upsets hf (hs.ext (x1.trans x6))).mono ?_)
    rintro uv w22 ⟨x22, hu⟩
    have hul := upsets_len hf
    refine iLp (fun s : Value × Nat => [s.1, .int .i64 (s.2 : Int)]) (fun s w' => s.2 ≤ f.n ∧ Ext w1 w' ∧ Ow 0 t_i64 w' uv (ints (nats (upsets f))) ∧ ∃ L, RF w1.heap.size w' s.1 L ∧ EF w1.heap.size w' L ∧ L.map Prod.snd = [.var (rootN f)] ++ pairsK f f.n 0 ++ upsK f s.2 0) (fun s => f.n - s.2) (o, 0) rfl ⟨Nat.zero_le _, x6.trans x22, hu.mono (Nat.zero_le _), L, Ow.ext hR x22, hE.ext x22, by rw [upsK_zero, List.append_nil]; exact hL⟩ ?_
    rintro ⟨o2, x⟩ w24 Kn2 ⟨hx2, x24, y24, M, hRM, hEM, hM⟩ hKn2
    have hx2 : x ≤ f.n := hx2
    have hRM : RF w1.heap.size w24 o2 M := hRM
    have hM : M.map Prod.snd = [.var (rootN f)] ++ pairsK f f.n 0 ++ upsK f x 0 := hM
    have hB24 := hB.ext x24
    (intro _; (try simp only [gx]); (with_reducible refine iFa ?_); refine iLdB (by assumption) (by first | rfl | simp) ?_; (with_reducible refine iLt ?_))
    refine iCndP (fun h => ?_) (fun h => ?_)
    · have hx1 : x < f.n := by omega
      refine iLp (fun s : Value × Nat => [s.1, .int .i64 (s.2 : Int)]) (fun s w' => s.2 ≤ (upsets f).length ∧ Ext w1 w' ∧ Ow 0 t_i64 w' uv (ints (nats (upsets f))) ∧ ∃ L, RF w1.heap.size w' s.1 L ∧ EF w1.heap.size w' L ∧ L.map Prod.snd = [.var (rootN f)] ++ pairsK f f.n 0 ++ upsK f x s.2) (fun s => (upsets f).length - s.2) (o2, 0) rfl ⟨Nat.zero_le _, x24, y24, M, hRM, hEM, hM⟩ ?_
      rintro ⟨o3, k⟩ w26 Kn3 ⟨hk, x26, y26, M3, hR3, hE3, hM3⟩ hKn3
      have hk : k ≤ (upsets f).length := hk
      have hR3 : RF w1.heap.size w26 o3 M3 := hR3
      have hM3 : M3.map Prod.snd = [.var (rootN f)] ++ pairsK f f.n 0 ++ upsK f x k := hM3
      have hB26 := hB.ext x26
      have hs26 := hs.ext (x1.trans x26)
      have hus26 : SlN w26 uv (upsets f) := y26.sl
      have hMl : M3.length ≤ 6000 := by
        have h1 := congrArg List.length hM3
        have h2 := pairsK_len hf8 (x := f.n) (y := 0) hf8 (by omega)
        have h3 := upsK_len hf (x := x) (k := k) (by omega)
        rw [List.length_map, List.length_append, List.length_append, List.length_singleton] at h1
        omega
      (intro _; (try simp only [gx]); (with_reducible refine iLenN (by assumption) ?_; refine iLt ?_))
      refine iCndP (fun h28 => ?_) (fun h28 => ?_)
      · have hk1 : k < (upsets f).length := by omega
        have hul2 : (upsets f).getD k 0 < 2 ^ f.n := upsets_lt (getD_mem hk1)
        have hue : (upsets f).getD k 0 = (upsets f)[k] := by simp [List.getD_eq_getElem?_getD, hk1]
        have sz1 := jnF_size hf hul2
        ((with_reducible refine iLdA (by assumption) ?_ ?_); rfl; (with_reducible refine iIaNN (by assumption) ?_ (fun pa_ hpa_ => ?_)); omega; (with_reducible refine iLd (by assumption) ?_))
        intro w27 x27
        refine iCall ((ok_spec_l02Var x w27).mono ?_)
        rintro a1 w28 ⟨x28, h28'⟩
        refine ⟨x28, fun w29 x29 => ?_⟩
        have X29 : Ext w26 w29 := x27.trans (x28.trans x29)
        refine iCall ((ok_spec_l21Join hf (hs26.ext X29) _ hul2).mono ?_)
        rintro a2 w30 ⟨x30, h30⟩
        intro w31 x31
        refine iCall ((ok_spec_l02Pair (c := .imp (.var x) (jnF f ((upsets f).getD k 0))) (k := 4) rfl rfl (SlK.ext h28'.sl (x29.trans (x30.trans x31))) (SlK.ext h30.sl x31) (by simp only [Fm.size]; omega)).mono ?_)
        rintro a3 w32 ⟨x32, h32⟩
        intro w33 x33
        have X33 : Ext w26 w33 := X29.trans ((x30.trans x31).trans (x32.trans x33))
        have hB33 := hB26.ext X33
        have hs33 := hs26.ext X33
        have hus33 := hus26.ext X33
        ((with_reducible refine iLdA (by assumption) ?_ ?_); rfl; (with_reducible refine iLdA (by assumption) ?_ ?_); rfl; (with_reducible refine iFa ?_); refine iLdB (by assumption) (by first | rfl | simp) ?_; (with_reducible refine iIaNN (by assumption) ?_ (fun pa_ hpa_ => ?_)); omega; (with_reducible refine iLd (by assumption) ?_); (with_reducible refine iIaNN (by assumption) ?_ (fun pa_ hpa_ => ?_)); omega; (with_reducible refine iLd (by assumption) ?_))
        refine iRetQ (fun w' h' => ok_spec_l17Arrow hf (hs33.ext h') _ _ (hf.lt hx1) hul2) ?_
        intro w34 x34
        refine iCall ((ok_spec_l21Join hf (hs33.ext x34) _ (impM_lt f _ _)).mono ?_)
        rintro a4 w35 ⟨x35, h35⟩
        intro w36 x36
        have X36 : Ext w26 w36 := X33.trans (x34.trans (x35.trans x36))
        refine iCall ((ok_spec_l21Both (A := .imp (.var x) (jnF f ((upsets f).getD k 0))) (B := jnF f (impM f (f.a.getD x 0) ((upsets f).getD k 0))) (SlK.ext h32.sl (x33.trans (x34.trans (x35.trans x36)))) (SlK.ext h35.sl x36) (by simp only [Fm.size]; omega) (by have := jnF_size hf (impM_lt f (f.a.getD x 0) ((upsets f).getD k 0)); omega)).mono ?_)
        rintro r w37 ⟨x37, N, hsN, hEN, hN⟩
        intro w38 x38
        have X38 : Ext w26 w38 := X36.trans (x37.trans x38)
        have hd := EF.fresh (hE3.ext X36) hEN (Nat.le_refl _)
        have hNl : N.length = 2 := by have := congrArg List.length hN; simpa [bothF] using this
        refine RF.appS (Ow.ext hR3 X38) ((hE3.ext X38).app ((hEN.ext x38).mono (x26.trans X36).size) hd) (Sl.ext hsN x38) (x26.trans X38).size (by omega) fun v' w39 hR' hE' hg => ?_
        intro w40 x40
        refine iAdd (by omega) ?_
        refine hKn3 (v', k + 1) _ ⟨by show k + 1 ≤ (upsets f).length; omega, ((x26.trans X38).grown hg fun c hc => (Ow.blk hR3 c hc).1).trans x40, ?_, M3 ++ N, Ow.ext hR' x40, hE'.ext x40, ?_⟩ (by show (upsets f).length - (k + 1) < (upsets f).length - k; omega)
        · exact ((y26.ext X38).ch (grown_ch (S := fun c => o3.ownBlock = some c) hg fun c hc => hc) fun c hc hc' => (y26.ext X38).ne_ow (Ow.ext hR3 X38) (by decide) hc hc').ext x40
        · rw [List.map_append, hM3, hN]
          show _ = [Fm.var (rootN f)] ++ pairsK f f.n 0 ++ upsK f x (k + 1)
          rw [upsK_step f x k hk1, ← hue, List.append_assoc, List.append_assoc, List.append_assoc]
          rfl
      · obtain rfl : k = (upsets f).length := by omega
        refine iAdd (by omega) ?_
        refine hKn2 (o3, x + 1) _ ⟨by show x + 1 ≤ f.n; omega, x26, y26, M3, hR3, hE3, ?_⟩ (by show f.n - (x + 1) < f.n - x; omega)
        rw [hM3, upsK_row]
    · obtain rfl : x = f.n := by omega
      exact ⟨x1.trans x24, M, Ow.mono hRM x1.size, hEM.mono x1.size, hM⟩
theorem frOf_natsJ (g : Fr) : frOf (g.n : Int) (nats g.a) = g := by
  unfold frOf nats
  rw [Int.toNat_natCast, List.map_map]
  have : (Int.toNat ∘ fun (x : Nat) => (x : Int)) = id := by funext x; simp
  first
    | rw [this, List.map_id]
    | simp [Function.comp_def]
theorem poB_ofJ {f : Fr} (hp : Po f) : poB f = true := by
  unfold poB
  rw [Bool.and_eq_true, Bool.and_eq_true]
  refine ⟨?_, (flagB_trans hp.ok).2 hp.trans, flagB_iff.2 fun x _ => ⟨by unfold flag1; simp, fun y _ => ?_⟩⟩
  · rw [flagB_refl, List.all_eq_true]
    exact fun x hx => hp.refl x (List.mem_range.1 hx)
  · unfold flag2
    cases h1 : (f.a.getD x 0).testBit y
    · rfl
    · cases h2 : (f.a.getD y 0).testBit x
      · simp
      · simp [hp.anti x y h1 h2]
theorem posetOk_ofJ {f : Fr} (hp : Po f) : posetOk (f.n : Int) (nats f.a) = true := by
  unfold posetOk frameOk
  rw [frOf_natsJ, poB_ofJ hp, Bool.and_true, Bool.and_eq_true, Bool.and_eq_true, decide_eq_true_eq, decide_eq_true_eq, List.all_eq_true, Int.toNat_natCast]
  refine ⟨⟨⟨by omega, by have := hp.ok.1; omega⟩, by rw [nats_length, hp.ok.2.1]⟩, fun z hz => ?_⟩
  obtain ⟨m, hm, rfl⟩ := List.mem_map.1 hz
  have := hp.ok.2.2 m hm
  unfold maskB
  rw [decide_eq_true_eq]
  generalize 2 ^ f.n = k at *
  show 0 ≤ (m : Int) ∧ (m : Int) ≤ ((k - 1 : Nat) : Int)
  omega
theorem conc_lt (f : Fr) : sdiff (2 ^ f.n - 1) (2 ^ rootN f) < 2 ^ f.n := sdiff_lt (by have := Nat.two_pow_pos f.n; omega)
theorem ok_impl_conclusion {f : Fr} (hf : f.ok) (hr : Rooted f) {w : World} {v : Value} (hs : SlN w v f.a) : Cal Tryz.prog f_impl_jankovConclusion #[.agg #[.int .i64 (f.n : Int), v]] w fun r w' => Ext w w' ∧ FmW w.heap.size w' r (concF f) := by
  apply c_impl_jankovConclusion; unfold S_impl_jankovConclusion
  have hf8 := hf.1
  obtain ⟨r1, _, _⟩ := hr.root
  have h28 : 2 ^ f.n ≤ 2 ^ 8 := Nat.pow_le_pow_right (by omega) hf8
  have h2r : 2 ^ rootN f < 2 ^ 8 := Nat.pow_lt_pow_right (by omega) (by omega)
  refine iNew fun b w1 hb x1 hB => ?_
  have hs1 := hs.ext x1
  ((with_reducible refine iLdA (by assumption) ?_ ?_); rfl; (with_reducible refine iLdA (by assumption) ?_ ?_); rfl)
  refine iRetQ (fun w' _ => ok_impl_Poset_all f.n hf8 v w') ?_
  ((with_reducible refine iLdA (by assumption) ?_ ?_); rfl)
  refine iRetQ (fun w' h' => ok_impl_root hf hr (hs1.ext h')) ?_
  refine iShlOne (by omega) ?_
  refine iBAndNot (by omega) (by omega) ?_
  intro w2 x2
  refine iCall ((ok_impl_joined hf (hs1.ext x2) _ (conc_lt f)).mono ?_)
  rintro r w3 ⟨x3, hr3⟩
  intro w4 x4
  exact ⟨((x1.trans x2).trans x3).trans x4, OwK.mono (OwK.ext hr3 x4) (x1.trans x2).size⟩
theorem ok_spec_conclusion {f : Fr} (hf : f.ok) (hr : Rooted f) {w : World} {v : Value} (hs : SlN w v f.a) : Cal Tryz.prog f_spec_l21Conclusion #[.agg #[.int .i64 (f.n : Int), v]] w fun r w' => Ext w w' ∧ FmW w.heap.size w' r (concF f) := by
  apply c_spec_l21Conclusion; unfold S_spec_l21Conclusion
  have hf8 := hf.1
  obtain ⟨r1, _, _⟩ := hr.root
  have h28 : 2 ^ f.n ≤ 2 ^ 8 := Nat.pow_le_pow_right (by omega) hf8
  have h2r : 2 ^ rootN f < 2 ^ 8 := Nat.pow_lt_pow_right (by omega) (by omega)
  refine iNew fun b w1 hb x1 hB => ?_
  have hs1 := hs.ext x1
  ((with_reducible refine iLdA (by assumption) ?_ ?_); rfl; (with_reducible refine iFa ?_); refine iLdB (by assumption) (by first | rfl | simp) ?_)
  refine iRetQ (fun w' _ => ok_spec_l01Full f.n (by omega) w') ?_
  ((with_reducible refine iLdA (by assumption) ?_ ?_); rfl)
  refine iRetQ (fun w' h' => ok_spec_l16Root hf hr (hs1.ext h')) ?_
  refine iRetQ (fun w' _ => ok_spec_l01One (rootN f) (by omega) w') ?_
  refine iBAndNot (by omega) (by omega) ?_
  intro w2 x2
  refine iCall ((ok_spec_l21Join hf (hs1.ext x2) _ (conc_lt f)).mono ?_)
  rintro r w3 ⟨x3, hr3⟩
  intro w4 x4
  exact ⟨((x1.trans x2).trans x3).trans x4, OwK.mono (OwK.ext hr3 x4) (x1.trans x2).size⟩
theorem ok_impl_jankovCode {f : Fr} (hp : Po f) (hr : Rooted f) {w : World} {v : Value} (hs : SlN w v f.a) : Ret Tryz.prog f_impl_jankovCode #[.agg #[.int .i64 (f.n : Int), v]] w (.int .i64 (if 5 < f.n then 3 else 0)) := by
  apply c_impl_jankovCode; unfold S_impl_jankovCode
  refine iNew fun b w1 hb x1 hB => ?_
  have hs1 := hs.ext x1
  refine iLdA hB rfl ?_
  refine iRet (ok_impl_isPoset hs1 (f.n : Int)) fun w2 x2 => ?_
  rw [posetOk_ofJ hp]
  refine iNot (iCndF rfl ?_)
  refine iLdA (hB.ext x2) rfl ?_
  refine iRet (ok_impl_root hp.ok hr (hs1.ext x2)) fun w3 x3 => ?_
  refine iLt (iCndP (fun h => absurd h (by omega)) (fun _ => ?_))
  have hB3 := (hB.ext x2).ext x3
  have hX := (x1.trans x2).trans x3
  ((with_reducible refine iFa ?_); refine iLdB (by assumption) (by first | rfl | simp) ?_; (with_reducible refine iLt ?_))
  refine iCndP (fun h => ?_) (fun h => ?_)
  · rw [if_pos (by omega)]; exact ⟨by first | trivial | rfl, hX⟩
  · rw [if_neg (by omega)]; exact ⟨by first | trivial | rfl, hX⟩
end Go.Proofs.YtfhdhdgabdpmkaaGreat

/- The laws' helpers on rows of formulas: equal, marked, held. Conditions: none. -/
namespace Go.Vc
section
variable {P : Program} {w : World}
theorem iStF2 {lo : Nat} {e : TypeId} {w : World} {v x : Value} {n : Nat} {xs : List Value} {z : Int} {j f : Nat} {k : IntKind} {K : World → Prop} (hs : OwK 2 lo e w v n xs) (hz : z = (j : Int)) (hj : j < n) (hf : f < 2) (hx : isCell x = true)
    (h : ∀ w', OwK 2 lo e w' v n (xs.set (j * 2 + f) x) → Ch (fun c => v.ownBlock = some c) w w' → K w') : xIa 2 v (.int k z) fun p => xFa f p fun q => xSt w q x K := by
  subst hz
  obtain ⟨hl, ⟨-, h0⟩ | ⟨g, cap, cur, hv, hg, hh, h1, h2, h3, h4⟩⟩ := hs
  · omega
  · subst hv
    have hs : w.ownsRow lo e 2 (.slice (some ⟨g, 0, none⟩) n cap) n xs := ⟨hl, .inr ⟨g, cap, cur, rfl, hg, hh, h1, h2, h3, h4⟩⟩
    refine ⟨_, _, _, _, _, rfl, rfl, by omega, by omega, ?_⟩
    rw [Int.toNat_natCast, addr_add]
    refine ⟨_, rfl, ?_⟩
    rw [addr_add, Nat.zero_add]
    have hjf : j * 2 + f < xs.length := by omega
    refine iSt ((hs.cellAt (j * 2 + f) (by omega)).trans (List.getElem?_eq_getElem hjf)) (hs.frozenAt _) hx ?_
    exact h _ (hs.stored (j * 2 + f) x).1 ((Upd.setCell w g _ x).ch rfl)
def marksN (k n : Nat) : List Value := (List.range (n * 2)).map fun i => .int .i64 ((k + i : Nat) : Int)
theorem marksN_at {k n i : Nat} (h : i < n * 2) : (marksN k n)[i]? = some (.int .i64 ((k + i : Nat) : Int)) := by simp [marksN, h]
theorem marksN_len (k n : Nat) : (marksN k n).length = n * 2 := by simp [marksN]
theorem iFld {sz f : Nat} {v x : Value} {n : Nat} {xs : List Value} {z : Int} {j : Nat} {k : IntKind} {K : Value → Prop} (hs : SlK sz w v n xs) (hz : z = (j : Int)) (h1 : j < n) (hf : f < sz) (hx : xs[j * sz + f]? = some x) (h : K x) : xIa sz v (.int k z) fun p => xFa f p fun q => xLd w q K := by
  subst hz
  refine iIaK hs h1 fun b o hc => ?_
  refine ⟨_, rfl, ?_⟩
  rw [addr_add]
  exact iLd ((hc f hf).trans hx) h
theorem iLdK {sz : Nat} {v : Value} {n : Nat} {xs : List Value} {cs : Array Value} {z : Int} {j : Nat} {k : IntKind} {K : Value → Prop} (hs : SlK sz w v n xs) (hz : z = (j : Int)) (h1 : j < n) (hc : cs.size = sz) (hx : ∀ i, i < sz → xs[j * sz + i]? = cs[i]?) (h : K (.agg cs)) : xIa sz v (.int k z) fun p => xLdA w sz p K := by
  subst hz
  refine iIaK hs h1 fun b o hcell => ?_
  refine ⟨_, cs, rfl, hc, fun i hi => ?_, h⟩
  rw [addr_add, hcell i hi, hx i hi]
end
/-- Cells that are numbers, two for each node. -/
def NodesOk (n : Nat) (xs : List Value) : Prop := ∀ i, i < n → ∃ a b : Int, xs[i * 2]? = some (.int .i64 a) ∧ xs[i * 2 + 1]? = some (.int .i64 b)
theorem NodesOk.app {n m : Nat} {xs ys : List Value} (h : NodesOk n xs) (hl : xs.length = n * 2) (k : NodesOk m ys) : NodesOk (n + m) (xs ++ ys) := fun i hi => by
  rcases Nat.lt_or_ge i n with h' | h'
  · rw [List.getElem?_append_left (by omega), List.getElem?_append_left (by omega)]
    exact h i h'
  · rw [List.getElem?_append_right (by omega), List.getElem?_append_right (by omega), hl]
    have := k (i - n) (by omega)
    rwa [show (i - n) * 2 = i * 2 - n * 2 by omega, show i * 2 - n * 2 + 1 = i * 2 + 1 - n * 2 by omega] at this
theorem NodesOk.nd (k s : Nat) : NodesOk 1 (nd k s) := fun i hi => by
  have : i = 0 := by omega
  subst this
  exact ⟨_, _, rfl, rfl⟩
theorem Fm.nodesOk : ∀ a : Fm, NodesOk a.size a.cells
  | .var v => NodesOk.nd 0 v
  | .fls => NodesOk.nd 1 0
  | .and a b => ((NodesOk.nd 2 0).app rfl a.nodesOk).app (by simp [nd, a.cells_len]; omega) b.nodesOk
  | .or a b => ((NodesOk.nd 3 0).app rfl a.nodesOk).app (by simp [nd, a.cells_len]; omega) b.nodesOk
  | .imp a b => ((NodesOk.nd 4 0).app rfl a.nodesOk).app (by simp [nd, a.cells_len]; omega) b.nodesOk
  | .box a => (NodesOk.nd 5 0).app rfl a.nodesOk
  | .dia a => (NodesOk.nd 6 0).app rfl a.nodesOk
end Go.Vc
namespace Go.Proofs.YtfhdhdgabdpmkaaGreat
open Go.Vc
theorem ok_laws_eqNode (a b : Int) (w : World) : Ret Tryz.prog f_laws_eqNode #[.agg #[.int .i64 a, .int .i64 b], .agg #[.int .i64 a, .int .i64 b]] w (.bool true) := by
  apply c_laws_eqNode; unfold S_laws_eqNode
  refine iNew fun q1 w1 hq1 h1 hB1 => ?_
  refine iNew fun q2 w2 hq2 h2 hB2 => ?_
  have hB1 : Blk t_impl_Node w2 q1 [.int .i64 a, .int .i64 b] := by simpa [Value.cells] using hB1.ext h2
  have hB2 : Blk t_impl_Node w2 q2 [.int .i64 a, .int .i64 b] := by simpa [Value.cells] using hB2
  refine iFa ?_
  refine iLdB hB1 rfl ?_
  refine iFa ?_
  refine iLdB hB2 rfl ?_
  refine iNe ?_
  refine iCndP (fun h => absurd rfl h) (fun _ => ?_)
  refine iFa ?_
  refine iLdB hB1 rfl ?_
  refine iFa ?_
  refine iLdB hB2 rfl ?_
  refine iNe ?_
  refine iCndP (fun h => absurd rfl h) (fun _ => ?_)
  exact ⟨by first | trivial | rfl, h1.trans h2⟩
theorem ok_laws_eqNodeS {v0 v1 : Value} {n : Nat} {xs : List Value} {w : World} (h0 : SlK 2 w v0 n xs) (h1 : SlK 2 w v1 n xs) (hx : NodesOk n xs) (hn : n ≤ 1000000000) : Ret Tryz.prog f_laws_eqNodeS #[v0, v1] w (.bool true) := by
  apply c_laws_eqNodeS; unfold S_laws_eqNodeS
  refine iLenK h0 ?_
  refine iLenK h1 ?_
  refine iNe ?_
  refine iCndP (fun h => absurd rfl h) (fun _ => ?_)
  refine iLp (fun i : Nat => [.int .i64 (i : Int)]) (fun i w' => i ≤ n ∧ Ext w w') (fun i => n - i) 0 rfl ⟨Nat.zero_le _, Ext.refl _⟩ ?_
  rintro i w2 Kn ⟨hi, h2⟩ hKn
  intro _
  simp only [gx]
  refine iLenK (h0.ext h2) ?_
  refine iLt ?_
  refine iCndP (fun h3 => ?_) (fun h3 => ?_)
  · obtain ⟨a, b, ha, hb⟩ := hx i (by omega)
    have hc : ∀ j, j < 2 → xs[i * 2 + j]? = (#[Value.int .i64 a, Value.int .i64 b] : Array Value)[j]? := fun j hj => by rcases j with _ | _ | j; exact ha; exact hb; omega
    refine iLdK (cs := #[.int .i64 a, .int .i64 b]) (h0.ext h2) rfl (by omega) rfl hc ?_
    refine iLdK (cs := #[.int .i64 a, .int .i64 b]) (h1.ext h2) rfl (by omega) rfl hc ?_
    refine iRetQ (fun w' _ => ok_laws_eqNode a b w') ?_
    refine iNot ?_
    intro w3 h23
    refine iCndF rfl ?_
    refine iAdd (by omega) ?_
    exact hKn (i + 1) _ ⟨by omega, h2.trans h23⟩ (by omega)
  · exact ⟨by first | trivial | rfl, h2⟩
theorem ok_laws_markNodeS {lo : Nat} {e : TypeId} {v : Value} {n : Nat} {xs : List Value} {w : World} (hs : OwK 2 lo e w v n xs) {k : Nat} (hk : k + 2 * n ≤ 1152921504606846976) :
    Cal Tryz.prog f_laws_markNodeS #[v, .int .i64 (k : Int)] w fun r w' => r = .int .i64 ((k + 2 * n : Nat) : Int) ∧ OwK 2 lo e w' v n (marksN k n) ∧ Ch (fun c => v.ownBlock = some c) w w' := by
  apply c_laws_markNodeS; unfold S_laws_markNodeS
  refine iLp (fun i : Nat => [.int .i64 ((k + 2 * i : Nat) : Int), .int .i64 (i : Int)]) (fun i w' => i ≤ n ∧ ∃ ys, OwK 2 lo e w' v n ys ∧ Ch (fun c => v.ownBlock = some c) w w' ∧ ∀ j, j < 2 * i → ys[j]? = some (.int .i64 ((k + j : Nat) : Int))) (fun i => n - i) 0 rfl ⟨Nat.zero_le _, xs, hs, (Ext.refl w).ch, fun j hj => by omega⟩ ?_
  rintro i w2 Kn ⟨hi, ys, ho, hc, he⟩ hKn
  intro _
  simp only [gx]
  have tr : ∀ {a b : World}, Ch (fun c => v.ownBlock = some c) w a → Ch (fun c => v.ownBlock = some c) a b → Ch (fun c => v.ownBlock = some c) w b := fun h k => h.trans k fun _ e => .inl e
  have hyl := ho.len
  refine iLenK ho.sl ?_
  refine iLt ?_
  refine iCndP (fun h3 => ?_) (fun h3 => ?_)
  · refine iStF2 (j := i) ho rfl (by omega) (by decide) rfl fun w3 ho3 hc3 => ?_
    refine iAdd (by omega) ?_
    refine iStF2 (j := i) ho3 rfl (by omega) (by decide) rfl fun w4 ho4 hc4 => ?_
    refine iAdd (by omega) ?_
    refine iAdd (by omega) ?_
    rw [show ((k + 2 * i : Nat) : Int) + 1 + 1 = ((k + 2 * (i + 1) : Nat) : Int) by omega]
    refine hKn (i + 1) _ ⟨by omega, _, ho4, tr (tr hc hc3) hc4, fun j hj => ?_⟩ (by omega)
    rw [List.getElem?_set, List.getElem?_set]
    by_cases h5 : i * 2 + 1 = j
    · rw [if_pos h5, if_pos (by rw [List.length_set]; omega)]
      congr 2
      omega
    · rw [if_neg h5]
      by_cases h6 : i * 2 + 0 = j
      · rw [if_pos h6, if_pos (by omega)]
        congr 2
        omega
      · rw [if_neg h6]; exact he j (by omega)
  · have hil : i = n := by omega
    subst hil
    refine ⟨rfl, ?_, hc⟩
    have : marksN k i = ys := List.ext_getElem? fun j => by
      by_cases hj : j < i * 2
      · rw [marksN_at hj, he j (by omega)]
      · rw [List.getElem?_eq_none (by rw [marksN_len]; omega), List.getElem?_eq_none (by omega)]
    rw [this]; exact ho
theorem ok_laws_heldNodeS {v : Value} {k n : Nat} {w : World} (hs : SlK 2 w v n (marksN k n)) (hk : k + 2 * n ≤ 1152921504606846976) : Ret Tryz.prog f_laws_heldNodeS #[v, .int .i64 (k : Int)] w (.int .i64 ((k + 2 * n : Nat) : Int)) := by
  apply c_laws_heldNodeS; unfold S_laws_heldNodeS
  refine iLp (fun i : Nat => [.int .i64 ((k + 2 * i : Nat) : Int), .int .i64 (i : Int)]) (fun i w' => i ≤ n ∧ Ext w w') (fun i => n - i) 0 rfl ⟨Nat.zero_le _, Ext.refl _⟩ ?_
  rintro i w2 Kn ⟨hi, h2⟩ hKn
  intro _
  simp only [gx]
  refine iLenK (hs.ext h2) ?_
  refine iLt ?_
  refine iCndP (fun h3 => ?_) (fun h3 => ?_)
  · refine iFld (j := i) (hs.ext h2) rfl (by omega) (by decide) (marksN_at (by omega)) ?_
    refine iNe ?_
    refine iCndP (fun h => by omega) (fun _ => ?_)
    refine iAdd (by omega) ?_
    refine iFld (j := i) (hs.ext h2) rfl (by omega) (by decide) (marksN_at (by omega)) ?_
    refine iNe ?_
    refine iCndP (fun h => by omega) (fun _ => ?_)
    refine iAdd (by omega) ?_
    refine iAdd (by omega) ?_
    rw [show ((k + 2 * i : Nat) : Int) + 1 + 1 = ((k + 2 * (i + 1) : Nat) : Int) by omega]
    exact hKn (i + 1) _ ⟨by omega, h2⟩ (by omega)
  · have : i = n := by omega
    subst this
    exact ⟨by first | trivial | rfl, h2⟩
/-- Rows of nodes, each of the call's own. -/
abbrev NR := Value × Nat × List Value
def GF (lo : Nat) (w : World) (M : List NR) : Prop := (∀ p ∈ M, OwK 2 lo t_impl_Node w p.1 p.2.1 p.2.2) ∧ M.Pairwise fun a b => ∀ c, a.1.ownBlock = some c → b.1.ownBlock ≠ some c
def toNR (p : Value × Fm) : NR := (p.1, p.2.size, p.2.cells)
theorem EF.gf {lo : Nat} {w : World} {L : List (Value × Fm)} (h : EF lo w L) : GF lo w (L.map toNR) := by
  refine ⟨fun p hp => ?_, ?_⟩
  · obtain ⟨q, hq, rfl⟩ := List.mem_map.1 hp
    exact h.1 q hq
  · rw [List.pairwise_map]; exact h.2
theorem GF.ext {lo : Nat} {w w' : World} {M : List NR} (h : GF lo w M) (x : Ext w w') : GF lo w' M := ⟨fun p hp => (h.1 p hp).ext x, h.2⟩
theorem GF.ch {lo : Nat} {S : Nat → Prop} {w w' : World} {M : List NR} (h : GF lo w M) (x : Ch S w w') (hn : ∀ p ∈ M, ∀ c, p.1.ownBlock = some c → ¬ S c) : GF lo w' M := ⟨fun p hp => (h.1 p hp).ch x (hn p hp), h.2⟩
theorem GF.upd {lo : Nat} {w w' : World} {M : List NR} {k : Nat} (h : GF lo w M) (hk : k < M.length) {n : Nat} {xs : List Value} (hc : Ch (fun c => M[k].1.ownBlock = some c) w w') (ho : OwK 2 lo t_impl_Node w' M[k].1 n xs) : GF lo w' (M.set k (M[k].1, n, xs)) := by
  have hp := List.pairwise_iff_getElem.1 h.2
  have hd : ∀ i j (hi : i < M.length) (hj : j < M.length), i ≠ j → ∀ c, M[i].1.ownBlock = some c → M[j].1.ownBlock ≠ some c := fun i j hi hj hij c hc => by
    rcases Nat.lt_or_ge i j with h' | h'
    · exact hp i j hi hj h' c hc
    · exact fun hc' => hp j i hj hi (by omega) c hc' hc
  refine ⟨fun r hr => ?_, List.pairwise_iff_getElem.2 fun i j hi hj hij => ?_⟩
  · obtain ⟨i, hi, rfl⟩ := List.getElem_of_mem hr
    rw [List.length_set] at hi
    rw [List.getElem_set]
    split
    · exact ho
    · rename_i hne
      exact (h.1 _ (List.getElem_mem hi)).ch hc fun c hc' hc'' => hd i k hi hk (fun e => hne e.symm) c hc' hc''
  · rw [List.length_set] at hi hj
    have hv : ∀ i (hi : i < M.length), ((M.set k (M[k].1, n, xs))[i]'(by rw [List.length_set]; exact hi)).1 = M[i].1 := fun i hi => by
      rw [List.getElem_set]
      split
      · rename_i e; subst e; rfl
      · rfl
    rw [hv i hi, hv j hj]
    exact hp i j hi hj hij
theorem iRdG {w : World} {v : Value} {M : List NR} {z : Int} {j : Nat} {k : IntKind} {K : Value → Prop} (hs : Sl w v (M.map Prod.fst)) (hz : z = (j : Int)) (hj : j < M.length) (h : K M[j].1) : xIa 1 v (.int k z) fun p => xLd w p K := by
  subst hz
  refine iIa (j := (j : Int)) hs (by omega) (by rw [List.length_map]; omega) fun p hp => ?_
  refine iLd (hp.trans ?_) h
  rw [Int.toNat_natCast, List.getElem?_map, List.getElem?_eq_getElem hj]; rfl
def mkG : Nat → List NR → List NR
  | _, [] => []
  | k, r :: M => (r.1, r.2.1, marksN k r.2.1) :: mkG (k + 2 * r.2.1) M
def totG (M : List NR) : Nat := (M.map fun r => 2 * r.2.1).sum
theorem totG_app (A B : List NR) : totG (A ++ B) = totG A + totG B := by simp [totG]
theorem totG_take (M : List NR) (k : Nat) : totG (M.take k) ≤ totG M := by
  conv => rhs; rw [← List.take_append_drop k M, totG_app]
  omega
theorem totG_succ {M : List NR} {k : Nat} (h : k < M.length) : totG (M.take (k + 1)) = totG (M.take k) + 2 * M[k].2.1 := by
  rw [List.take_succ_eq_append_getElem h, totG_app]; simp [totG]
theorem mkG_app (A B : List NR) : ∀ k, mkG k (A ++ B) = mkG k A ++ mkG (k + totG A) B := by
  induction A with
  | nil => intro k; simp [mkG, totG]
  | cons r A ih =>
    intro k
    rw [List.cons_append, mkG, mkG, ih, List.cons_append]
    congr 3
    simp only [totG, List.map_cons, List.sum_cons]; omega
theorem mkG_len (M : List NR) : ∀ k, (mkG k M).length = M.length := by
  induction M with
  | nil => intro k; rfl
  | cons r M ih => intro k; rw [mkG, List.length_cons, ih, List.length_cons]
theorem mkG_fst (M : List NR) : ∀ k, (mkG k M).map Prod.fst = M.map Prod.fst := by
  induction M with
  | nil => intro k; rfl
  | cons r M ih => intro k; rw [mkG, List.map_cons, ih, List.map_cons]
theorem mkG_at {M : List NR} {k j : Nat} (h : j < M.length) : (mkG k M)[j]'(by rw [mkG_len]; exact h) = (M[j].1, M[j].2.1, marksN (k + totG (M.take j)) M[j].2.1) := by
  have e : mkG k M = mkG k (M.take j) ++ mkG (k + totG (M.take j)) (M.drop j) := by rw [← mkG_app, List.take_append_drop]
  have hl : (mkG k (M.take j)).length = j := by rw [mkG_len, List.length_take]; omega
  simp only [e]
  rw [List.getElem_append_right (by omega)]
  simp only [hl, Nat.sub_self]
  simp only [List.drop_eq_getElem_cons h, mkG]
  rfl
theorem ok_laws_eqNodeSS {v v' : Value} {w : World} {A B : List (Value × Fm)} (hs : Sl w v (A.map Prod.fst)) (hs' : Sl w v' (B.map Prod.fst)) (hA : ∀ p ∈ A, FmS w p.1 p.2) (hB : ∀ p ∈ B, FmS w p.1 p.2) (he : A.map Prod.snd = B.map Prod.snd) (hsz : ∀ p ∈ A, p.2.size ≤ 1000000) : Ret Tryz.prog f_laws_eqNodeSS #[v, v'] w (.bool true) := by
  apply c_laws_eqNodeSS; unfold S_laws_eqNodeSS
  have hl : A.length = B.length := by have := congrArg List.length he; simpa using this
  have hcap := hs.len
  rw [List.length_map] at hcap
  have lenA : ∀ w', Ext w w' → ∀ {K : Value → Prop}, K (.int .i64 (A.length : Nat)) → xLenS v K := fun w' x _ h => iLenS (Sl.ext hs x) (by rw [List.length_map]; exact h)
  refine lenA w (Ext.refl _) ?_
  refine iLenS hs' ?_
  rw [List.length_map, ← hl]
  refine iNe (iCndP (fun h => absurd rfl h) (fun _ => ?_))
  refine iLp (fun i : Nat => [.int .i64 (i : Int)]) (fun i w' => i ≤ A.length ∧ Ext w w') (fun i => A.length - i) 0 rfl ⟨Nat.zero_le _, Ext.refl _⟩ ?_
  rintro i w2 Kn ⟨hi, x2⟩ hKn
  intro _
  simp only [gx]
  refine lenA w2 x2 ?_
  refine iLt (iCndP (fun h => ?_) (fun h => ?_))
  · have hi1 : i < A.length := by omega
    have hi2 : i < B.length := by omega
    have hee : A[i].2 = B[i].2 := by
      have h1 : (A.map Prod.snd)[i]? = (B.map Prod.snd)[i]? := by rw [he]
      rw [List.getElem?_map, List.getElem?_map, List.getElem?_eq_getElem hi1, List.getElem?_eq_getElem hi2] at h1
      exact Option.some.inj h1
    refine iRdF (j := i) (Sl.ext hs x2) rfl hi1 ?_
    refine iRdF (j := i) (Sl.ext hs' x2) rfl hi2 ?_
    have o1 := SlK.ext (hA _ (List.getElem_mem hi1)) x2
    have o2 := SlK.ext (hB _ (List.getElem_mem hi2)) x2
    rw [← hee] at o2
    have := hsz _ (List.getElem_mem hi1)
    refine iRetQ (fun w' h' => ok_laws_eqNodeS (SlK.ext o1 h') (SlK.ext o2 h') (Fm.nodesOk _) (by omega)) ?_
    refine iNot ?_
    intro w3 x3
    refine iCndF rfl ?_
    refine iAdd (by omega) ?_
    exact hKn (i + 1) _ ⟨by omega, x2.trans x3⟩ (by omega)
  · exact ⟨by first | trivial | rfl, x2⟩
theorem ok_laws_markNodeSS {lo : Nat} {v : Value} {w : World} {M : List NR} (hs : Ow lo t_Simpl_Node w v (M.map Prod.fst)) (hG : GF lo w M) (hM : totG M ≤ 1000000000) :
    Cal Tryz.prog f_laws_markNodeSS #[v, .int .i64 1] w fun r w' => r = .int .i64 ((1 + totG M : Nat) : Int) ∧ Ow lo t_Simpl_Node w' v (M.map Prod.fst) ∧ GF lo w' (mkG 1 M) ∧ Ch (fun c => ∃ p ∈ M, p.1.ownBlock = some c) w w' := by
  apply c_laws_markNodeSS; unfold S_laws_markNodeSS
  have hcap := hs.sl.len
  rw [List.length_map] at hcap
  refine iLp (fun k : Nat => [.int .i64 ((1 + totG (M.take k) : Nat) : Int), .int .i64 (k : Int)]) (fun k w' => k ≤ M.length ∧ Ch (fun c => ∃ p ∈ M, p.1.ownBlock = some c) w w' ∧ Ow lo t_Simpl_Node w' v (M.map Prod.fst) ∧ GF lo w' (mkG 1 (M.take k) ++ M.drop k)) (fun k => M.length - k) 0 (by simp [totG]) ⟨Nat.zero_le _, (Ext.refl w).ch, hs, by simpa [mkG] using hG⟩ ?_
  rintro k w2 Kn ⟨hk, hch, hs2, hG2⟩ hKn
  have hml : (mkG 1 (M.take k)).length = k := by rw [mkG_len, List.length_take]; omega
  have hMl : (mkG 1 (M.take k) ++ M.drop k).length = M.length := by rw [List.length_append, hml, List.length_drop]; omega
  have htk := totG_take M k
  intro _
  simp only [gx]
  refine iLenS hs2.sl ?_
  rw [List.length_map]
  refine iLt (iCndP (fun h3 => ?_) (fun h3 => ?_))
  · have hkM : k < M.length := by omega
    have hkX : k < (mkG 1 (M.take k) ++ M.drop k).length := by omega
    have hMk : (mkG 1 (M.take k) ++ M.drop k)[k] = M[k] := by
      rw [List.getElem_append_right (by omega)]
      simp [hml]
    have ht := totG_succ hkM
    have htk1 := totG_take M (k + 1)
    have ho := hG2.1 _ (List.getElem_mem hkX)
    rw [hMk] at ho
    refine iRdG (j := k) hs2.sl rfl hkM ?_
    refine iCall ((ok_laws_markNodeS ho (k := 1 + totG (M.take k)) (by omega)).mono ?_)
    rintro _ w3 ⟨rfl, ho3, hc3⟩
    have hs3 := hs2.ch hc3 fun c hc hc' => OwK.ne_ow ho hs2 (by decide) hc' hc
    have hG3 := GF.upd hG2 hkX (n := M[k].2.1) (xs := marksN (1 + totG (M.take k)) M[k].2.1) (by rw [hMk]; exact hc3) (by rw [hMk]; exact ho3)
    rw [hMk] at hG3
    have e3 : (mkG 1 (M.take k) ++ M.drop k).set k (M[k].1, M[k].2.1, marksN (1 + totG (M.take k)) M[k].2.1) = mkG 1 (M.take (k + 1)) ++ M.drop (k + 1) := by
      rw [List.set_append_right _ _ (by omega), hml, Nat.sub_self, List.drop_eq_getElem_cons hkM, List.set_cons_zero, List.take_succ_eq_append_getElem hkM, mkG_app]
      simp [mkG]
    rw [e3] at hG3
    refine iAdd (by omega) ?_
    have e4 : ((1 + totG (M.take k) + 2 * M[k].2.1 : Nat) : Int) = ((1 + totG (M.take (k + 1)) : Nat) : Int) := by omega
    rw [e4]
    exact hKn (k + 1) _ ⟨by omega, hch.trans hc3 fun c hc => .inl ⟨M[k], List.getElem_mem hkM, hc⟩, hs3, hG3⟩ (by omega)
  · obtain rfl : k = M.length := by omega
    rw [List.take_length, List.drop_length, List.append_nil] at hG2
    rw [List.take_length]
    exact ⟨rfl, hs2, hG2, hch⟩
theorem ok_laws_heldNodeSS {lo : Nat} {v : Value} {w : World} {M : List NR} (hs : Sl w v (M.map Prod.fst)) (hG : GF lo w (mkG 1 M)) (hM : totG M ≤ 1000000000) :
    Ret Tryz.prog f_laws_heldNodeSS #[v, .int .i64 1] w (.int .i64 ((1 + totG M : Nat) : Int)) := by
  apply c_laws_heldNodeSS; unfold S_laws_heldNodeSS
  have hcap := hs.len
  rw [List.length_map] at hcap
  refine iLp (fun k : Nat => [.int .i64 ((1 + totG (M.take k) : Nat) : Int), .int .i64 (k : Int)]) (fun k w' => k ≤ M.length ∧ Ext w w') (fun k => M.length - k) 0 (by simp [totG]) ⟨Nat.zero_le _, Ext.refl w⟩ ?_
  rintro k w2 Kn ⟨hk, x2⟩ hKn
  have htk := totG_take M k
  intro _
  simp only [gx]
  refine iLenS (Sl.ext hs x2) ?_
  rw [List.length_map]
  refine iLt (iCndP (fun h3 => ?_) (fun h3 => ?_))
  · have hkM : k < M.length := by omega
    have ht := totG_succ hkM
    have htk1 := totG_take M (k + 1)
    have ho := hG.1 _ (List.getElem_mem (by rw [mkG_len]; exact hkM))
    rw [mkG_at hkM] at ho
    refine iRdG (j := k) (Sl.ext hs x2) rfl hkM ?_
    refine iRet (ok_laws_heldNodeS (k := 1 + totG (M.take k)) (n := M[k].2.1) (OwK.ext ho x2).sl (by omega)) fun w3 x3 => ?_
    refine iLt (iCndP (fun h => absurd h (by omega)) (fun _ => ?_))
    refine iAdd (by omega) ?_
    have e4 : ((1 + totG (M.take k) + 2 * M[k].2.1 : Nat) : Int) = ((1 + totG (M.take (k + 1)) : Nat) : Int) := by omega
    rw [e4]
    exact hKn (k + 1) _ ⟨by omega, x2.trans x3⟩ (by omega)
  · obtain rfl : k = M.length := by omega
    rw [List.take_length]
    exact ⟨rfl, x2⟩
end Go.Proofs.YtfhdhdgabdpmkaaGreat

/- Contracts: TellingFormulas in the program and the reference, and the law on it. Conditions: none. -/
namespace Go.Vc
theorem mem_pos {m : Nat} (hm : m < 2 ^ 63) (h : ¬ m = 0) : 0 < (mem m).length := by
  apply Nat.pos_of_ne_zero
  intro e
  apply h
  apply Nat.eq_of_testBit_eq
  intro i
  rw [Nat.zero_testBit, Bool.eq_false_iff]
  intro hb
  have := (mem_mem hm).2 hb
  rw [List.length_eq_zero_iff.1 e] at this
  cases this
theorem iIaNN0 {w : World} {v : Value} {l : List Nat} {k : IntKind} {K : Value → Prop} (hs : SlN w v l) (h0 : 0 < l.length) (h : K (.int .i64 ((l.getD 0 0 : Nat) : Int))) : xIa 1 v (.int k 0) fun p => xLd w p K := by
  refine iIa (j := 0) hs (by omega) (by rw [ints_length, nats_length]; omega) fun p hp => ?_
  refine iLd (hp.trans ?_) h
  simp [ints, nats, List.getD_eq_getElem?_getD, h0]
theorem tell_lt (f g : Fr) : tell f g < 2 ^ g.n := tellK_lt f g g.n
end Go.Vc
namespace Go.Proofs.YtfhdhdgabdpmkaaGreat
open Go.Vc
/-- What TellingFormulas returns: premises, the conclusion's nodes, the element, the code. -/
def tfX (f g : Fr) : Nat := (mem (tell f g)).getD 0 0
def tfP (f g : Fr) : Fr := partFr g (g.a.getD (tfX f g) 0)
def tfR (n0 : Int) (l0 : List Int) (n1 : Int) (l1 : List Int) : (List Fm × Nat × List Value) × Int × Int :=
  if codeS [(n0, l0), (n1, l1)] = 0 then (if tell (frOf n0 l0) (frOf n1 l1) = 0 then (([], 0, []), 0, 4) else if 5 < (tfP (frOf n0 l0) (frOf n1 l1)).n then (([], 0, []), 0, 3) else ((premF (tfP (frOf n0 l0) (frOf n1 l1)), (concF (tfP (frOf n0 l0) (frOf n1 l1))).size, (concF (tfP (frOf n0 l0) (frOf n1 l1))).cells), ((tfX (frOf n0 l0) (frOf n1 l1) : Nat) : Int), 0)) else (([], 0, []), 0, codeS [(n0, l0), (n1, l1)])
/-- Premises and conclusion in rows of the call's own, each in its own. -/
def TfW (lo : Nat) (w : World) (pv cv : Value) (x : List Fm × Nat × List Value) : Prop :=
  ∃ L, RF lo w pv L ∧ EF lo w L ∧ L.map Prod.snd = x.1 ∧ OwK 2 lo t_impl_Node w cv x.2.1 x.2.2 ∧ ∀ p ∈ L, ∀ c, p.1.ownBlock = some c → cv.ownBlock ≠ some c
theorem TfW.nil (lo : Nat) (w : World) : TfW lo w (.slice none 0 0) (.slice none 0 0) ([], 0, []) := ⟨[], Ow.nil _ _ _, EF.nil _ _, rfl, OwK.nil _ _ _ _, fun p hp => (by cases hp)⟩
theorem TfW.ext {lo : Nat} {w w' : World} {pv cv : Value} {x : List Fm × Nat × List Value} (h : TfW lo w pv cv x) (k : Ext w w') : TfW lo w' pv cv x := by
  obtain ⟨L, h1, h2, h3, h4, h5⟩ := h
  exact ⟨L, Ow.ext h1 k, h2.ext k, h3, OwK.ext h4 k, h5⟩
theorem TfW.ch {lo : Nat} {S : Nat → Prop} {w w' : World} {pv cv : Value} {x : List Fm × Nat × List Value} (h : TfW lo w pv cv x) (k : Ch S w w') (hS : ∀ c, S c → c < lo) : TfW lo w' pv cv x := by
  obtain ⟨L, h1, h2, h3, h4, h5⟩ := h
  refine ⟨L, Ow.ch h1 k fun c hc hc' => by have := (Ow.blk h1 c hc).1; have := hS c hc'; omega, h2.ch k fun p hp c hc hc' => by have := ((h2.1 p hp).blk c hc).1; have := hS c hc'; omega, h3, OwK.ch h4 k fun c hc hc' => by have := (OwK.blk h4 c hc).1; have := hS c hc'; omega, h5⟩
theorem tf_facts {f g : Fr} (hg : Po g) (h : ¬ tell f g = 0) : tfX f g < g.n ∧ 0 < (mem (tell f g)).length ∧ Po (tfP f g) ∧ Rooted (tfP f g) := by
  have hlt := tell_lt f g
  have hp := mem_pos (mask63 hg.ok hlt) h
  have hx : tfX f g < g.n := mem_lt hg.ok hlt (getD_mem hp)
  exact ⟨hx, hp, part_po hg (hg.ok.lt hx), cone_rooted hg hx⟩
theorem ok_impl_TellingFormulas {w : World} {v0 v1 : Value} {l0 l1 : List Int} (hs0 : SlI w v0 l0) (hs1 : SlI w v1 l1) (n0 n1 : Int) : Cal Tryz.prog f_impl_TellingFormulas #[.agg #[.int .i64 n0, v0], .agg #[.int .i64 n1, v1]] w fun r w' => Ext w w' ∧ ∃ pv cv, r = .tuple #[pv, cv, .int .i64 (tfR n0 l0 n1 l1).2.1, .int .i64 (tfR n0 l0 n1 l1).2.2] ∧ TfW w.heap.size w' pv cv (tfR n0 l0 n1 l1).1 := by
  apply c_impl_TellingFormulas; unfold S_impl_TellingFormulas
  have hX := Ext.refl w
  refine iNew fun b2 w1 hb2 h hB2 => ?_
  have hX := hX.trans h
  refine iNew fun b3 w2 hb3 h hB3 => ?_
  have hX := hX.trans h
  have hB2 := hB2.ext h
  ((with_reducible refine iLdA (by assumption) ?_ ?_); rfl; (with_reducible refine iLdA (by assumption) ?_ ?_); rfl)
  refine iBs22 fun bb w3 hbb h hBB => ?_
  have hX := hX.trans h
  have hB2 := hB2.ext h
  have hB3 := hB3.ext h
  refine iRet (ok_impl_sixCode (SlP.two hBB (hs0.ext hX) (hs1.ext hX))) fun w4 h => ?_
  have hX := hX.trans h
  have hB2 := hB2.ext h
  have hB3 := hB3.ext h
  unfold tfR
  ((with_reducible refine iNe ?_))
  refine iCndP (fun hc => ?_) (fun hc => ?_)
  · rw [if_neg hc]; exact ⟨hX, _, _, rfl, TfW.nil _ _⟩
  · have hc := Classical.not_not.1 hc
    rw [if_pos hc]
    obtain ⟨h0, h1, _, _⟩ := codeS_two hc
    obtain ⟨hP, hn0, hl0⟩ := posetOk_po h0
    obtain ⟨hQ, hn1, hl1⟩ := posetOk_po h1
    generalize frOf n0 l0 = f at *
    generalize frOf n1 l1 = g at *
    subst hn0; subst hl0; subst hn1; subst hl1
    ((with_reducible refine iLdA (by assumption) ?_ ?_); rfl; (with_reducible refine iLdA (by assumption) ?_ ?_); rfl)
    refine iRet (ok_impl_telling hP hQ (hs0.ext hX) (hs1.ext hX)) fun w5 h => ?_
    have hX := hX.trans h
    have hB2 := hB2.ext h
    have hB3 := hB3.ext h
    refine iEq (iCndP (fun ht => ?_) (fun ht => ?_))
    · have ht : tell f g = 0 := by exact_mod_cast ht
      rw [if_pos ht]; exact ⟨hX, _, _, rfl, TfW.nil _ _⟩
    · have ht : ¬ tell f g = 0 := fun e => ht (by exact_mod_cast e)
      rw [if_neg ht]
      obtain ⟨fx, fl0, fp, fr⟩ := tf_facts (f := f) hQ ht
      refine iCall ((ok_impl_membersOf (tell f g) (mask63 hQ.ok (tell_lt f g)) w5).mono ?_)
      rintro mv w6 ⟨h, hm⟩
      have hX := hX.trans h
      have hB2 := hB2.ext h
      have hB3 := hB3.ext h
      have hms : SlN w6 mv (mem (tell f g)) := hm.sl
      refine iIaNN0 hms fl0 ?_
      refine iLdA hB3 rfl ?_
      refine iCall ((ok_impl_Poset_cone hQ.ok (hs1.ext hX) (tfX f g) fx).mono ?_)
      rintro _ w7 ⟨h, v', rfl, ho'⟩
      have hX := hX.trans h
      have hB2 := hB2.ext h
      have hB3 := hB3.ext h
      refine iNew fun b11 w8 hb11 x8 hB8 => ?_
      have ho8 := ho'.ext x8
      refine iStAB hB8 rfl rfl (ho8.pair _) fun w9 hu9 hB9 => ?_
      have x79 : Ext w7 w9 := x8.upd hu9 (by omega)
      have hX9 := hX.trans x79
      have hs9 : SlN w9 v' (tfP f g).a := (ho'.ext x79).sl
      have hB9 : Blk t_impl_Poset w9 b11 [.int .i64 ((tfP f g).n : Int), v'] := hB9
      refine iLdA hB9 rfl ?_
      refine iRet (ok_impl_jankovCode fp fr hs9) fun w10 x10 => ?_
      have hX10 := hX9.trans x10
      by_cases h5 : 5 < (tfP f g).n
      · rw [if_pos h5, if_pos h5]
        refine iNe (iCndP (fun _ => ?_) (fun h => absurd (show ¬ (3 : Int) = 0 by decide) h))
        exact ⟨hX10, _, _, rfl, TfW.nil _ _⟩
      · rw [if_neg h5, if_neg h5]
        refine iNe (iCndP (fun h => absurd rfl h) (fun _ => ?_))
        have hB10 := hB9.ext x10
        have hs10 := hs9.ext x10
        refine iLdA hB10 rfl ?_
        refine iLdA hB10 rfl ?_
        intro w11 x11
        refine iCall ((ok_impl_premises fp.ok fr (hs10.ext x11)).mono ?_)
        rintro pv w12 ⟨x12, L, hR, hE, hL⟩
        refine ⟨x12, fun w13 x13 => ?_⟩
        refine iCall ((ok_impl_conclusion fp.ok fr (hs10.ext (x11.trans (x12.trans x13)))).mono ?_)
        rintro cv w14 ⟨x14, hcv⟩
        intro w15 x15
        have X11 := hX10.trans x11
        refine ⟨X11.trans (x12.trans (x13.trans (x14.trans x15))), pv, cv, rfl, L, Ow.mono (Ow.ext hR (x13.trans (x14.trans x15))) X11.size, (hE.ext (x13.trans (x14.trans x15))).mono X11.size, hL, OwK.mono (OwK.ext hcv x15) (X11.trans (x12.trans x13)).size, fun p hp c hc hc' => ?_⟩
        have q1 := ((hE.1 p hp).blk c hc).2
        have q2 := (OwK.blk hcv c hc').1
        have := x13.size
        omega
theorem ok_spec_TellingFormulas {w : World} {v0 v1 : Value} {l0 l1 : List Int} (hs0 : SlI w v0 l0) (hs1 : SlI w v1 l1) (n0 n1 : Int) : Cal Tryz.prog f_spec_TellingFormulas #[.agg #[.int .i64 n0, v0], .agg #[.int .i64 n1, v1]] w fun r w' => Ext w w' ∧ ∃ pv cv, r = .tuple #[pv, cv, .int .i64 (tfR n0 l0 n1 l1).2.1, .int .i64 (tfR n0 l0 n1 l1).2.2] ∧ TfW w.heap.size w' pv cv (tfR n0 l0 n1 l1).1 := by
  apply c_spec_TellingFormulas; unfold S_spec_TellingFormulas
  have hX := Ext.refl w
  refine iNew fun b2 w1 hb2 h hB2 => ?_
  have hX := hX.trans h
  refine iNew fun b3 w2 hb3 h hB3 => ?_
  have hX := hX.trans h
  have hB2 := hB2.ext h
  ((with_reducible refine iLdA (by assumption) ?_ ?_); rfl; (with_reducible refine iLdA (by assumption) ?_ ?_); rfl)
  refine iBs22 fun bb w3 hbb h hBB => ?_
  have hX := hX.trans h
  have hB2 := hB2.ext h
  have hB3 := hB3.ext h
  refine iRet (ok_spec_l34Code (SlP.two hBB (hs0.ext hX) (hs1.ext hX))) fun w4 h => ?_
  have hX := hX.trans h
  have hB2 := hB2.ext h
  have hB3 := hB3.ext h
  unfold tfR
  ((with_reducible refine iNe ?_))
  refine iCndP (fun hc => ?_) (fun hc => ?_)
  · rw [if_neg hc]; exact ⟨hX, _, _, rfl, TfW.nil _ _⟩
  · have hc := Classical.not_not.1 hc
    rw [if_pos hc]
    obtain ⟨h0, h1, _, _⟩ := codeS_two hc
    obtain ⟨hP, hn0, hl0⟩ := posetOk_po h0
    obtain ⟨hQ, hn1, hl1⟩ := posetOk_po h1
    generalize frOf n0 l0 = f at *
    generalize frOf n1 l1 = g at *
    subst hn0; subst hl0; subst hn1; subst hl1
    ((with_reducible refine iLdA (by assumption) ?_ ?_); rfl; (with_reducible refine iLdA (by assumption) ?_ ?_); rfl)
    refine iRet (ok_spec_l34Telling hP hQ (hs0.ext hX) (hs1.ext hX)) fun w5 h => ?_
    have hX := hX.trans h
    have hB2 := hB2.ext h
    have hB3 := hB3.ext h
    refine iEq (iCndP (fun ht => ?_) (fun ht => ?_))
    · have ht : tell f g = 0 := by exact_mod_cast ht
      rw [if_pos ht]; exact ⟨hX, _, _, rfl, TfW.nil _ _⟩
    · have ht : ¬ tell f g = 0 := fun e => ht (by exact_mod_cast e)
      rw [if_neg ht]
      obtain ⟨fx, fl0, fp, fr⟩ := tf_facts (f := f) hQ ht
      refine iCall ((ok_spec_l01List (tell f g) (mask63 hQ.ok (tell_lt f g)) w5).mono ?_)
      rintro mv w6 ⟨h, hm⟩
      have hX := hX.trans h
      have hB2 := hB2.ext h
      have hB3 := hB3.ext h
      have hms : SlN w6 mv (mem (tell f g)) := hm.sl
      refine iIaNN0 hms fl0 ?_
      refine iLdA hB3 rfl ?_
      refine iCall ((ok_spec_l34Cone hQ.ok (hs1.ext hX) (tfX f g) fx).mono ?_)
      rintro _ w7 ⟨h, v', rfl, ho'⟩
      have hX := hX.trans h
      have hB2 := hB2.ext h
      have hB3 := hB3.ext h
      refine iNew fun b11 w8 hb11 x8 hB8 => ?_
      have ho8 := ho'.ext x8
      refine iStAB hB8 rfl rfl (ho8.pair _) fun w9 hu9 hB9 => ?_
      have x79 : Ext w7 w9 := x8.upd hu9 (by omega)
      have hX9 := hX.trans x79
      have hs9 : SlN w9 v' (tfP f g).a := (ho'.ext x79).sl
      have hB9 : Blk t_impl_Poset w9 b11 [.int .i64 ((tfP f g).n : Int), v'] := hB9
      ((with_reducible refine iFa ?_); refine iLdB (by assumption) (by first | rfl | simp) ?_; (with_reducible refine iLt ?_))
      refine iCndP (fun h5 => ?_) (fun h5 => ?_)
      · have h5 : 5 < (tfP f g).n := by omega
        rw [if_pos h5]
        exact ⟨hX9, _, _, rfl, TfW.nil _ _⟩
      · have h5 : ¬ 5 < (tfP f g).n := by omega
        rw [if_neg h5]
        refine iLdA hB9 rfl ?_
        refine iLdA hB9 rfl ?_
        intro w11 x11
        refine iCall ((ok_spec_premises fp.ok fr (hs9.ext x11)).mono ?_)
        rintro pv w12 ⟨x12, L, hR, hE, hL⟩
        refine ⟨x12, fun w13 x13 => ?_⟩
        refine iCall ((ok_spec_conclusion fp.ok fr (hs9.ext (x11.trans (x12.trans x13)))).mono ?_)
        rintro cv w14 ⟨x14, hcv⟩
        intro w15 x15
        have X11 := hX9.trans x11
        refine ⟨X11.trans (x12.trans (x13.trans (x14.trans x15))), pv, cv, rfl, L, Ow.mono (Ow.ext hR (x13.trans (x14.trans x15))) X11.size, (hE.ext (x13.trans (x14.trans x15))).mono X11.size, hL, OwK.mono (OwK.ext hcv x15) (X11.trans (x12.trans x13)).size, fun p hp c hc hc' => ?_⟩
        have q1 := ((hE.1 p hp).blk c hc).2
        have q2 := (OwK.blk hcv c hc').1
        have := x13.size
        omega
end Go.Proofs.YtfhdhdgabdpmkaaGreat

/- The law on TellingFormulas: what its body answers. Conditions: none. -/
namespace Go.Proofs.YtfhdhdgabdpmkaaGreat
open Go.Vc
theorem premF_sizes {f : Fr} (hf : f.ok) : (∀ a ∈ premF f, a.size ≤ 100) ∧ (premF f).length ≤ 6000 := by
  have hf8 := hf.1
  refine ⟨fun a ha => ?_, ?_⟩
  · unfold premF at ha
    rcases List.mem_append.1 ha with ha | ha
    · rcases List.mem_append.1 ha with ha | ha
      · simp only [List.mem_singleton] at ha
        subst ha; simp [Fm.size]
      · unfold pairsK at ha
        rcases List.mem_append.1 ha with ha | ha
        · obtain ⟨x, hx, ha⟩ := List.mem_flatMap.1 ha
          obtain ⟨y, _, ha⟩ := List.mem_flatMap.1 ha
          have := jnF_size hf (and_lt8 (y := y) hf (List.mem_range.1 hx))
          unfold pairF bothF at ha
          simp only [List.mem_cons, List.not_mem_nil, or_false] at ha
          rcases ha with rfl | rfl <;> simp only [Fm.size] <;> omega
        · simp at ha
    · unfold upsK at ha
      rcases List.mem_append.1 ha with ha | ha
      · obtain ⟨x, hx, ha⟩ := List.mem_flatMap.1 ha
        obtain ⟨u, hu, ha⟩ := List.mem_flatMap.1 ha
        have h1 := jnF_size hf (upsets_lt hu)
        have h2 := jnF_size hf (impM_lt f (f.a.getD x 0) u)
        unfold upF bothF at ha
        simp only [List.mem_cons, List.not_mem_nil, or_false] at ha
        rcases ha with rfl | rfl <;> simp only [Fm.size] <;> omega
      · simp at ha
  · have h2 := pairsK_len hf8 (x := f.n) (y := 0) hf8 (by omega)
    have h3 := upsK_len hf (x := f.n) (k := 0) hf8
    unfold premF
    rw [List.length_append, List.length_append, List.length_singleton]
    omega
theorem tfR_ok (n0 : Int) (l0 : List Int) (n1 : Int) (l1 : List Int) : (∀ a ∈ (tfR n0 l0 n1 l1).1.1, a.size ≤ 100) ∧ NodesOk (tfR n0 l0 n1 l1).1.2.1 (tfR n0 l0 n1 l1).1.2.2 ∧ (tfR n0 l0 n1 l1).1.2.1 ≤ 100 ∧ (tfR n0 l0 n1 l1).1.1.length ≤ 6000 := by
  have nilc : (∀ a ∈ ([] : List Fm), a.size ≤ 100) ∧ NodesOk 0 [] ∧ 0 ≤ 100 ∧ ([] : List Fm).length ≤ 6000 := ⟨fun a ha => (by cases ha), fun i hi => absurd hi (Nat.not_lt_zero i), by omega, by simp⟩
  unfold tfR
  split
  · rename_i hc
    obtain ⟨h0, h1, _, _⟩ := codeS_two hc
    obtain ⟨hQ, _, _⟩ := posetOk_po h1
    split
    · exact nilc
    · rename_i ht
      split
      · exact nilc
      · obtain ⟨_, _, fp, _⟩ := tf_facts (f := frOf n0 l0) hQ ht
        obtain ⟨p1, p2⟩ := premF_sizes fp.ok
        refine ⟨p1, Fm.nodesOk _, ?_, p2⟩
        have := jnF_size fp.ok (conc_lt (tfP (frOf n0 l0) (frOf n1 l1)))
        show (concF _).size ≤ 100
        unfold concF
        omega
  · exact nilc
theorem tf_eq1 {lo lo' : Nat} {w : World} {p c p' c' : Value} {x : List Fm × Nat × List Value} (h : TfW lo w p c x) (h' : TfW lo' w p' c' x) (hq : ∀ a ∈ x.1, a.size ≤ 100) : Ret Tryz.prog f_laws_eqNodeSS #[p, p'] w (.bool true) := by
  obtain ⟨L, h1, h2, h3, _, _⟩ := h
  obtain ⟨L', h1', h2', h3', _, _⟩ := h'
  exact ok_laws_eqNodeSS (Ow.sl h1) (Ow.sl h1') (fun p hp => (h2.1 p hp).sl) (fun p hp => (h2'.1 p hp).sl) (h3.trans h3'.symm) fun p hp => by
    have := hq p.2 (by rw [← h3]; exact List.mem_map_of_mem hp)
    omega
theorem tf_eq2 {lo lo' : Nat} {w : World} {p c p' c' : Value} {x : List Fm × Nat × List Value} (h : TfW lo w p c x) (h' : TfW lo' w p' c' x) (hq : NodesOk x.2.1 x.2.2) (hn : x.2.1 ≤ 100) : Ret Tryz.prog f_laws_eqNodeS #[c, c'] w (.bool true) := by
  obtain ⟨_, _, _, _, h4, _⟩ := h
  obtain ⟨_, _, _, _, h4', _⟩ := h'
  exact ok_laws_eqNodeS h4.sl h4'.sl hq (by omega)
theorem toNR_tot {L : List (Value × Fm)} (h : ∀ p ∈ L, p.2.size ≤ 100) : totG (L.map toNR) ≤ 200 * L.length := by
  induction L with
  | nil => simp [totG]
  | cons r L ih =>
    have h1 := ih fun p hp => h p (List.mem_cons_of_mem _ hp)
    have h2 := h r List.mem_cons_self
    have e : totG ((r :: L).map toNR) = 2 * r.2.size + totG (L.map toNR) := by simp [totG, toNR]
    rw [e, List.length_cons]; omega
/-- What has been marked. -/
structure MkW (lo : Nat) (w : World) (p c : Value) (M : List NR) (n : Nat) : Prop where
  row : Ow lo t_Simpl_Node w p (M.map Prod.fst)
  gf : GF lo w (mkG 1 M)
  con : OwK 2 lo t_impl_Node w c n (marksN (1 + totG M) n)
theorem MkW.ext {lo : Nat} {w w' : World} {p c : Value} {M : List NR} {n : Nat} (h : MkW lo w p c M n) (x : Ext w w') : MkW lo w' p c M n := ⟨h.row.ext x, h.gf.ext x, OwK.ext h.con x⟩
theorem ok_laws_FnExactTellingFormulas {w : World} {s0 s1 : Value} {l0 l1 : List Int} (hs0 : SlI w s0 l0) (hs1 : SlI w s1 l1) (n0 n1 : Int) : Ret Tryz.prog f_laws_FnExactTellingFormulas #[.agg #[.int .i64 n0, s0], .agg #[.int .i64 n1, s1]] w (.bool true) := by
  apply c_laws_FnExactTellingFormulas; unfold S_laws_FnExactTellingFormulas
  have hX := Ext.refl w
  refine iNew fun b2 w1 hb2 h hB2 => ?_
  have hX := hX.trans h
  refine iNew fun b3 w2 hb3 h hB3 => ?_
  have hX := hX.trans h
  have hB2 := hB2.ext h
  ((with_reducible refine iLdA (by assumption) ?_ ?_); rfl)
  refine iRet (frPoset.sz (hs0.ext hX) n0 1048576 (by omega)) fun w3 h => ?_
  have hX := hX.trans h
  have hB2 := hB2.ext h
  have hB3 := hB3.ext h
  ((with_reducible refine iLt ?_))
  refine iCndP (fun h3 => ⟨rfl, hX⟩) (fun h3 => ?_)
  obtain ⟨hl0, hl0'⟩ := szN_neg _ _ h3
  ((with_reducible refine iLdA (by assumption) ?_ ?_); rfl)
  refine iRet (frPoset.sz (hs1.ext hX) n1 (szN l0.length 1048576) (by omega)) fun w4 h => ?_
  have hX := hX.trans h
  have hB2 := hB2.ext h
  have hB3 := hB3.ext h
  ((with_reducible refine iLt ?_))
  refine iCndP (fun h3 => ⟨rfl, hX⟩) (fun h3 => ?_)
  obtain ⟨hl1, _⟩ := szN_neg _ _ h3
  ((with_reducible refine iLdA (by assumption) ?_ ?_); rfl; (with_reducible refine iLdA (by assumption) ?_ ?_); rfl)
  intro w5 h
  have hX := hX.trans h
  have hB2 := hB2.ext h
  have hB3 := hB3.ext h
  refine iCall ((frPoset.to (hs0.ext hX) n0 (by omega)).mono ?_)
  rintro _ w6 ⟨h, a0, rfl, ho0⟩
  (try refine ⟨h, ?_⟩)
  have hX := hX.trans h
  have hB2 := hB2.ext h
  have hB3 := hB3.ext h
  intro w7 h
  have hX := hX.trans h
  have hB2 := hB2.ext h
  have hB3 := hB3.ext h
  have ho0 := ho0.ext h
  refine iCall ((frPoset.to (hs1.ext hX) n1 (by omega)).mono ?_)
  rintro _ w8 ⟨h, a1, rfl, ho1⟩
  (try refine ⟨h, ?_⟩)
  have hX := hX.trans h
  have hB2 := hB2.ext h
  have hB3 := hB3.ext h
  have ho0 := ho0.ext h
  intro w9 h
  have hX := hX.trans h
  have hB2 := hB2.ext h
  have hB3 := hB3.ext h
  have ho0 := ho0.ext h
  have ho1 := ho1.ext h
  refine iCall ((ok_spec_TellingFormulas ho0.sl ho1.sl n0 n1).mono ?_)
  rintro _ w10 ⟨h, p1, c1, rfl, hr1⟩
  (try refine ⟨h, ?_⟩)
  have hX := hX.trans h
  have hB2 := hB2.ext h
  have hB3 := hB3.ext h
  have hX0 := hX
  have hs0 := hs0.ext hX0
  have hs1 := hs1.ext hX0
  have hX := Ext.refl w10
  have hfin : ∀ w', Ext w10 w' → (.bool true : Value) = .bool true ∧ Ext w w' := fun w' h => ⟨rfl, hX0.trans h⟩
  (refine iEx (by rfl) ?_; refine iEx (by rfl) ?_; refine iEx (by rfl) ?_; refine iEx (by rfl) ?_)
  intro w11 h
  have hX := hX.trans h
  have hB2 := hB2.ext h
  have hB3 := hB3.ext h
  ((with_reducible refine iLdA (by assumption) ?_ ?_); rfl)
  refine iCall ((frPoset.to (hs0.ext hX) n0 (by omega)).mono ?_)
  rintro _ w12 ⟨h, a8, rfl, ho8⟩
  have ho8 := ho8.mono hX.size
  have hX := hX.trans h
  have hB2 := hB2.ext h
  have hB3 := hB3.ext h
  refine iNew fun b8 w13 hb8 h hD8 => ?_
  have hlo8 : w10.heap.size ≤ b8 := by have := hX.size; omega
  have hX := hX.trans h
  have hB2 := hB2.ext h
  have hB3 := hB3.ext h
  have ho8 := ho8.ext h
  refine iStAB hD8 rfl rfl (ho8.pair n0) fun w14 hu hD8' => ?_
  have hX := hX.upd hu hlo8
  have hB2 := hB2.upd hu (hB2.ne_blk hD8 (by decide))
  have hB3 := hB3.upd hu (hB3.ne_blk hD8 (by decide))
  have ho8 := ho8.upd hu (ho8.ne_blk hD8 (by decide))
  have hD8 := hD8'
  ((with_reducible refine iLdA (by assumption) ?_ ?_); rfl)
  refine iCall ((frPoset.to (hs1.ext hX) n1 (by omega)).mono ?_)
  rintro _ w15 ⟨h, a9, rfl, ho9⟩
  have hd98 : ∀ c, a9.ownBlock = some c → a8.ownBlock ≠ some c := fun c hc h8 => by have := (ho9.blk c hc).1; have := (ho8.blk c h8).2; omega
  have ho9 := ho9.mono hX.size
  have hX := hX.trans h
  have hB2 := hB2.ext h
  have hB3 := hB3.ext h
  have ho8 := ho8.ext h
  have hD8 := hD8.ext h
  refine iNew fun b9 w16 hb9 h hD9 => ?_
  have hlo9 : w10.heap.size ≤ b9 := by have := hX.size; omega
  have hne89 : b8 ≠ b9 := by have := hD8.lt; omega
  have hX := hX.trans h
  have hB2 := hB2.ext h
  have hB3 := hB3.ext h
  have ho8 := ho8.ext h
  have hD8 := hD8.ext h
  have ho9 := ho9.ext h
  refine iStAB hD9 rfl rfl (ho9.pair n1) fun w17 hu hD9' => ?_
  have hX := hX.upd hu hlo9
  have hB2 := hB2.upd hu (hB2.ne_blk hD9 (by decide))
  have hB3 := hB3.upd hu (hB3.ne_blk hD9 (by decide))
  have ho8 := ho8.upd hu (ho8.ne_blk hD9 (by decide))
  have ho9 := ho9.upd hu (ho9.ne_blk hD9 (by decide))
  have hD8 := hD8.upd hu hne89
  have hD9 := hD9'
  ((with_reducible refine iLdA (by assumption) ?_ ?_); rfl; (with_reducible refine iLdA (by assumption) ?_ ?_); rfl)
  refine iCall ((ok_impl_TellingFormulas ho8.sl ho9.sl n0 n1).mono ?_)
  rintro _ w18 ⟨h, p2, c2, rfl, hr2⟩
  have hb8' := fun c (hc : a8.ownBlock = some c) => (ho8.blk c hc).2
  have hb9' := fun c (hc : a9.ownBlock = some c) => (ho9.blk c hc).2
  have hb2' := hB2.lt
  have hb3' := hB3.lt
  have hhi := hX.size
  have hX := hX.trans h
  have hB2 := hB2.ext h
  have hB3 := hB3.ext h
  have ho8 := ho8.ext h
  have ho9 := ho9.ext h
  have hD8 := hD8.ext h
  have hD9 := hD9.ext h
  obtain ⟨hq1, hq2, hq3, hq4⟩ := tfR_ok n0 l0 n1 l1
  generalize hoc : tfR n0 l0 n1 l1 = oc at *
  (refine iEx (by rfl) ?_; refine iEx (by rfl) ?_; refine iEx (by rfl) ?_; refine iEx (by rfl) ?_)
  refine iJnB false w18 (fun J hJ => ?_) (fun w20 h => ?_)
  · refine iRet (tf_eq1 hr2 (hr1.ext hX) hq1) fun w21 h => ?_
    refine iNot (iCndF rfl ?_)
    refine iRet (tf_eq2 (hr2.ext h) (hr1.ext (hX.trans h)) hq2 hq3) fun w22 h' => ?_
    refine iNot (iCndF rfl ?_)
    refine iNe (iCndP (fun h => absurd rfl h) (fun _ => ?_))
    refine iNe ?_
    have := hJ w22 (h.trans h')
    simpa using this
  have hX := hX.trans h
  have hB2 := hB2.ext h
  have hB3 := hB3.ext h
  have ho8 := ho8.ext h
  have ho9 := ho9.ext h
  have hD8 := hD8.ext h
  have hD9 := hD9.ext h
  have hr2 := hr2.ext h
  (intro _; (try simp only [gx]))
  refine iCndF rfl ?_
  ((with_reducible refine iLdA (by assumption) ?_ ?_); rfl; (with_reducible refine iLdA (by assumption) ?_ ?_); rfl)
  intro w22 h
  have hX := hX.trans h
  have hB2 := hB2.ext h
  have hB3 := hB3.ext h
  have ho8 := ho8.ext h
  have ho9 := ho9.ext h
  have hD8 := hD8.ext h
  have hD9 := hD9.ext h
  have hr2 := hr2.ext h
  refine iCall ((frPoset.to (hs0.ext hX) n0 (by omega)).mono ?_)
  rintro _ w23 ⟨h, a2, rfl, ho2⟩
  (try refine ⟨h, ?_⟩)
  have hX := hX.trans h
  have hB2 := hB2.ext h
  have hB3 := hB3.ext h
  have ho8 := ho8.ext h
  have ho9 := ho9.ext h
  have hD8 := hD8.ext h
  have hD9 := hD9.ext h
  have hr2 := hr2.ext h
  refine iRetQ (fun w' h' => frPoset.eq (ho8.ext h').sl (ho2.ext h').sl n0 n0) ?_
  ((with_reducible refine iNot ?_))
  intro w24 h
  have hX := hX.trans h
  have hB2 := hB2.ext h
  have hB3 := hB3.ext h
  have ho8 := ho8.ext h
  have ho9 := ho9.ext h
  have hD8 := hD8.ext h
  have hD9 := hD9.ext h
  have hr2 := hr2.ext h
  refine iCndF (by simp) ?_
  ((with_reducible refine iLdA (by assumption) ?_ ?_); rfl; (with_reducible refine iLdA (by assumption) ?_ ?_); rfl)
  intro w25 h
  have hX := hX.trans h
  have hB2 := hB2.ext h
  have hB3 := hB3.ext h
  have ho8 := ho8.ext h
  have ho9 := ho9.ext h
  have hD8 := hD8.ext h
  have hD9 := hD9.ext h
  have hr2 := hr2.ext h
  refine iCall ((frPoset.to (hs1.ext hX) n1 (by omega)).mono ?_)
  rintro _ w26 ⟨h, a3, rfl, ho3⟩
  (try refine ⟨h, ?_⟩)
  have hX := hX.trans h
  have hB2 := hB2.ext h
  have hB3 := hB3.ext h
  have ho8 := ho8.ext h
  have ho9 := ho9.ext h
  have hD8 := hD8.ext h
  have hD9 := hD9.ext h
  have hr2 := hr2.ext h
  refine iRetQ (fun w' h' => frPoset.eq (ho9.ext h').sl (ho3.ext h').sl n1 n1) ?_
  ((with_reducible refine iNot ?_))
  intro w27 h
  have hX := hX.trans h
  have hB2 := hB2.ext h
  have hB3 := hB3.ext h
  have ho8 := ho8.ext h
  have ho9 := ho9.ext h
  have hD8 := hD8.ext h
  have hD9 := hD9.ext h
  have hr2 := hr2.ext h
  refine iCndF (by simp) ?_
  ((with_reducible refine iLdA (by assumption) ?_ ?_); rfl)
  -- the copies marked
  refine iCall ((frPoset.mark ho8 n0 1 (by omega)).mono ?_)
  rintro _ w28 ⟨rfl, _, hg⟩
  have hX := hX.grown hg fun c hc => (ho8.blk c hc).1
  have hr2 := TfW.ch hr2 (grown_ch (S := fun c => a8.ownBlock = some c) hg (fun c hc => hc)) (fun c hc => hb8' c hc)
  have hB2 := hB2.grown hg (ho8.ne_blk hB2 (by decide))
  have hB3 := hB3.grown hg (ho8.ne_blk hB3 (by decide))
  have hD9 := hD9.grown hg (ho8.ne_blk hD9 (by decide))
  have ho9 := ho9.grown hg (by
    cases hc : a9.ownBlock with
    | none => exact .inl rfl
    | some c => exact .inr fun e => hd98 c hc e.symm)
  ((with_reducible refine iLdA (by assumption) ?_ ?_); rfl)
  refine iCall ((frPoset.mark ho9 n1 (1 + l0.length) (by omega)).mono ?_)
  rintro _ w29 ⟨rfl, _, hg⟩
  have hX := hX.grown hg fun c hc => (ho9.blk c hc).1
  have hr2 := TfW.ch hr2 (grown_ch (S := fun c => a9.ownBlock = some c) hg (fun c hc => hc)) (fun c hc => hb9' c hc)
  have hB2 := hB2.grown hg (ho9.ne_blk hB2 (by decide))
  have hB3 := hB3.grown hg (ho9.ne_blk hB3 (by decide))
  refine iJnB false w29 (fun J hJ => ?_) (fun w31 h => ?_)
  · ((with_reducible refine iLt ?_))
    refine iCndP (fun h => absurd h (by omega)) (fun _ => ?_)
    refine iRet (tf_eq1 hr2 (hr1.ext hX) hq1) fun w33 h => ?_
    refine iNot (iCndF rfl ?_)
    refine iRet (tf_eq2 (hr2.ext h) (hr1.ext (hX.trans h)) hq2 hq3) fun w34 h' => ?_
    refine iNot (iCndF rfl ?_)
    refine iNe (iCndP (fun h => absurd rfl h) (fun _ => ?_))
    refine iNe ?_
    have := hJ w34 (h.trans h')
    simpa using this
  have hX := hX.trans h
  have hB2 := hB2.ext h
  have hB3 := hB3.ext h
  have hr2 := hr2.ext h
  (intro _; (try simp only [gx]))
  refine iCndF rfl ?_
  obtain ⟨L, hR, hE, hL, hC, hdj⟩ := hr2
  have hLl : L.length ≤ 6000 := by have := congrArg List.length hL; rw [List.length_map] at this; omega
  have htot := toNR_tot (L := L) fun p hp => hq1 _ (by rw [← hL]; exact List.mem_map_of_mem hp)
  have hmf : (L.map toNR).map Prod.fst = L.map Prod.fst := by rw [List.map_map]; rfl
  have hR' : Ow w17.heap.size t_Simpl_Node w31 p2 ((L.map toNR).map Prod.fst) := by rw [hmf]; exact hR
  refine iCall ((ok_laws_markNodeSS hR' hE.gf (by omega)).mono ?_)
  rintro _ w33 ⟨rfl, hR3, hG3, hch⟩
  have hC3 : OwK 2 w17.heap.size t_impl_Node w33 c2 oc.1.2.1 oc.1.2.2 := OwK.ch hC hch fun c hc ⟨p, hp, hc'⟩ => by
    obtain ⟨q, hq, rfl⟩ := List.mem_map.1 hp
    exact hdj q hq c hc' hc
  have hX := hX.thenCh hch fun c hc => by
    obtain ⟨p, hp, hc'⟩ := hc
    obtain ⟨q, hq, rfl⟩ := List.mem_map.1 hp
    exact Nat.le_trans hhi ((hE.1 q hq).blk c hc').1
  have hlt17 : ∀ c, (∃ p ∈ L.map toNR, p.1.ownBlock = some c) → w17.heap.size ≤ c := fun c ⟨p, hp, hc'⟩ => by
    obtain ⟨q, hq, rfl⟩ := List.mem_map.1 hp
    exact ((hE.1 q hq).blk c hc').1
  have hB2 := hB2.ch hch (fun h => by have := hlt17 b2 h; omega)
  have hB3 := hB3.ch hch (fun h => by have := hlt17 b3 h; omega)
  refine iCall ((ok_laws_markNodeS hC3 (k := 1 + totG (L.map toNR)) (by omega)).mono ?_)
  rintro _ w34 ⟨rfl, hC4, hch4⟩
  have hR4 := hR3.ch hch4 fun c hc hc' => OwK.ne_ow hC3 hR3 (by decide) hc' hc
  have hG4 := hG3.ch hch4 fun p hp c hc hc' => by
    have hf : p.1 ∈ (mkG 1 (L.map toNR)).map Prod.fst := List.mem_map_of_mem hp
    rw [mkG_fst, hmf] at hf
    obtain ⟨q, hq, e⟩ := List.mem_map.1 hf
    rw [← e] at hc
    exact hdj q hq c hc hc'
  have hX := hX.thenCh hch4 fun c hc => Nat.le_trans hhi (OwK.blk hC3 c hc).1
  have hB2 := hB2.ch hch4 (fun h => by have := (OwK.blk hC3 b2 h).1; omega)
  have hB3 := hB3.ch hch4 (fun h => by have := (OwK.blk hC3 b3 h).1; omega)
  have hr2 : MkW w17.heap.size w34 p2 c2 (L.map toNR) oc.1.2.1 := ⟨hR4, hG4, hC4⟩
  refine iRet (ok_laws_heldNodeSS hr2.row.sl hr2.gf (by omega)) fun w35' h => ?_
  have hX := hX.trans h
  have hB2 := hB2.ext h
  have hB3 := hB3.ext h
  have hr2 := hr2.ext h
  refine iLt (iCndP (fun h => absurd h (by omega)) (fun _ => ?_))
  refine iRet (ok_laws_heldNodeS hr2.con.sl (by omega)) fun w36' h => ?_
  have hX := hX.trans h
  have hB2 := hB2.ext h
  have hB3 := hB3.ext h
  have hr2 := hr2.ext h
  refine iLt (iCndP (fun h => absurd h (by omega)) (fun _ => ?_))
  refine iNe ?_
  refine iCndP (fun h => absurd rfl h) (fun _ => ?_)
  ((with_reducible refine iLdA (by assumption) ?_ ?_); rfl; (with_reducible refine iLdA (by assumption) ?_ ?_); rfl)
  intro w35 h
  have hX := hX.trans h
  have hr2 := hr2.ext h
  refine iCall ((frPoset.to (hs0.ext hX) n0 (by omega)).mono ?_)
  rintro _ w36 ⟨h, a4, rfl, ho4⟩
  (try refine ⟨h, ?_⟩)
  have hX := hX.trans h
  have hr2 := hr2.ext h
  intro w37 h
  have hX := hX.trans h
  have ho4 := ho4.ext h
  have hr2 := hr2.ext h
  refine iCall ((frPoset.to (hs1.ext hX) n1 (by omega)).mono ?_)
  rintro _ w38 ⟨h, a5, rfl, ho5⟩
  (try refine ⟨h, ?_⟩)
  have hX := hX.trans h
  have ho4 := ho4.ext h
  have hr2 := hr2.ext h
  intro w39 h
  have hX := hX.trans h
  have ho4 := ho4.ext h
  have ho5 := ho5.ext h
  have hr2 := hr2.ext h
  have hout := ok_impl_TellingFormulas ho4.sl ho5.sl n0 n1
  rw [hoc] at hout
  refine iCall (hout.mono ?_)
  rintro _ w40 ⟨h, p3, c3, rfl, hr3⟩
  (try refine ⟨h, ?_⟩)
  have hX := hX.trans h
  have hr2 := hr2.ext h
  (refine iEx (by rfl) ?_; refine iEx (by rfl) ?_; refine iEx (by rfl) ?_; refine iEx (by rfl) ?_)
  intro w41 h
  have hX := hX.trans h
  have hr2 := hr2.ext h
  have hr3 := hr3.ext h
  refine iJnB false w41 (fun J hJ => ?_) (fun w43 h => ?_)
  · refine iRet (tf_eq1 hr3 (hr1.ext hX) hq1) fun w44 h => ?_
    refine iNot (iCndF rfl ?_)
    refine iRet (tf_eq2 (hr3.ext h) (hr1.ext (hX.trans h)) hq2 hq3) fun w46 h' => ?_
    refine iNot (iCndF rfl ?_)
    refine iNe (iCndP (fun h => absurd rfl h) (fun _ => ?_))
    refine iNe ?_
    have := hJ w46 (h.trans h')
    simpa using this
  have hX := hX.trans h
  have hr2 := hr2.ext h
  (intro _; (try simp only [gx]))
  refine iCndF rfl ?_
  refine iRet (ok_laws_heldNodeSS hr2.row.sl hr2.gf (by omega)) fun w45 h => ?_
  have hX := hX.trans h
  have hr2 := hr2.ext h
  refine iLt (iCndP (fun h => absurd h (by omega)) (fun _ => ?_))
  refine iRet (ok_laws_heldNodeS hr2.con.sl (by omega)) fun w46 h => ?_
  have hX := hX.trans h
  refine iLt (iCndP (fun h => absurd h (by omega)) (fun _ => ?_))
  refine iNe ?_
  refine iCndP (fun h => absurd rfl h) (fun _ => ?_)
  have := hfin _ hX
  simpa using this
end Go.Proofs.YtfhdhdgabdpmkaaGreat
