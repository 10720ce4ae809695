/- The proof of FnCrashesCard, part 4 of 7. Conditions: none. -/
import Derived.Test.YtapdkkijoflcpaaGreatDoorKR51c
import Derived.Test.YtapdkkijoflcpaaGreatDoorRows
import Derived.Shelf.Strings.Search2
import Derived.Shelf.Strconv.Itoa3
import Derived.Lib.Builder
import Derived.Lib.AppendStr
import Derived.Lib.UnsafeStr
import Derived.Lib.IndexLaws
import Derived.WalkKit
import Derived.Laws.Externs
import Derived.Laws.BytesString
import Derived.Shelf.Small.Strs
import Derived.Lib.AppendZerosOnto
import Derived.Lib.Overlaps
namespace Go.Vc
/-- A row of cap elements of two cells, whole. -/
def Rx (e : TypeId) (w : World) (g cap : Nat) (cur : List Value) : Prop := Blk e w g cur ∧ cur.length = cap * 2 ∧ cap ≤ 9223372036854775807
theorem OwK.rx {lo n : Nat} {e : TypeId} {w : World} {v : Value} {xs : List Value} (h : OwK 2 lo e w v n xs) (hn : 0 < n) :
    ∃ g cap cur, v = .slice (some ⟨g, 0, none⟩) n cap ∧ lo ≤ g ∧ n ≤ cap ∧ Rx e w g cap cur ∧ cur.take (n * 2) = xs := by
  obtain ⟨_, ⟨_, h0⟩ | ⟨g, cap, cur, hv, hg, hh, h1, h2, h3, h4⟩⟩ := h
  · omega
  · exact ⟨g, cap, cur.toList, hv, hg, h1, ⟨by unfold Blk; rw [Array.toArray_toList]; exact hh, by simpa using h3, h2⟩, h4⟩
section
variable {P : Program} {w : World} {e : TypeId} {g cap : Nat} {cur : List Value}
theorem Rx.own {lo n : Nat} {xs : List Value} (h : Rx e w g cap cur) (hl : lo ≤ g) (hn : n ≤ cap) (hx : cur.take (n * 2) = xs) : OwK 2 lo e w (.slice (some ⟨g, 0, none⟩) n cap) n xs :=
  ⟨by rw [← hx, List.length_take, h.2.1]; omega, .inr ⟨g, cap, cur.toArray, rfl, hl, h.1, hn, h.2.2, by simpa using h.2.1, by simpa using hx⟩⟩
theorem Rx.ext {w' : World} (h : Rx e w g cap cur) (x : Ext w w') : Rx e w' g cap cur := ⟨h.1.ext x, h.2⟩
/-- A part of a list put anew. -/
def putX (cur : List Value) (o : Nat) (ys : List Value) : List Value := cur.take o ++ ys ++ cur.drop (o + ys.length)
theorem putX_len {cur : List Value} {o : Nat} {ys : List Value} (h : o + ys.length ≤ cur.length) : (putX cur o ys).length = cur.length := by
  unfold putX; rw [List.length_append, List.length_append, List.length_take, List.length_drop]; omega
theorem putX_take {cur : List Value} {o n : Nat} {ys : List Value} (h : o + ys.length ≤ cur.length) (hn : n = o + ys.length) : (putX cur o ys).take n = cur.take o ++ ys := by
  unfold putX
  have hl : (cur.take o ++ ys).length = n := by rw [List.length_append, List.length_take]; omega
  rw [List.take_append_of_le_length (by omega), List.take_of_length_le (by omega)]
theorem Rx.set (h : Rx e w g cap cur) {cur' : List Value} (hl : cur'.length = cur.length) : Rx e (w.setRow g cur'.toArray) g cap cur' ∧ Ch (fun c => c = g) w (w.setRow g cur'.toArray) :=
  ⟨⟨setRow_heap w g cur.toArray _ e (0, 0) h.1, by rw [hl]; exact h.2.1, h.2.2⟩, ⟨rfl, rfl, rfl, by rw [setRow_size]; exact Nat.le_refl _, fun c _ hc => setRow_other w g c _ hc⟩⟩
theorem SlK.srcX {k m : Nat} {x : Value} {ys : List Value} (hs : SlK k w x m ys) : ∃ a c, x = .slice a m c ∧ ys.length = m * k ∧ ((a = none ∧ m = 0) ∨ ∃ ad, a = some ad ∧ ∀ j u, ys[j]? = some u → w.cell? (ad.add j) = some u) := by
  obtain ⟨hyl, a, c, rfl, hlc, hcm, hcells⟩ := hs
  refine ⟨a, c, rfl, hyl, ?_⟩
  rcases hcells with rfl | ⟨b, o, rfl, hc⟩
  · cases a with
    | none => exact .inl ⟨rfl, rfl⟩
    | some ad =>
      refine .inr ⟨ad, rfl, fun j u hu => ?_⟩
      have : ys = [] := List.length_eq_zero_iff.1 (by omega)
      rw [this] at hu; simp at hu
  · refine .inr ⟨_, rfl, fun j u hu => ?_⟩
    have hj : j < ys.length := (List.getElem?_eq_some_iff.1 hu).1
    rw [addr_add, hc j (by omega), hu]
/-- 'append(s, x...)' where s has room. -/
theorem iAppRx {t ty : TypeId} {i m bytes : Nat} {x z : Value} {ys : List Value} {K : Value → World → Prop} (ht : P.underlying t = some (.slice e)) (hi : (P.info? e).map (fun i => (i.zero, i.size, i.bytes)) = some (some z, 2, bytes))
    (hR : Rx e w g cap cur) (hs : SlK 2 w x m ys) (hy : ∀ u ∈ ys, isCell u = true) (hroom : i + m ≤ cap)
    (h : ∀ w', Rx e w' g cap (putX cur (i * 2) ys) → Ch (fun c => c = g) w w' → K (.slice (some ⟨g, 0, none⟩) (i + m) cap) w') :
    xOp P (Builtin.append_ #[t, t] ty #[.slice (some ⟨g, 0, none⟩) i cap, x]) w K := by
  obtain ⟨inf, hi, h3⟩ := Option.map_eq_some_iff.1 hi
  simp only [Prod.mk.injEq] at h3
  obtain ⟨-, hsz, -⟩ := h3
  obtain ⟨a, c, rfl, hyl, ⟨rfl, rfl⟩ | ⟨ad, rfl, hsrc⟩⟩ := hs.srcX
  · have : ys = [] := List.length_eq_zero_iff.1 (by omega)
    subst this
    refine ⟨_, w, ?_, h w (by simpa [putX] using hR) ⟨rfl, rfl, rfl, Nat.le_refl _, fun _ _ _ => rfl⟩⟩
    have : i ≤ cap := by omega
    simp [Builtin.append_, run_underlying ht, sizeOf, typeInfo, hi, Builtin.lenOf, Builtin.firstCells, this, storeCells]
  · have hl3 := hR.2.1
    have hr := run_append_room (P := P) w t ty e inf ht hi g i cap cur.toArray hR.1 ad m c ys (by rw [hsz]; exact hyl) hsrc (fun u hu => isCell_one (hy u hu)) hroom (by simp [hsz]; omega)
    rw [hsz] at hr
    obtain ⟨h1, h2⟩ := hR.set (cur' := putX cur (i * 2) ys) (putX_len (by omega))
    exact ⟨_, _, hr, h _ h1 h2⟩
end
/-! ### Parts of slices of elements of two cells -/
theorem iHX {g o n c k : Nat} {ki : IntKind} {K : Value → Prop} (hk : k ≤ c) (h : K (.slice (some ⟨g, o, none⟩) k c)) : xSl 2 (.slice (some ⟨g, o, none⟩) n c) none (some (.int ki (k : Int))) K := by
  refine ⟨_, _, _, 0, k, rfl, ⟨ki, rfl⟩, rfl, Nat.zero_le _, hk, ?_⟩
  have e : (if c = 0 then some (⟨g, o, none⟩ : Addr) else (some (⟨g, o, none⟩ : Addr)).map (·.add (0 * 2))) = some ⟨g, o, none⟩ := by
    split
    · rfl
    · rw [Option.map_some, addr_add, Nat.zero_mul, Nat.add_zero]
  rw [e, Nat.sub_zero, Nat.sub_zero]
  exact h
/-! ### Rows of a count and a slice -/
section
variable {P : Program} {w : World}
theorem iStFX {lo : Nat} {e : TypeId} {w : World} {v x : Value} {n : Nat} {xs : List Value} {z : Int} {j f : Nat} {k : IntKind} {K : World → Prop} (hs : OwK 2 lo e w v n xs) (hz : z = (j : Int)) (hj : j < n) (hf : f < 2) (hx : isCell x = true)
    (h : ∀ w', OwK 2 lo e w' v n (xs.set (j * 2 + f) x) → Ch (fun c => v.ownBlock = some c) w w' → K w') : xIa 2 v (.int k z) fun p => xFa f p fun q => xSt w q x K := by
  subst hz
  obtain ⟨hl, ⟨-, h0⟩ | ⟨g, cap, cur, hv, hg, hh, h1, h2, h3, h4⟩⟩ := hs
  · omega
  · subst hv
    have hs : w.ownsRow lo e 2 (.slice (some ⟨g, 0, none⟩) n cap) n xs := ⟨hl, .inr ⟨g, cap, cur, rfl, hg, hh, h1, h2, h3, h4⟩⟩
    refine ⟨_, _, _, _, _, rfl, rfl, by omega, by omega, ?_⟩
    rw [Int.toNat_natCast, addr_add]
    refine ⟨_, rfl, ?_⟩
    rw [addr_add, Nat.zero_add]
    have hjf : j * 2 + f < xs.length := by omega
    refine iSt ((hs.cellAt (j * 2 + f) (by omega)).trans (List.getElem?_eq_getElem hjf)) (hs.frozenAt _) hx ?_
    exact h _ (hs.stored (j * 2 + f) x).1 ((Upd.setCell w g _ x).ch rfl)
theorem iTY {k n i : Nat} {ki : IntKind} {w : World} {v : Value} {xs : List Value} {z : Int} {K : Value → Prop} (hs : SlK k w v n xs) (hz : z = (i : Int)) (hi : i ≤ n) (h : ∀ v', SlK k w v' (n - i) (xs.drop (i * k)) → K v') : xSl k v (some (.int ki z)) none K := by
  subst hz
  obtain ⟨h0, a, c, rfl, h2, h3, h4⟩ := hs
  have hle : i * k ≤ n * k := Nat.mul_le_mul_right _ hi
  have hsub : (n - i) * k = n * k - i * k := Nat.sub_mul ..
  refine ⟨_, _, _, i, n, rfl, rfl, ⟨ki, rfl⟩, hi, h2, ?_⟩
  refine h _ ⟨by rw [List.length_drop]; omega, _, _, rfl, by omega, by omega, ?_⟩
  rcases Nat.eq_zero_or_pos (n - i) with hz | hz
  · exact .inl hz
  · rcases h4 with h4 | ⟨b, o, rfl, hc⟩
    · omega
    · refine .inr ⟨b, o + i * k, ?_, fun j hj => ?_⟩
      · rw [if_neg (by omega), Option.map_some, addr_add]
      · rw [Nat.add_assoc, hc _ (by omega), List.getElem?_drop]
end
end Go.Vc
/- Contracts: drawn formulas, and formulas bent out of shape. Conditions: none. -/
namespace Go.Vc
/-- A row of nodes of the call's own; a formula drawn. -/
abbrev RawW (lo : Nat) (e : TypeId) (w : World) (v : Value) (N : List RN) : Prop := OwK 2 lo e w v N.length (cellsN N)
theorem OwK.ne_src {k lo n : Nat} {e e' : TypeId} {w0 w : World} {vc v : Value} {b : Nat} {xs : List Value} (h : OwK k lo e' w v n xs) (hS : Src e w0 vc b w) (hne : e' ≠ e) : v.ownBlock ≠ some b := by
  intro hc
  obtain ⟨cur, h1⟩ := h.ty hc
  obtain ⟨_, _, _, _, h3, _⟩ := hS
  unfold Blk at h3
  rw [h1] at h3
  injection h3 with h3
  injection h3 with _ he _
  exact hne he
theorem OwK.src {k lo n : Nat} {e e' : TypeId} {w0 w w' : World} {vc v : Value} {b : Nat} {xs : List Value} (h : OwK k lo e' w v n xs) (hS : Src e w0 vc b w) (hne : e' ≠ e) (hch : Ch (fun c => c = b) w w') : OwK k lo e' w' v n xs :=
  h.ch hch fun c hc hb => h.ne_src hS hne (by rw [hc, hb])
def preF (y : Nat) (a : Fm) : Fm := if y = 0 then .box a else .dia a
theorem preF_cells {y : Nat} (hy : y < 2) (a : Fm) : (preF y a).cells = nd (5 + y) 0 ++ a.cells := by
  have : y = 0 ∨ y = 1 := by omega
  rcases this with rfl | rfl <;> rfl
theorem preF_size (y : Nat) (a : Fm) : (preF y a).size = 1 + a.size := by unfold preF; split <;> rfl
theorem preF_good (y : Nat) {a : Fm} (h : a.good) : (preF y a).good := by unfold preF; split <;> exact h
def binF (z : Nat) (a b : Fm) : Fm := if z = 0 then .and a b else if z = 1 then .or a b else .imp a b
theorem binF_cells {z : Nat} (hz : z < 3) (a b : Fm) : (binF z a b).cells = nd (2 + z) 0 ++ a.cells ++ b.cells := by
  have : z = 0 ∨ z = 1 ∨ z = 2 := by omega
  rcases this with rfl | rfl | rfl <;> rfl
theorem binF_size (z : Nat) (a b : Fm) : (binF z a b).size = 1 + a.size + b.size := by unfold binF; split; rfl; split <;> rfl
theorem binF_good (z : Nat) {a b : Fm} (h : a.good) (k : b.good) : (binF z a b).good := by unfold binF; split; exact ⟨h, k⟩; split <;> exact ⟨h, k⟩
theorem cellsN_set0 (N : List RN) (k : Nat) (hk : k < N.length) (x : Int) : (cellsN N).set (k * 2 + 0) (.int .i64 x) = cellsN (N.set k (x, N[k].2)) := by
  induction N generalizing k with
  | nil => simp at hk
  | cons q N ih =>
    cases k with
    | zero => rfl
    | succ k =>
      have ih := ih k (by simpa using hk)
      show (Value.int .i64 q.1 :: Value.int .i64 q.2 :: cellsN N).set ((k + 1) * 2 + 0) _ = Value.int .i64 q.1 :: Value.int .i64 q.2 :: cellsN (N.set k _)
      rw [Nat.add_zero] at ih
      rw [show (k + 1) * 2 + 0 = k * 2 + 1 + 1 by omega, List.set_cons_succ, List.set_cons_succ, ih]
      rfl
theorem cellsN_set1 (N : List RN) (k : Nat) (hk : k < N.length) (x : Int) : (cellsN N).set (k * 2 + 1) (.int .i64 x) = cellsN (N.set k (N[k].1, x)) := by
  induction N generalizing k with
  | nil => simp at hk
  | cons q N ih =>
    cases k with
    | zero => rfl
    | succ k =>
      have ih := ih k (by simpa using hk)
      show (Value.int .i64 q.1 :: Value.int .i64 q.2 :: cellsN N).set ((k + 1) * 2 + 1) _ = Value.int .i64 q.1 :: Value.int .i64 q.2 :: cellsN (N.set k _)
      rw [show (k + 1) * 2 + 1 = (k * 2 + 1) + 1 + 1 by omega, List.set_cons_succ, List.set_cons_succ, ih]
      rfl
theorem cellsN_take (N : List RN) (k : Nat) : (cellsN N).take (k * 2) = cellsN (N.take k) := by
  induction N generalizing k with
  | nil => simp [cellsN]
  | cons q N ih =>
    cases k with
    | zero => simp [cellsN]
    | succ k =>
      rw [cellsN_cons, List.take_succ_cons, cellsN_cons, ← ih k, show (k + 1) * 2 = (rcell q).length + k * 2 by show _ = 2 + k * 2; omega, List.take_length_add_append]
theorem cellsN_drop (N : List RN) (k : Nat) : (cellsN N).drop (k * 2) = cellsN (N.drop k) := by
  induction N generalizing k with
  | nil => simp [cellsN]
  | cons q N ih =>
    cases k with
    | zero => simp
    | succ k =>
      rw [cellsN_cons, List.drop_succ_cons, ← ih k, show (k + 1) * 2 = (rcell q).length + k * 2 by show _ = 2 + k * 2; omega, List.drop_length_add_append]
theorem cellsN_cell (N : List RN) : ∀ u ∈ cellsN N, isCell u = true := fun u hu => by
  obtain ⟨q, _, hq⟩ := List.mem_flatMap.1 hu
  simp only [rcell, List.mem_cons, List.not_mem_nil, or_false] at hq
  rcases hq with rfl | rfl <;> rfl
theorem iBs5D {w : World} {e : TypeId} {a b c d f : Int} {K : Value → World → Prop} (h : ∀ bb w', bb = w.heap.size ∧ w'.heap.size = bb + 1 → Ext w w' → Blk e w' bb (ints [a, b, c, d, f]) → K (.slice (some ⟨bb, 0, none⟩) 5 5) w') :
    xBs e (Value.cells (.int .i64 0)) 1 5 [(0, .int .i64 a), (1, .int .i64 b), (2, .int .i64 c), (3, .int .i64 d), (4, .int .i64 f)] w K := by
  refine ⟨#[.int .i64 a, .int .i64 b, .int .i64 c, .int .i64 d, .int .i64 f], ?_, h _ _ ⟨rfl, by simp⟩ (Ext.alloc w _) (Blk.new w #[.int .i64 a, .int .i64 b, .int .i64 c, .int .i64 d, .int .i64 f] e)⟩
  simp [Instr.fill, Value.cells, show Array.range 5 = #[0, 1, 2, 3, 4] from rfl]
end Go.Vc
namespace Go.Proofs.YtapdkkijoflcpaaGreatDoor
open Go.Vc
theorem ok_spec_l02Draw {e : TypeId} (hneN : t_impl_Node ≠ e) {w0 : World} {vc : Value} {bs : List Nat} (hc : SlB w0 vc bs) {b k : Nat} (hk : 1 ≤ k ∧ k ≤ 6) (m : Bool) : ∀ (n : Nat) {w : World}, Vc.Src e w0 vc b w → 1 ≤ n → n ≤ 1000 →
    Drw Tryz.prog f_spec_l02Draw #[.pointer (some ⟨b, 0, none⟩), .int .i64 (n : Int), .int .i64 (k : Int), .bool m] e w0 vc b w fun r w' => ∃ f : Fm, f.good ∧ f.size ≤ n ∧ FmW w.heap.size w' r f := by
  intro n
  induction n using Nat.strongRecOn with
  | _ n ih =>
  intro w hS hn1 hn2
  apply c_spec_l02Draw; unfold S_spec_l02Draw
  refine iJnX (fun xs w' => (∃ t, xs = [.bool t] ∧ (t = false → 3 ≤ n)) ∧ Vc.Src e w0 vc b w' ∧ Ch (fun c => c = b) w w') (fun J hJ => ?_) ?_
  · refine iLe (iCndP (fun h => ?_) (fun h => ?_))
    · exact hJ _ _ ⟨⟨true, rfl, fun h => by cases h⟩, hS, (Ext.refl w).ch⟩
    · refine iCall ((ok_spec_l01Next hc hS 9).mono ?_)
      rintro _ w3 ⟨⟨x, rfl, _, _⟩, hS3, hch3⟩
      refine iEq ?_
      exact hJ _ _ ⟨⟨_, rfl, fun _ => by omega⟩, hS3, hch3⟩
  rintro _ w2 ⟨⟨t, rfl, ht⟩, hS2, hC2⟩
  intro _
  cases t with
  | true =>
    refine iCndT rfl ?_
    refine iCall ((ok_spec_l01Next hc hS2 8).mono ?_)
    rintro _ w4 ⟨⟨x, rfl, _, _⟩, hS4, hch4⟩
    have hC4 := ch_self hC2 hch4
    refine iEq (iCndP (fun _ => ?_) (fun _ => ?_))
    · refine iCall ((ok_spec_l02False w4).mono ?_)
      rintro u w5 ⟨x5, h5⟩
      exact ⟨⟨.fls, trivial, hn1, OwK.mono h5 hC4.size⟩, hS4.later x5, ch_ext hC4 x5⟩
    · refine iCall ((ok_spec_l01Next hc hS4 k).mono ?_)
      rintro _ w6 ⟨⟨y, rfl, hy, _⟩, hS6, hch6⟩
      have hy := hy (by omega)
      refine iCall ((ok_spec_l02Var y w6).mono ?_)
      rintro u w7 ⟨x7, h7⟩
      have hC6 := ch_self hC4 hch6
      exact ⟨⟨.var y, show y < 6 by omega, hn1, OwK.mono h7 hC6.size⟩, hS6.later x7, ch_ext hC6 x7⟩
  | false =>
    refine iCndF rfl ?_
    have h3 := ht rfl
    refine iJnX (fun xs w' => (∃ t, xs = [.bool t]) ∧ Vc.Src e w0 vc b w' ∧ Ch (fun c => c = b) w w') (fun J hJ => ?_) ?_
    · cases m with
      | true =>
        refine iCndT rfl ?_
        refine iCall ((ok_spec_l01Next hc hS2 3).mono ?_)
        rintro _ w10 ⟨⟨x, rfl, _, _⟩, hS10, hch10⟩
        refine iEq ?_
        exact hJ _ _ ⟨⟨_, rfl⟩, hS10, ch_self hC2 hch10⟩
      | false => exact iCndF rfl (hJ _ _ ⟨⟨_, rfl⟩, hS2, hC2⟩)
    rintro _ w9 ⟨⟨t, rfl⟩, hS9, hC9⟩
    intro _
    cases t with
    | true =>
      refine iCndT rfl ?_
      refine iCall ((ok_spec_l01Next hc hS9 2).mono ?_)
      rintro _ w11 ⟨⟨y, rfl, hy, _⟩, hS11, hch11⟩
      have hy := hy (by omega)
      have hC11 := ch_self hC9 hch11
      refine iAdd (by omega) (iSub (by omega) ?_)
      rw [show (5 : Int) + (y : Int) = ((5 + y : Nat) : Int) by omega, show (n : Int) - 1 = ((n - 1 : Nat) : Int) by omega]
      refine iCall ((ih (n - 1) (by omega) hS11 (by omega) (by omega)).mono ?_)
      rintro u w12 ⟨⟨a, ga, sa, ha⟩, hS12, hch12⟩
      have hC12 := ch_self hC11 hch12
      refine iCall ((ok_spec_l02Pre (c := preF y a) (preF_cells (by omega) a) (preF_size y a) ha.sl (by rw [preF_size]; omega)).mono ?_)
      rintro r w13 ⟨x13, hr⟩
      exact ⟨⟨preF y a, preF_good y ga, by rw [preF_size]; omega, OwK.mono hr hC12.size⟩, hS12.later x13, ch_ext hC12 x13⟩
    | false =>
      refine iCndF rfl ?_
      refine iCall ((ok_spec_l01Next hc hS9 6).mono ?_)
      rintro _ w14 ⟨⟨y, rfl, _, _⟩, hS14, hch14⟩
      have hC14 := ch_self hC9 hch14
      refine iEq (iCndP (fun _ => ?_) (fun _ => ?_))
      · refine iSub (by omega) ?_
        rw [show (n : Int) - 2 = ((n - 2 : Nat) : Int) by omega]
        refine iCall ((ih (n - 2) (by omega) hS14 (by omega) (by omega)).mono ?_)
        rintro u w15 ⟨⟨a, ga, sa, ha⟩, hS15, hch15⟩
        have hC15 := ch_self hC14 hch15
        refine iCall ((ok_spec_l02Not ha.sl (by omega)).mono ?_)
        rintro r w16 ⟨x16, hr⟩
        exact ⟨⟨.imp a .fls, ⟨ga, trivial⟩, by show 1 + a.size + 1 ≤ n; omega, OwK.mono hr hC15.size⟩, hS15.later x16, ch_ext hC15 x16⟩
      · refine iSub (by omega) ?_
        refine iCall ((ok_spec_l01Next hc hS14 _).mono ?_)
        rintro _ w17 ⟨⟨z, rfl, hz, _⟩, hS17, hch17⟩
        have hz := hz (by omega)
        have hC17 := ch_self hC14 hch17
        refine iAdd (by omega) ?_
        rw [show (1 : Int) + (z : Int) = ((1 + z : Nat) : Int) by omega]
        refine iCall ((ih (1 + z) (by omega) hS17 (by omega) (by omega)).mono ?_)
        rintro u w18 ⟨⟨a, ga, sa, ha⟩, hS18, hch18⟩
        have hC18 := ch_self hC17 hch18
        refine iCall ((ok_spec_l01Next hc hS18 3).mono ?_)
        rintro _ w19 ⟨⟨q, rfl, hq, _⟩, hS19, hch19⟩
        have hq := hq (by omega)
        have hC19 := ch_self hC18 hch19
        have ha19 := OwK.src ha hS18 hneN hch19
        refine iAdd (by omega) (iSub (by omega) (iSub (by omega) ?_))
        rw [show (2 : Int) + (q : Int) = ((2 + q : Nat) : Int) by omega, show (n : Int) - 1 - ((1 + z : Nat) : Int) = ((n - 1 - (1 + z) : Nat) : Int) by omega]
        refine iCall ((ih (n - 1 - (1 + z)) (by omega) hS19 (by omega) (by omega)).mono ?_)
        rintro u2 w20 ⟨⟨a2, ga2, sa2, ha2⟩, hS20, hch20⟩
        have hC20 := ch_self hC19 hch20
        have ha20 := OwK.src ha19 hS19 hneN hch20
        refine iCall ((ok_spec_l02Pair (c := binF q a a2) (binF_cells (by omega) a a2) (binF_size q a a2) ha20.sl ha2.sl (by rw [binF_size]; omega)).mono ?_)
        rintro r w21 ⟨x21, hr⟩
        exact ⟨⟨binF q a a2, binF_good q ga ga2, by rw [binF_size]; omega, OwK.mono hr hC20.size⟩, hS20.later x21, ch_ext hC20 x21⟩
theorem ok_spec_l02OwnD {va : Value} {w : World} {N : List RN} (ha : RawS w va N) (hsz : N.length ≤ 1000000) : Cal Tryz.prog f_spec_l02Own #[va] w fun r w' => Ext w w' ∧ RawW w.heap.size t_impl_Node w' r N := by
  apply c_spec_l02Own; unfold S_spec_l02Own
  refine iBsA0 fun u w1 _ x1 ho => ?_
  refine iAppK u_Simpl_Node i_Simpl_Node rfl (by omega) ho (SlK.ext ha x1) (cellsN_cell N) (by omega) (by omega) x1.size fun v2 w2 ho2 hg2 _ => ?_
  refine ⟨x1.grown hg2 fun c hc => (ho.blk c hc).1, ?_⟩
  show OwK 2 _ _ w2 v2 _ _
  rw [Nat.zero_add, List.nil_append] at ho2
  exact ho2
theorem ok_spec_l02Bend {e : TypeId} (hneN : t_impl_Node ≠ e) {w0 : World} {vc : Value} {bs : List Nat} (hc : SlB w0 vc bs) {b : Nat} {w : World} (hS : Vc.Src e w0 vc b w) {va : Value} {N : List RN} (ha : RawS w va N) (hN : 1 ≤ N.length ∧ N.length ≤ 1000) :
    Drw Tryz.prog f_spec_l02Bend #[.pointer (some ⟨b, 0, none⟩), va] e w0 vc b w fun r w' => ∃ M : List RN, M.length ≤ N.length + 1 ∧ RawW w.heap.size t_impl_Node w' r M := by
  apply c_spec_l02Bend; unfold S_spec_l02Bend
  have hlow := hS.ext.size
  refine iCall ((ok_spec_l02OwnD ha (by omega)).mono ?_)
  rintro v w1 ⟨x1, ho1⟩
  have hS1 := hS.later x1
  have hC1 : Ch (fun c => c = b) w w1 := x1.ch (S := fun c => c = b)
  refine iLenK ho1.sl ?_
  refine iCall ((ok_spec_l01Next hc hS1 _).mono ?_)
  rintro _ w2 ⟨⟨k, rfl, hk, _⟩, hS2, hch2⟩
  have hk := hk (by omega)
  have hkN : k < N.length := by omega
  have ho2 := OwK.src ho1 hS1 hneN hch2
  have hC2 := ch_self hC1 hch2
  refine iCall ((ok_spec_l01Next hc hS2 5).mono ?_)
  rintro _ w3 ⟨⟨x, rfl, _, _⟩, hS3, hch3⟩
  have ho3 := OwK.src ho2 hS2 hneN hch3
  have hC3 := ch_self hC2 hch3
  have turn : ∀ {w' w'' : World} {xs : List Value}, OwK 2 w.heap.size t_impl_Node w' v N.length xs → Vc.Src e w0 vc b w' → Ch (fun c => c = b) w w' → Ch (fun c => v.ownBlock = some c) w' w'' → Vc.Src e w0 vc b w'' ∧ Ch (fun c => c = b) w w'' := fun ho gS gC k =>
    ⟨gS.ch k (fun h => ho.ne_src gS hneN h) fun c hc => by have := (ho.blk c hc).1; omega, gC.trans k fun c hc => .inr (ho.blk c hc).1⟩
  refine iEq (iCndP (fun _ => ?_) (fun _ => ?_))
  · refine iCall ((ok_spec_l01Next hc hS3 9).mono ?_)
    rintro _ w4 ⟨⟨y, rfl, hy, _⟩, hS4, hch4⟩
    have hy := hy (by omega)
    have ho4 := OwK.src ho3 hS3 hneN hch4
    have hC4 := ch_self hC3 hch4
    refine iSub (by omega) ?_
    refine iStFX (f := 0) ho4 rfl hkN (by decide) rfl fun w5 ho5 hch5 => ?_
    rw [cellsN_set0 N k hkN] at ho5
    obtain ⟨gS, gC⟩ := turn ho4 hS4 hC4 hch5
    exact ⟨⟨N.set k (_, N[k].2), by rw [List.length_set]; omega, by show OwK 2 _ _ _ _ (N.set k _).length _; rw [List.length_set]; exact ho5⟩, gS, gC⟩
  refine iEq (iCndP (fun _ => ?_) (fun _ => ?_))
  · refine iBs5D fun q w6 hq x6 hB => ?_
    have hS6 := hS3.later x6
    refine iCall ((ok_spec_l01Pick hc hS6 (l := [-1, 0, 1, 5, 6]) rfl hB (by have := hS3.lt; omega) (by decide) (by decide)).mono ?_)
    rintro _ w7 ⟨⟨y, rfl, _⟩, hS7, hch7⟩
    have ho7 := OwK.src (ho3.ext x6) hS6 hneN hch7
    have hC7 := ch_self (ch_ext hC3 x6) hch7
    refine iStFX (f := 1) ho7 rfl hkN (by decide) rfl fun w8 ho8 hch8 => ?_
    rw [cellsN_set1 N k hkN] at ho8
    obtain ⟨gS, gC⟩ := turn ho7 hS7 hC7 hch8
    exact ⟨⟨N.set k (N[k].1, _), by rw [List.length_set]; omega, by show OwK 2 _ _ _ _ (N.set k _).length _; rw [List.length_set]; exact ho8⟩, gS, gC⟩
  refine iEq (iCndP (fun _ => ?_) (fun _ => ?_))
  · refine iCall ((ok_spec_l01Next hc hS3 7).mono ?_)
    rintro _ w9 ⟨⟨y, rfl, _, _⟩, hS9, hch9⟩
    have ho9 := OwK.src ho3 hS3 hneN hch9
    have hC9 := ch_self hC3 hch9
    refine iBuild1 rfl ?_
    refine iBsA fun q w10 hq x10 hB => ?_
    have ho10 := ho9.ext x10
    have hC10 := ch_ext hC9 x10
    refine iAppK u_Simpl_Node i_Simpl_Node rfl (by omega) ho10 (node_one hq hB).sl (fun u hu => ?_) (by omega) (by omega) hC10.size fun v11 w11 ho11 hg11 _ => ?_
    · simp only [List.mem_cons, List.not_mem_nil, or_false] at hu
      rcases hu with rfl | rfl <;> rfl
    obtain ⟨gS, gC⟩ := turn ho10 (hS9.later x10) hC10 (grown_ch (S := fun c => v.ownBlock = some c) hg11 fun c hc => hc)
    refine ⟨⟨N ++ [((y : Int), 0)], by simp, ?_⟩, gS, gC⟩
    show OwK 2 _ _ _ _ (N ++ [_]).length _
    rw [List.length_append, cellsN_app]
    exact ho11
  have hpos : 0 < N.length := by omega
  refine iEq (iCndP (fun _ => ?_) (fun _ => ?_))
  · obtain ⟨g, cap, cur, rfl, hg, hcap, hR, hcur⟩ := ho3.rx hpos
    refine iHX (by omega) ?_
    refine ⟨⟨N.take k, by rw [List.length_take]; omega, ?_⟩, hS3, hC3⟩
    have hlt : (N.take k).length = k := by rw [List.length_take]; omega
    show OwK 2 _ _ _ _ (N.take k).length _
    rw [hlt]
    refine hR.own hg (by omega) ?_
    rw [← cellsN_take, ← hcur, List.take_take, Nat.min_eq_left (by omega)]
  refine iEq (iCndP (fun _ => ?_) (fun _ => ?_))
  · obtain ⟨g, cap, cur, rfl, hg, hcap, hR, hcur⟩ := ho3.rx hpos
    refine iHX (by omega) ?_
    refine iAdd (by omega) ?_
    have hsl := ho3.sl
    refine iTY (i := k + 1) hsl (by omega) (by omega) fun v' hv' => ?_
    rw [cellsN_drop] at hv'
    intro w12 x12
    refine iAppRx (i := k) (m := N.length - (k + 1)) u_Simpl_Node i_Simpl_Node (hR.ext x12) (hv'.ext x12) (cellsN_cell _) (by omega) fun w13 hR13 hch13 => ?_
    intro w14 x14
    have hR14 := hR13.ext x14
    have ho12 := ho3.ext x12
    obtain ⟨gS, gC⟩ := turn ho12 (hS3.later x12) (ch_ext hC3 x12) (w'' := w13) (hch13.mono fun c hc => by rw [hc]; rfl)
    have hld : (N.drop (k + 1)).length = N.length - (k + 1) := List.length_drop
    have hlt : (N.take k ++ N.drop (k + 1)).length = k + (N.length - (k + 1)) := by rw [List.length_append, List.length_take, hld]; omega
    refine ⟨⟨N.take k ++ N.drop (k + 1), by rw [hlt]; omega, ?_⟩, gS.later x14, ch_ext gC x14⟩
    show OwK 2 _ _ _ _ (N.take k ++ N.drop (k + 1)).length _
    rw [hlt]
    refine hR14.own hg (by omega) ?_
    have hcl := hR.2.1
    have hdl : (cellsN (N.drop (k + 1))).length = (N.length - (k + 1)) * 2 := by rw [cellsN_len, hld]
    rw [putX_take (by rw [hdl]; omega) (by rw [hdl]; omega), cellsN_app, ← cellsN_take, ← hcur, List.take_take, Nat.min_eq_left (by omega)]
  · exact ⟨⟨N, by omega, ho3⟩, hS3, hC3⟩
end Go.Proofs.YtapdkkijoflcpaaGreatDoor

/- Contracts: the readers of formulas in the program and the reference say what the grammar says. Conditions: none. -/
namespace Go.Vc
theorem fl0 : fl 0 = 4 := rfl
theorem fl1 : fl 1 = 3 := rfl
theorem fl2 : fl 2 = 2 := rfl
theorem fl3 : fl 3 = 1 := rfl
theorem vl_nat : ∀ v, v < 6 → (vl v).toNat = 112 + v
  | 0, _ => rfl
  | 1, _ => rfl
  | 2, _ => rfl
  | 3, _ => rfl
  | 4, _ => rfl
  | 5, _ => rfl
  | v + 6, h => by omega
theorem vl_inj {v u : Nat} (hv : v < 6) (hu : u < 6) (h : vl v = vl u) : v = u := by
  have := congrArg UInt8.toNat h
  rw [vl_nat v hv, vl_nat u hu] at this; omega
theorem vl_other {v : Nat} (hv : v < 6) {d : UInt8} (h : d.toNat < 112 ∨ 117 < d.toNat) : vl v ≠ d := by
  rintro rfl
  rw [vl_nat v hv] at h; omega
/-- What reading at a level does. -/
abbrev ReadQ (e : TypeId) (b : Nat) (t : Str) (nodeT : TypeId) (r : Fm × RSt) (w : World) (v : Value) (w' : World) : Prop := RdS e b t r.2 w' ∧ Ch (fun x => x = b) w w' ∧ OwK 2 w.heap.size nodeT w' v r.1.size r.1.cells
theorem rdS_ne {e : TypeId} {b : Nat} {t : Str} {s : RSt} {w w1 : World} {lo : Nat} {e' : TypeId} {v : Value} {n : Nat} {xs : List Value} (h : RdS e b t s w) (ho : OwK 2 lo e' w1 v n xs) (hlo : w.heap.size ≤ lo) : ∀ c, v.ownBlock = some c → ¬ c = b := fun c hc hb => by
  have := (ho.blk c hc).1; have := h.lt; omega
end Go.Vc
namespace Go.Proofs.YtapdkkijoflcpaaGreatDoor
open Go.Vc
/-- A function reads at level lv, for texts that need no more than m. -/
def Rds (f : FuncId) (lv m : Nat) : Prop := ∀ (e : TypeId) (b : Nat) (t : Str) (s : RSt) (w : World), t.length ≤ 4194304 → RdS e b t s w → 8 * s.1.length + fl lv ≤ m → Cal Tryz.prog f #[.pointer (some ⟨b, 0, none⟩)] w (ReadQ e b t t_impl_Node (rdL lv .fls s) w)
theorem rd_impl_reader_imply {m : Nat} (hor : Rds f_impl_reader_or 1 m) (him : Rds f_impl_reader_imply 0 m) : Rds f_impl_reader_imply 0 (m + 1) := by
  intro e b t s w ht h hm
  rw [fl0] at hm
  apply c_impl_reader_imply; unfold S_impl_reader_imply
  refine iCall ((hor e b t s w ht h (by rw [fl1]; omega)).mono ?_)
  rintro v w1 ⟨h1, hc1, ho1⟩
  have hlen := rdL_len 1 .fls s
  have hz := rdL_size 1 .fls s
  have htl := h.len
  rw [rdL0]
  refine iCall ((ok_impl_reader_take 62 (by decide) (by omega) h1).mono ?_)
  rintro _ w2 ⟨rfl, h2, hc2⟩
  have ho2 := ho1.ch hc2 (rdS_ne h ho1 (Nat.le_refl _))
  cases hk : tk 62 (rdL 1 .fls s).2
  · rw [hk, if_neg (by decide)] at h2
    exact iCndF rfl ⟨h2, ch_self hc1 hc2, ho2⟩
  · rw [hk, if_pos rfl] at h2
    have hnx := nx_len hk
    rw [if_pos rfl]
    refine iCndT rfl ?_
    refine iCall ((him e b t _ w2 ht h2 (by rw [fl0]; omega)).mono ?_)
    rintro v3 w3 ⟨h3, hc3, ho3⟩
    have hz3 := rdL_size 0 .fls (nx (rdL 1 .fls s).2)
    have hf : Fm.fls.size = 1 := rfl
    have ho23 := ho2.ch hc3 (rdS_ne h ho2 (Nat.le_refl _))
    have hsz : (Fm.imp (rdL 1 .fls s).1 (rdL 0 .fls (nx (rdL 1 .fls s).2)).1).size ≤ 1099511627776 := by
      show 1 + _ + _ ≤ _; omega
    refine iCall ((ok_impl_join (c := .imp (rdL 1 .fls s).1 (rdL 0 .fls (nx (rdL 1 .fls s).2)).1) (k := 4) rfl rfl ho23.sl ho3.sl hsz).mono ?_)
    rintro v4 w4 ⟨h4, ho4⟩
    have hcc := ch_self hc1 (ch_self hc2 hc3)
    exact ⟨h3.ext h4, ch_ext hcc h4, ho4.mono hcc.size⟩
theorem rd_spec_l02Imply {m : Nat} (hor : Rds f_spec_l02Or 1 m) (him : Rds f_spec_l02Imply 0 m) : Rds f_spec_l02Imply 0 (m + 1) := by
  intro e b t s w ht h hm
  rw [fl0] at hm
  apply c_spec_l02Imply; unfold S_spec_l02Imply
  refine iCall ((hor e b t s w ht h (by rw [fl1]; omega)).mono ?_)
  rintro v w1 ⟨h1, hc1, ho1⟩
  have hlen := rdL_len 1 .fls s
  have hz := rdL_size 1 .fls s
  have htl := h.len
  rw [rdL0]
  refine iCall ((ok_spec_l02Take 62 (by decide) (by omega) h1).mono ?_)
  rintro _ w2 ⟨rfl, h2, hc2⟩
  have ho2 := ho1.ch hc2 (rdS_ne h ho1 (Nat.le_refl _))
  cases hk : tk 62 (rdL 1 .fls s).2
  · rw [hk, if_neg (by decide)] at h2
    exact iCndF rfl ⟨h2, ch_self hc1 hc2, ho2⟩
  · rw [hk, if_pos rfl] at h2
    have hnx := nx_len hk
    rw [if_pos rfl]
    refine iCndT rfl ?_
    refine iCall ((him e b t _ w2 ht h2 (by rw [fl0]; omega)).mono ?_)
    rintro v3 w3 ⟨h3, hc3, ho3⟩
    have hz3 := rdL_size 0 .fls (nx (rdL 1 .fls s).2)
    have hf : Fm.fls.size = 1 := rfl
    have ho23 := ho2.ch hc3 (rdS_ne h ho2 (Nat.le_refl _))
    have hsz : (Fm.imp (rdL 1 .fls s).1 (rdL 0 .fls (nx (rdL 1 .fls s).2)).1).size ≤ 1099511627776 := by
      show 1 + _ + _ ≤ _; omega
    refine iCall ((ok_spec_l02Pair (c := .imp (rdL 1 .fls s).1 (rdL 0 .fls (nx (rdL 1 .fls s).2)).1) (k := 4) rfl rfl ho23.sl ho3.sl hsz).mono ?_)
    rintro v4 w4 ⟨h4, ho4⟩
    have hcc := ch_self hc1 (ch_self hc2 hc3)
    exact ⟨h3.ext h4, ch_ext hcc h4, ho4.mono hcc.size⟩
theorem rd_impl_reader_or {m : Nat} (hsub : Rds f_impl_reader_and 2 m) : Rds f_impl_reader_or 1 (m + 1) := by
  intro e b t s w ht h hm
  rw [fl1] at hm
  apply c_impl_reader_or; unfold S_impl_reader_or
  refine iCall ((hsub e b t s w ht h (by rw [fl2]; omega)).mono ?_)
  rintro v w1 ⟨h1, hc1, ho1⟩
  have hlen := rdL_len 2 .fls s
  have hz := rdL_size 2 .fls s
  have htl := h.len
  have hf : Fm.fls.size = 1 := rfl
  rw [rdL1]
  refine iLp (fun q : Value × Fm × RSt => [q.1]) (fun q w' => RdS e b t q.2.2 w' ∧ Ch (fun x => x = b) w w' ∧ OwK 2 w.heap.size t_impl_Node w' q.1 q.2.1.size q.2.1.cells ∧ rdL 4 q.2.1 q.2.2 = rdL 4 (rdL 2 .fls s).1 (rdL 2 .fls s).2 ∧ q.2.2.1.length ≤ s.1.length ∧ q.2.1.size + 3 * q.2.2.1.length ≤ 1 + 3 * s.1.length) (fun q => q.2.2.1.length) (v, rdL 2 .fls s) rfl
    ⟨h1, hc1, ho1, rfl, hlen, by show (rdL 2 .fls s).1.size + 3 * (rdL 2 .fls s).2.1.length ≤ _; omega⟩ ?_
  rintro ⟨v, a, q⟩ w3 Kn ⟨h3, hc3, ho3, hq, hql, hqs⟩ hKn
  have h3 : RdS e b t q w3 := h3
  have ho3 : OwK 2 w.heap.size t_impl_Node w3 v a.size a.cells := ho3
  have hq : rdL 4 a q = _ := hq
  have hql : q.1.length ≤ s.1.length := hql
  have hqs : a.size + 3 * q.1.length ≤ 1 + 3 * s.1.length := hqs
  intro _
  refine iCall ((ok_impl_reader_take 124 (by decide) (by omega) h3).mono ?_)
  rintro _ w4 ⟨rfl, h4, hc4⟩
  have ho4 := ho3.ch hc4 (rdS_ne h ho3 (Nat.le_refl _))
  rw [← hq, rdL4]
  cases hk : tk 124 q
  · rw [hk, if_neg (by decide)] at h4
    rw [if_neg (by decide)]
    exact iCndF rfl ⟨h4, ch_self hc3 hc4, ho4⟩
  · rw [hk, if_pos rfl] at h4
    have hnx := nx_len hk
    rw [if_pos rfl]
    refine iCndT rfl ?_
    refine iCall ((hsub e b t _ w4 ht h4 (by rw [fl2]; omega)).mono ?_)
    rintro v5 w5 ⟨h5, hc5, ho5⟩
    have hz5 := rdL_size 2 .fls (nx q)
    have hl5 := rdL_len 2 .fls (nx q)
    have ho45 := ho4.ch hc5 (rdS_ne h ho4 (Nat.le_refl _))
    have hsz : (Fm.or a (rdL 2 .fls (nx q)).1).size ≤ 1099511627776 := by
      show 1 + _ + _ ≤ _; omega
    refine iCall ((ok_impl_join (c := .or a (rdL 2 .fls (nx q)).1) (k := 3) rfl rfl ho45.sl ho5.sl hsz).mono ?_)
    rintro v6 w6 ⟨h6, ho6⟩
    have hcc := ch_self hc3 (ch_self hc4 hc5)
    have e1 : rdL 4 (rdL 2 .fls s).1 (rdL 2 .fls s).2 = rdL 4 (.or a (rdL 2 .fls (nx q)).1) (rdL 2 .fls (nx q)).2 := by rw [← hq, rdL4, if_pos hk]
    refine hKn (v6, .or a (rdL 2 .fls (nx q)).1, (rdL 2 .fls (nx q)).2) _ ⟨h5.ext h6, ch_ext hcc h6, ho6.mono hcc.size, e1.symm, by show (rdL 2 .fls (nx q)).2.1.length ≤ _; omega, ?_⟩ (by show (rdL 2 .fls (nx q)).2.1.length < q.1.length; omega)
    show 1 + a.size + (rdL 2 .fls (nx q)).1.size + 3 * (rdL 2 .fls (nx q)).2.1.length ≤ _
    omega
theorem rd_impl_reader_and {m : Nat} (hsub : Rds f_impl_reader_prefix 3 m) : Rds f_impl_reader_and 2 (m + 1) := by
  intro e b t s w ht h hm
  rw [fl2] at hm
  apply c_impl_reader_and; unfold S_impl_reader_and
  refine iCall ((hsub e b t s w ht h (by rw [fl3]; omega)).mono ?_)
  rintro v w1 ⟨h1, hc1, ho1⟩
  have hlen := rdL_len 3 .fls s
  have hz := rdL_size 3 .fls s
  have htl := h.len
  have hf : Fm.fls.size = 1 := rfl
  rw [rdL2]
  refine iLp (fun q : Value × Fm × RSt => [q.1]) (fun q w' => RdS e b t q.2.2 w' ∧ Ch (fun x => x = b) w w' ∧ OwK 2 w.heap.size t_impl_Node w' q.1 q.2.1.size q.2.1.cells ∧ rdL 5 q.2.1 q.2.2 = rdL 5 (rdL 3 .fls s).1 (rdL 3 .fls s).2 ∧ q.2.2.1.length ≤ s.1.length ∧ q.2.1.size + 3 * q.2.2.1.length ≤ 1 + 3 * s.1.length) (fun q => q.2.2.1.length) (v, rdL 3 .fls s) rfl
    ⟨h1, hc1, ho1, rfl, hlen, by show (rdL 3 .fls s).1.size + 3 * (rdL 3 .fls s).2.1.length ≤ _; omega⟩ ?_
  rintro ⟨v, a, q⟩ w3 Kn ⟨h3, hc3, ho3, hq, hql, hqs⟩ hKn
  have h3 : RdS e b t q w3 := h3
  have ho3 : OwK 2 w.heap.size t_impl_Node w3 v a.size a.cells := ho3
  have hq : rdL 5 a q = _ := hq
  have hql : q.1.length ≤ s.1.length := hql
  have hqs : a.size + 3 * q.1.length ≤ 1 + 3 * s.1.length := hqs
  intro _
  refine iCall ((ok_impl_reader_take 38 (by decide) (by omega) h3).mono ?_)
  rintro _ w4 ⟨rfl, h4, hc4⟩
  have ho4 := ho3.ch hc4 (rdS_ne h ho3 (Nat.le_refl _))
  rw [← hq, rdL5]
  cases hk : tk 38 q
  · rw [hk, if_neg (by decide)] at h4
    rw [if_neg (by decide)]
    exact iCndF rfl ⟨h4, ch_self hc3 hc4, ho4⟩
  · rw [hk, if_pos rfl] at h4
    have hnx := nx_len hk
    rw [if_pos rfl]
    refine iCndT rfl ?_
    refine iCall ((hsub e b t _ w4 ht h4 (by rw [fl3]; omega)).mono ?_)
    rintro v5 w5 ⟨h5, hc5, ho5⟩
    have hz5 := rdL_size 3 .fls (nx q)
    have hl5 := rdL_len 3 .fls (nx q)
    have ho45 := ho4.ch hc5 (rdS_ne h ho4 (Nat.le_refl _))
    have hsz : (Fm.and a (rdL 3 .fls (nx q)).1).size ≤ 1099511627776 := by
      show 1 + _ + _ ≤ _; omega
    refine iCall ((ok_impl_join (c := .and a (rdL 3 .fls (nx q)).1) (k := 2) rfl rfl ho45.sl ho5.sl hsz).mono ?_)
    rintro v6 w6 ⟨h6, ho6⟩
    have hcc := ch_self hc3 (ch_self hc4 hc5)
    have e1 : rdL 5 (rdL 3 .fls s).1 (rdL 3 .fls s).2 = rdL 5 (.and a (rdL 3 .fls (nx q)).1) (rdL 3 .fls (nx q)).2 := by rw [← hq, rdL5, if_pos hk]
    refine hKn (v6, .and a (rdL 3 .fls (nx q)).1, (rdL 3 .fls (nx q)).2) _ ⟨h5.ext h6, ch_ext hcc h6, ho6.mono hcc.size, e1.symm, by show (rdL 3 .fls (nx q)).2.1.length ≤ _; omega, ?_⟩ (by show (rdL 3 .fls (nx q)).2.1.length < q.1.length; omega)
    show 1 + a.size + (rdL 3 .fls (nx q)).1.size + 3 * (rdL 3 .fls (nx q)).2.1.length ≤ _
    omega
theorem rd_spec_l02Or {m : Nat} (hsub : Rds f_spec_l02And 2 m) : Rds f_spec_l02Or 1 (m + 1) := by
  intro e b t s w ht h hm
  rw [fl1] at hm
  apply c_spec_l02Or; unfold S_spec_l02Or
  refine iCall ((hsub e b t s w ht h (by rw [fl2]; omega)).mono ?_)
  rintro v w1 ⟨h1, hc1, ho1⟩
  have hlen := rdL_len 2 .fls s
  have hz := rdL_size 2 .fls s
  have htl := h.len
  have hf : Fm.fls.size = 1 := rfl
  rw [rdL1]
  refine iLp (fun q : Value × Fm × RSt => [q.1]) (fun q w' => RdS e b t q.2.2 w' ∧ Ch (fun x => x = b) w w' ∧ OwK 2 w.heap.size t_impl_Node w' q.1 q.2.1.size q.2.1.cells ∧ rdL 4 q.2.1 q.2.2 = rdL 4 (rdL 2 .fls s).1 (rdL 2 .fls s).2 ∧ q.2.2.1.length ≤ s.1.length ∧ q.2.1.size + 3 * q.2.2.1.length ≤ 1 + 3 * s.1.length) (fun q => q.2.2.1.length) (v, rdL 2 .fls s) rfl
    ⟨h1, hc1, ho1, rfl, hlen, by show (rdL 2 .fls s).1.size + 3 * (rdL 2 .fls s).2.1.length ≤ _; omega⟩ ?_
  rintro ⟨v, a, q⟩ w3 Kn ⟨h3, hc3, ho3, hq, hql, hqs⟩ hKn
  have h3 : RdS e b t q w3 := h3
  have ho3 : OwK 2 w.heap.size t_impl_Node w3 v a.size a.cells := ho3
  have hq : rdL 4 a q = _ := hq
  have hql : q.1.length ≤ s.1.length := hql
  have hqs : a.size + 3 * q.1.length ≤ 1 + 3 * s.1.length := hqs
  intro _
  refine iCall ((ok_spec_l02Take 124 (by decide) (by omega) h3).mono ?_)
  rintro _ w4 ⟨rfl, h4, hc4⟩
  have ho4 := ho3.ch hc4 (rdS_ne h ho3 (Nat.le_refl _))
  rw [← hq, rdL4]
  cases hk : tk 124 q
  · rw [hk, if_neg (by decide)] at h4
    rw [if_neg (by decide)]
    exact iCndF rfl ⟨h4, ch_self hc3 hc4, ho4⟩
  · rw [hk, if_pos rfl] at h4
    have hnx := nx_len hk
    rw [if_pos rfl]
    refine iCndT rfl ?_
    refine iCall ((hsub e b t _ w4 ht h4 (by rw [fl2]; omega)).mono ?_)
    rintro v5 w5 ⟨h5, hc5, ho5⟩
    have hz5 := rdL_size 2 .fls (nx q)
    have hl5 := rdL_len 2 .fls (nx q)
    have ho45 := ho4.ch hc5 (rdS_ne h ho4 (Nat.le_refl _))
    have hsz : (Fm.or a (rdL 2 .fls (nx q)).1).size ≤ 1099511627776 := by
      show 1 + _ + _ ≤ _; omega
    refine iCall ((ok_spec_l02Pair (c := .or a (rdL 2 .fls (nx q)).1) (k := 3) rfl rfl ho45.sl ho5.sl hsz).mono ?_)
    rintro v6 w6 ⟨h6, ho6⟩
    have hcc := ch_self hc3 (ch_self hc4 hc5)
    have e1 : rdL 4 (rdL 2 .fls s).1 (rdL 2 .fls s).2 = rdL 4 (.or a (rdL 2 .fls (nx q)).1) (rdL 2 .fls (nx q)).2 := by rw [← hq, rdL4, if_pos hk]
    refine hKn (v6, .or a (rdL 2 .fls (nx q)).1, (rdL 2 .fls (nx q)).2) _ ⟨h5.ext h6, ch_ext hcc h6, ho6.mono hcc.size, e1.symm, by show (rdL 2 .fls (nx q)).2.1.length ≤ _; omega, ?_⟩ (by show (rdL 2 .fls (nx q)).2.1.length < q.1.length; omega)
    show 1 + a.size + (rdL 2 .fls (nx q)).1.size + 3 * (rdL 2 .fls (nx q)).2.1.length ≤ _
    omega
theorem rd_spec_l02And {m : Nat} (hsub : Rds f_spec_l02Prefix 3 m) : Rds f_spec_l02And 2 (m + 1) := by
  intro e b t s w ht h hm
  rw [fl2] at hm
  apply c_spec_l02And; unfold S_spec_l02And
  refine iCall ((hsub e b t s w ht h (by rw [fl3]; omega)).mono ?_)
  rintro v w1 ⟨h1, hc1, ho1⟩
  have hlen := rdL_len 3 .fls s
  have hz := rdL_size 3 .fls s
  have htl := h.len
  have hf : Fm.fls.size = 1 := rfl
  rw [rdL2]
  refine iLp (fun q : Value × Fm × RSt => [q.1]) (fun q w' => RdS e b t q.2.2 w' ∧ Ch (fun x => x = b) w w' ∧ OwK 2 w.heap.size t_impl_Node w' q.1 q.2.1.size q.2.1.cells ∧ rdL 5 q.2.1 q.2.2 = rdL 5 (rdL 3 .fls s).1 (rdL 3 .fls s).2 ∧ q.2.2.1.length ≤ s.1.length ∧ q.2.1.size + 3 * q.2.2.1.length ≤ 1 + 3 * s.1.length) (fun q => q.2.2.1.length) (v, rdL 3 .fls s) rfl
    ⟨h1, hc1, ho1, rfl, hlen, by show (rdL 3 .fls s).1.size + 3 * (rdL 3 .fls s).2.1.length ≤ _; omega⟩ ?_
  rintro ⟨v, a, q⟩ w3 Kn ⟨h3, hc3, ho3, hq, hql, hqs⟩ hKn
  have h3 : RdS e b t q w3 := h3
  have ho3 : OwK 2 w.heap.size t_impl_Node w3 v a.size a.cells := ho3
  have hq : rdL 5 a q = _ := hq
  have hql : q.1.length ≤ s.1.length := hql
  have hqs : a.size + 3 * q.1.length ≤ 1 + 3 * s.1.length := hqs
  intro _
  refine iCall ((ok_spec_l02Take 38 (by decide) (by omega) h3).mono ?_)
  rintro _ w4 ⟨rfl, h4, hc4⟩
  have ho4 := ho3.ch hc4 (rdS_ne h ho3 (Nat.le_refl _))
  rw [← hq, rdL5]
  cases hk : tk 38 q
  · rw [hk, if_neg (by decide)] at h4
    rw [if_neg (by decide)]
    exact iCndF rfl ⟨h4, ch_self hc3 hc4, ho4⟩
  · rw [hk, if_pos rfl] at h4
    have hnx := nx_len hk
    rw [if_pos rfl]
    refine iCndT rfl ?_
    refine iCall ((hsub e b t _ w4 ht h4 (by rw [fl3]; omega)).mono ?_)
    rintro v5 w5 ⟨h5, hc5, ho5⟩
    have hz5 := rdL_size 3 .fls (nx q)
    have hl5 := rdL_len 3 .fls (nx q)
    have ho45 := ho4.ch hc5 (rdS_ne h ho4 (Nat.le_refl _))
    have hsz : (Fm.and a (rdL 3 .fls (nx q)).1).size ≤ 1099511627776 := by
      show 1 + _ + _ ≤ _; omega
    refine iCall ((ok_spec_l02Pair (c := .and a (rdL 3 .fls (nx q)).1) (k := 2) rfl rfl ho45.sl ho5.sl hsz).mono ?_)
    rintro v6 w6 ⟨h6, ho6⟩
    have hcc := ch_self hc3 (ch_self hc4 hc5)
    have e1 : rdL 5 (rdL 3 .fls s).1 (rdL 3 .fls s).2 = rdL 5 (.and a (rdL 3 .fls (nx q)).1) (rdL 3 .fls (nx q)).2 := by rw [← hq, rdL5, if_pos hk]
    refine hKn (v6, .and a (rdL 3 .fls (nx q)).1, (rdL 3 .fls (nx q)).2) _ ⟨h5.ext h6, ch_ext hcc h6, ho6.mono hcc.size, e1.symm, by show (rdL 3 .fls (nx q)).2.1.length ≤ _; omega, ?_⟩ (by show (rdL 3 .fls (nx q)).2.1.length < q.1.length; omega)
    show 1 + a.size + (rdL 3 .fls (nx q)).1.size + 3 * (rdL 3 .fls (nx q)).2.1.length ≤ _
    omega
theorem rd_impl_reader_atom {m : Nat} (him : Rds f_impl_reader_imply 0 m) (e : TypeId) (b : Nat) (t : Str) (s : RSt) (w : World) (ht : t.length ≤ 4194304) (h : RdS e b t s w) (hm : 8 * s.1.length + 1 ≤ m + 1) (hn1 : tk 126 s = false) (hn2 : tk 91 s = false) (hn3 : tk 60 s = false) :
    Cal Tryz.prog f_impl_reader_atom #[.pointer (some ⟨b, 0, none⟩)] w (ReadQ e b t t_impl_Node (rdL 3 .fls s) w) := by
  apply c_impl_reader_atom; unfold S_impl_reader_atom
  have htl := h.len
  have key : ∀ {r : Fm × RSt}, (rdL 3 .fls s = r → S_impl_reader_atom (.pointer (some ⟨b, 0, none⟩)) w (ReadQ e b t t_impl_Node r w)) → rdL 3 .fls s = r → S_impl_reader_atom (.pointer (some ⟨b, 0, none⟩)) w (ReadQ e b t t_impl_Node (rdL 3 .fls s) w) := fun h e => by rw [e]; exact h e
  refine iCall ((ok_impl_reader_take 70 (by decide) (by omega) h).mono ?_)
  rintro _ w1 ⟨rfl, h1, hc1⟩
  have two : ∀ {c d : UInt8}, tk c s = true → c ≠ d → tk d s = false := fun a b => tk_two a b
  cases k1 : tk 70 s
  rotate_left
  · rw [k1, if_pos rfl] at h1
    refine iCndT rfl ?_
    have er : rdL 3 .fls s = (.fls, nx s) := rdL3 (Q := fun x => x = _) (fun h => absurd (hn1.symm.trans h) (by decide)) (fun h => absurd (hn2.symm.trans h) (by decide)) (fun h => absurd (hn3.symm.trans h) (by decide)) (fun _ => rfl) (fun h => absurd ((two k1 (by decide)).symm.trans h) (by decide)) (fun h => absurd ((two k1 (by decide)).symm.trans h) (by decide)) (fun v hv h => absurd ((two k1 (vl_other hv (by decide)).symm).symm.trans h) (by decide)) (fun _ _ _ h _ _ _ => absurd (h.symm.trans k1) (by decide))
    rw [er]
    refine iCall ((ok_impl_falsum w1).mono ?_)
    rintro v w2 ⟨h2, ho2⟩
    exact ⟨h1.ext h2, ch_ext hc1 h2, ho2.mono hc1.size⟩
  rw [k1, if_neg (by decide)] at h1
  refine iCndF rfl ?_
  refine iCall ((ok_impl_reader_take 84 (by decide) (by omega) h1).mono ?_)
  rintro _ w3 ⟨rfl, h3, hc3⟩
  have hc13 := ch_self hc1 hc3
  cases k2 : tk 84 s
  rotate_left
  · rw [k2, if_pos rfl] at h3
    refine iCndT rfl ?_
    have er : rdL 3 .fls s = (.imp .fls .fls, nx s) := rdL3 (Q := fun x => x = _) (fun h => absurd (hn1.symm.trans h) (by decide)) (fun h => absurd (hn2.symm.trans h) (by decide)) (fun h => absurd (hn3.symm.trans h) (by decide)) (fun h => absurd (k1.symm.trans h) (by decide)) (fun _ => rfl) (fun h => absurd ((two k2 (by decide)).symm.trans h) (by decide)) (fun v hv h => absurd ((two k2 (vl_other hv (by decide)).symm).symm.trans h) (by decide)) (fun _ _ _ _ h _ _ => absurd (h.symm.trans k2) (by decide))
    rw [er]
    refine iCall ((ok_impl_truth w3).mono ?_)
    rintro v w2 ⟨h2, ho2⟩
    exact ⟨h3.ext h2, ch_ext hc13 h2, ho2.mono hc13.size⟩
  rw [k2, if_neg (by decide)] at h3
  refine iCndF rfl ?_
  refine iCall ((ok_impl_reader_take 40 (by decide) (by omega) h3).mono ?_)
  rintro _ w5 ⟨rfl, h5, hc5⟩
  have hc15 := ch_self hc13 hc5
  cases k3 : tk 40 s
  rotate_left
  · rw [k3, if_pos rfl] at h5
    refine iCndT rfl ?_
    have er : rdL 3 .fls s = ((rdL 0 .fls (nx s)).1, ndd 41 (rdL 0 .fls (nx s)).2) := rdL3 (Q := fun x => x = _) (fun h => absurd (hn1.symm.trans h) (by decide)) (fun h => absurd (hn2.symm.trans h) (by decide)) (fun h => absurd (hn3.symm.trans h) (by decide)) (fun h => absurd (k1.symm.trans h) (by decide)) (fun h => absurd (k2.symm.trans h) (by decide)) (fun _ => rfl) (fun v hv h => absurd ((two k3 (vl_other hv (by decide)).symm).symm.trans h) (by decide)) (fun _ _ _ _ _ h _ => absurd (h.symm.trans k3) (by decide))
    rw [er]
    have hnx := nx_len k3
    refine iCall ((him e b t _ w5 ht h5 (by rw [fl0]; omega)).mono ?_)
    rintro v w6 ⟨h6, hc6, ho6⟩
    refine iCall ((ok_impl_reader_need 41 (by decide) (by omega) h6).mono ?_)
    rintro _ w7 ⟨h7, hc7⟩
    exact ⟨h7, ch_self hc15 (ch_self hc6 hc7), (ho6.ch hc7 (rdS_ne h ho6 hc15.size)).mono hc15.size⟩
  rw [k3, if_neg (by decide)] at h5
  refine iCndF rfl ?_
  have hlet : (.string ⟨#[112, 113, 114, 115, 116, 117]⟩ : Value) = sv [112, 113, 114, 115, 116, 117] := rfl
  rw [hlet]
  refine iRange (by kernel_rfl) fun q w8 hq h8 hI => ?_
  have hqb : q ≠ b := by have := h5.lt; omega
  refine iLp (fun _ : Nat => []) (fun i w' => i ≤ 6 ∧ RdS e b t s w' ∧ Ch (fun x => x = b) w w' ∧ It w' q [112, 113, 114, 115, 116, 117] i ∧ w.heap.size ≤ q ∧ ∀ v, v < i → tk (vl v) s = false) (fun i => 6 - i) 0 rfl ⟨Nat.zero_le _, h5.ext h8, ch_ext hc15 h8, hI, by have := hc15.size; omega, fun v hv => by omega⟩ ?_
  rintro i w10 Kn ⟨hi, h10, hc10, hI10, hwq, hno⟩ hKn
  intro _
  by_cases hi6 : i = 6
  · subst hi6
    refine iNextE hI10 (by decide) ?_
    refine iEx (by rfl) ?_
    refine iCndF rfl ?_
    have er : rdL 3 .fls s = (.fls, (s.1, true)) := rdL3 (Q := fun x => x = _) (fun h => absurd (hn1.symm.trans h) (by decide)) (fun h => absurd (hn2.symm.trans h) (by decide)) (fun h => absurd (hn3.symm.trans h) (by decide)) (fun h => absurd (k1.symm.trans h) (by decide)) (fun h => absurd (k2.symm.trans h) (by decide)) (fun h => absurd (k3.symm.trans h) (by decide)) (fun v hv h => absurd ((hno v hv).symm.trans h) (by decide)) (fun _ _ _ _ _ _ _ => rfl)
    rw [er]
    obtain ⟨k, _, _, hB⟩ := id h10
    ((with_reducible refine iNil ?_; refine iFa ?_))
    refine iStB hB (by simp) rfl fun _ => ?_
    have hu := Upd.setCell w10 b 2 (.bool true)
    refine iCall ((ok_impl_falsum _).mono ?_)
    rintro v w2 ⟨h2, ho2⟩
    have hcu := hc10.trans (hu.ch (S := fun x => x = b) rfl) (fun _ h => .inl h)
    exact ⟨(RdS.bad h10).ext h2, ch_ext hcu h2, ho2.mono hcu.size⟩
  · have hi5 : i < 6 := by omega
    have hgd : (([112, 113, 114, 115, 116, 117] : Str).getD i 0) = vl i := by
      have : i = 0 ∨ i = 1 ∨ i = 2 ∨ i = 3 ∨ i = 4 ∨ i = 5 := by omega
      rcases this with rfl | rfl | rfl | rfl | rfl | rfl <;> rfl
    refine iNextR hI10 (by show i < 6; exact hi5) fun c d w11 _ hlow _ _ hu hI11 => ?_
    rw [hgd, vl_nat i hi5] at hlow
    obtain ⟨rfl, rfl⟩ := hlow (by omega)
    have hcu : Ch (fun x => x = b) w w11 := hc10.trans (hu.ch (S := fun x => x = q) rfl) (fun x hx => .inr (by omega))
    have h11 : RdS e b t s w11 := by
      obtain ⟨k, a1, a2, hB⟩ := h10
      exact ⟨k, a1, a2, hB.upd hu (fun e => hqb e.symm)⟩
    ((with_reducible refine iE30 ?_))
    refine iCndT rfl ?_
    ((with_reducible refine iE31 ?_; refine iE32 ?_))
    refine ⟨_, _, rfl, ?_⟩
    have ew : IntKind.u8.wrap ((112 + i : Nat) : Int) = (((vl i).toNat : Nat) : Int) := by
      rw [vl_nat i hi5]
      have : i = 0 ∨ i = 1 ∨ i = 2 ∨ i = 3 ∨ i = 4 ∨ i = 5 := by omega
      rcases this with rfl | rfl | rfl | rfl | rfl | rfl <;> decide
    refine iCall ((ok_impl_reader_take (vl i) ew (by omega) h11).mono ?_)
    rintro _ w12 ⟨rfl, h12, hc12⟩
    have hcc := ch_self hcu hc12
    cases kv : tk (vl i) s
    · rw [kv, if_neg (by decide)] at h12
      refine iCndF rfl ?_
      refine hKn (i + 1) _ ⟨by omega, h12, hcc, hI11.ch hc12 hqb, hwq, fun v hv => ?_⟩ (by omega)
      by_cases hvi : v = i
      · rw [hvi]; exact kv
      · exact hno v (by omega)
    · rw [kv, if_pos rfl] at h12
      refine iCndT rfl ?_
      have er : rdL 3 .fls s = (.var i, nx s) := rdL3 (Q := fun x => x = _) (fun h => absurd (hn1.symm.trans h) (by decide)) (fun h => absurd (hn2.symm.trans h) (by decide)) (fun h => absurd (hn3.symm.trans h) (by decide)) (fun h => absurd (k1.symm.trans h) (by decide)) (fun h => absurd (k2.symm.trans h) (by decide)) (fun h => absurd (k3.symm.trans h) (by decide)) (fun v hv h => by
        have : vl i = vl v := by
          apply Classical.byContradiction
          intro hne
          exact absurd ((two kv hne).symm.trans h) (by decide)
        rw [vl_inj hi5 hv this]) (fun _ _ _ _ _ _ h => absurd ((h i hi5).symm.trans kv) (by decide))
      rw [er]
      refine iCall ((ok_impl_variable i w12).mono ?_)
      rintro v w2 ⟨h2, ho2⟩
      exact ⟨h12.ext h2, ch_ext hcc h2, ho2.mono hcc.size⟩
theorem rd_impl_reader_prefix {m : Nat} (hpre : Rds f_impl_reader_prefix 3 m) (him : Rds f_impl_reader_imply 0 m) : Rds f_impl_reader_prefix 3 (m + 1) := by
  intro e b t s w ht h hm
  rw [fl3] at hm
  apply c_impl_reader_prefix; unfold S_impl_reader_prefix
  have htl := h.len
  have two : ∀ {c d : UInt8}, tk c s = true → c ≠ d → tk d s = false := fun a b => tk_two a b
  refine iCall ((ok_impl_reader_take 126 (by decide) (by omega) h).mono ?_)
  rintro _ w1 ⟨rfl, h1, hc1⟩
  have hf : Fm.fls.size = 1 := rfl
  cases k1 : tk 126 s
  rotate_left
  · rw [k1, if_pos rfl] at h1
    refine iCndT rfl ?_
    have er : rdL 3 .fls s = (.imp (rdL 3 .fls (nx s)).1 .fls, (rdL 3 .fls (nx s)).2) := rdL3 (Q := fun x => x = _) (fun _ => rfl) (fun h => absurd ((two k1 (by decide)).symm.trans h) (by decide)) (fun h => absurd ((two k1 (by decide)).symm.trans h) (by decide)) (fun h => absurd ((two k1 (by decide)).symm.trans h) (by decide)) (fun h => absurd ((two k1 (by decide)).symm.trans h) (by decide)) (fun h => absurd ((two k1 (by decide)).symm.trans h) (by decide)) (fun v hv h => absurd ((two k1 (vl_other hv (by decide)).symm).symm.trans h) (by decide)) (fun h _ _ _ _ _ _ => absurd (h.symm.trans k1) (by decide))
    rw [er]
    have hnx := nx_len k1
    refine iCall ((hpre e b t _ w1 ht h1 (by rw [fl3]; omega)).mono ?_)
    rintro v w2 ⟨h2, hc2, ho2⟩
    have hz := rdL_size 3 .fls (nx s)
    refine iCall ((ok_impl_negation ho2.sl (by omega)).mono ?_)
    rintro v w3 ⟨h3, ho3⟩
    have hcc := ch_self hc1 hc2
    exact ⟨h2.ext h3, ch_ext hcc h3, ho3.mono hcc.size⟩
  rw [k1, if_neg (by decide)] at h1
  refine iCndF rfl ?_
  refine iCall ((ok_impl_reader_take 91 (by decide) (by omega) h1).mono ?_)
  rintro _ w3 ⟨rfl, h3, hc3⟩
  have hc13 := ch_self hc1 hc3
  cases k2 : tk 91 s
  rotate_left
  · rw [k2, if_pos rfl] at h3
    refine iCndT rfl ?_
    have er : rdL 3 .fls s = (.box (rdL 3 .fls (ndd 93 (nx s))).1, (rdL 3 .fls (ndd 93 (nx s))).2) := rdL3 (Q := fun x => x = _) (fun h => absurd (k1.symm.trans h) (by decide)) (fun _ => rfl) (fun h => absurd ((two k2 (by decide)).symm.trans h) (by decide)) (fun h => absurd ((two k2 (by decide)).symm.trans h) (by decide)) (fun h => absurd ((two k2 (by decide)).symm.trans h) (by decide)) (fun h => absurd ((two k2 (by decide)).symm.trans h) (by decide)) (fun v hv h => absurd ((two k2 (vl_other hv (by decide)).symm).symm.trans h) (by decide)) (fun _ h _ _ _ _ _ => absurd (h.symm.trans k2) (by decide))
    rw [er]
    have hnx := nx_len k2
    have hnd := ndd_len 93 (nx s)
    refine iCall ((ok_impl_reader_need 93 (by decide) (by omega) h3).mono ?_)
    rintro _ w4 ⟨h4, hc4⟩
    refine iCall ((hpre e b t _ w4 ht h4 (by rw [fl3]; omega)).mono ?_)
    rintro v w5 ⟨h5, hc5, ho5⟩
    have hz := rdL_size 3 .fls (ndd 93 (nx s))
    refine iCall ((ok_impl_prefix (c := .box (rdL 3 .fls (ndd 93 (nx s))).1) (k := 5) rfl rfl ho5.sl (by show 1 + _ ≤ _; omega)).mono ?_)
    rintro v w6 ⟨h6, ho6⟩
    have hcc := ch_self hc13 (ch_self hc4 hc5)
    exact ⟨h5.ext h6, ch_ext hcc h6, ho6.mono hcc.size⟩
  rw [k2, if_neg (by decide)] at h3
  refine iCndF rfl ?_
  refine iCall ((ok_impl_reader_take 60 (by decide) (by omega) h3).mono ?_)
  rintro _ w7 ⟨rfl, h7, hc7⟩
  have hc17 := ch_self hc13 hc7
  cases k3 : tk 60 s
  rotate_left
  · rw [k3, if_pos rfl] at h7
    refine iCndT rfl ?_
    have er : rdL 3 .fls s = (.dia (rdL 3 .fls (ndd 62 (nx s))).1, (rdL 3 .fls (ndd 62 (nx s))).2) := rdL3 (Q := fun x => x = _) (fun h => absurd (k1.symm.trans h) (by decide)) (fun h => absurd (k2.symm.trans h) (by decide)) (fun _ => rfl) (fun h => absurd ((two k3 (by decide)).symm.trans h) (by decide)) (fun h => absurd ((two k3 (by decide)).symm.trans h) (by decide)) (fun h => absurd ((two k3 (by decide)).symm.trans h) (by decide)) (fun v hv h => absurd ((two k3 (vl_other hv (by decide)).symm).symm.trans h) (by decide)) (fun _ _ h _ _ _ _ => absurd (h.symm.trans k3) (by decide))
    rw [er]
    have hnx := nx_len k3
    have hnd := ndd_len 62 (nx s)
    refine iCall ((ok_impl_reader_need 62 (by decide) (by omega) h7).mono ?_)
    rintro _ w4 ⟨h4, hc4⟩
    refine iCall ((hpre e b t _ w4 ht h4 (by rw [fl3]; omega)).mono ?_)
    rintro v w5 ⟨h5, hc5, ho5⟩
    have hz := rdL_size 3 .fls (ndd 62 (nx s))
    refine iCall ((ok_impl_prefix (c := .dia (rdL 3 .fls (ndd 62 (nx s))).1) (k := 6) rfl rfl ho5.sl (by show 1 + _ ≤ _; omega)).mono ?_)
    rintro v w6 ⟨h6, ho6⟩
    have hcc := ch_self hc17 (ch_self hc4 hc5)
    exact ⟨h5.ext h6, ch_ext hcc h6, ho6.mono hcc.size⟩
  rw [k3, if_neg (by decide)] at h7
  refine iCndF rfl ?_
  refine iCall ((rd_impl_reader_atom him e b t s w7 ht h7 hm k1 k2 k3).mono ?_)
  rintro v w8 ⟨h8, hc8, ho8⟩
  exact ⟨h8, ch_self hc17 hc8, ho8.mono hc17.size⟩
theorem rd_impl : ∀ m, Rds f_impl_reader_imply 0 m ∧ Rds f_impl_reader_or 1 m ∧ Rds f_impl_reader_and 2 m ∧ Rds f_impl_reader_prefix 3 m
  | 0 => ⟨fun _ _ _ _ _ _ _ h => by rw [fl0] at h; omega, fun _ _ _ _ _ _ _ h => by rw [fl1] at h; omega, fun _ _ _ _ _ _ _ h => by rw [fl2] at h; omega, fun _ _ _ _ _ _ _ h => by rw [fl3] at h; omega⟩
  | m + 1 =>
    have h := rd_impl m
    ⟨rd_impl_reader_imply h.2.1 h.1, rd_impl_reader_or h.2.2.1, rd_impl_reader_and h.2.2.2, rd_impl_reader_prefix h.2.2.2 h.1⟩
theorem ok_impl_reader_imply {e : TypeId} {b : Nat} {t : Str} {s : RSt} {w : World} (ht : t.length ≤ 4194304) (h : RdS e b t s w) : Cal Tryz.prog f_impl_reader_imply #[.pointer (some ⟨b, 0, none⟩)] w (ReadQ e b t t_impl_Node (rdL 0 .fls s) w) :=
  (rd_impl _).1 e b t s w ht h (Nat.le_refl _)
end Go.Proofs.YtapdkkijoflcpaaGreatDoor

/- Contracts: the reference's reader of formulas says what the grammar says; ParseFormula. Conditions: none. -/
namespace Go.Vc
/-- A text is the text of some formula; how far it is good. -/
def rdOk (t : Str) : Bool := !(rd t).2.2 && decide ((rd t).2.1 = [])
def rdAt (t : Str) : Nat := t.length - (rd t).2.1.length
theorem rd_rdL (t : Str) : rd t = rdL 0 .fls (t, false) := rfl
theorem rd_size (t : Str) : (rd t).1.size ≤ 1 + 3 * t.length := by
  have := rdL_size 0 .fls (t, false)
  rw [← rd_rdL] at this
  have h : Fm.fls.size = 1 := rfl
  have : (rd t).1.size + 3 * (rd t).2.1.length ≤ 1 + 3 * t.length := by rw [← h]; exact this
  omega
theorem rd_len (t : Str) : (rd t).2.1.length ≤ t.length := rdL_len 0 .fls (t, false)
theorem rd_good (t : Str) : (rd t).1.good := prs_good _ _ _ _ trivial
/-- The place of a reader that stands behind what it has read. -/
theorem RdS.place {e : TypeId} {b : Nat} {t : Str} {s : RSt} {w : World} (h : RdS e b t s w) : Blk e w b [sv t, .int .i64 ((t.length - s.1.length : Nat) : Int), .bool s.2] := by
  obtain ⟨k, h1, h2, h3⟩ := h
  have : t.length - s.1.length = k := by rw [h2, List.length_drop]; omega
  rw [this]; exact h3
theorem RdS.new {e : TypeId} {b : Nat} {t : Str} {w : World} (h : Blk e w b [sv t, .int .i64 0, .bool false]) : RdS e b t (t, false) w := ⟨0, Nat.zero_le _, rfl, h⟩
end Go.Vc
namespace Go.Proofs.YtapdkkijoflcpaaGreatDoor
open Go.Vc
theorem rd_spec_l02Prefix {m : Nat} (hpre : Rds f_spec_l02Prefix 3 m) (him : Rds f_spec_l02Imply 0 m) : Rds f_spec_l02Prefix 3 (m + 1) := by
  intro e b t s w ht h hm
  rw [fl3] at hm
  apply c_spec_l02Prefix; unfold S_spec_l02Prefix
  have htl := h.len
  have hf : Fm.fls.size = 1 := rfl
  have two : ∀ {c d : UInt8}, tk c s = true → c ≠ d → tk d s = false := fun a b => tk_two a b
  have hlet : (.string ⟨#[112, 113, 114, 115, 116, 117]⟩ : Value) = sv [112, 113, 114, 115, 116, 117] := rfl
  rw [hlet]
  refine iLp (fun i : Nat => [.int .i64 (i : Int)]) (fun i w' => i ≤ 6 ∧ RdS e b t s w' ∧ Ch (fun x => x = b) w w' ∧ ∀ v, v < i → tk (vl v) s = false) (fun i => 6 - i) 0 rfl ⟨Nat.zero_le _, h, (Ext.refl w).ch, fun v hv => by omega⟩ ?_
  rintro i w2 Kn ⟨hi, h2, hc2, hno⟩ hKn
  (intro _; (try simp only [gx]))
  refine iLenT ?_
  refine iLt ?_
  refine iCndP (fun h3 => ?_) (fun h3 => ?_)
  · have hi5 : i < 6 := by simp at h3; omega
    have hgd : (([112, 113, 114, 115, 116, 117] : Str).getD i 0) = vl i := by
      have : i = 0 ∨ i = 1 ∨ i = 2 ∨ i = 3 ∨ i = 4 ∨ i = 5 := by omega
      rcases this with rfl | rfl | rfl | rfl | rfl | rfl <;> rfl
    refine iIs (by show i < 6; exact hi5) ?_
    rw [hgd]
    refine iCall ((ok_spec_l02Take (vl i) rfl (by omega) h2).mono ?_)
    rintro _ w3 ⟨rfl, h4, hc4⟩
    have hcc := ch_self hc2 hc4
    cases kv : tk (vl i) s
    · rw [kv, if_neg (by decide)] at h4
      refine iCndF rfl ?_
      (refine iAdd (by omega) ?_)
      refine hKn (i + 1) _ ⟨by omega, h4, hcc, fun v hv => ?_⟩ (by omega)
      by_cases hvi : v = i
      · rw [hvi]; exact kv
      · exact hno v (by omega)
    · rw [kv, if_pos rfl] at h4
      refine iCndT rfl ?_
      have er : rdL 3 .fls s = (.var i, nx s) := rdL3 (Q := fun x => x = _) (fun h => absurd ((two kv (vl_other hi5 (by decide))).symm.trans h) (by decide)) (fun h => absurd ((two kv (vl_other hi5 (by decide))).symm.trans h) (by decide)) (fun h => absurd ((two kv (vl_other hi5 (by decide))).symm.trans h) (by decide)) (fun h => absurd ((two kv (vl_other hi5 (by decide))).symm.trans h) (by decide)) (fun h => absurd ((two kv (vl_other hi5 (by decide))).symm.trans h) (by decide)) (fun h => absurd ((two kv (vl_other hi5 (by decide))).symm.trans h) (by decide)) (fun v hv h => by
        have : vl i = vl v := by
          apply Classical.byContradiction
          intro hne
          exact absurd ((two kv hne).symm.trans h) (by decide)
        rw [vl_inj hi5 hv this]) (fun _ _ _ _ _ _ h => absurd ((h i hi5).symm.trans kv) (by decide))
      rw [er]
      refine iCall ((ok_spec_l02Var i w3).mono ?_)
      rintro v w4 ⟨h5, ho5⟩
      exact ⟨h4.ext h5, ch_ext hcc h5, ho5.mono hcc.size⟩
  have hi6 : i = 6 := by simp at h3; omega
  subst hi6
  refine iCall ((ok_spec_l02Take 70 (by decide) (by omega) h2).mono ?_)
  rintro _ wa1 ⟨rfl, ha1, ca1⟩
  have cb1 := ch_self hc2 ca1
  cases k1 : tk 70 s
  rotate_left
  · rw [k1, if_pos rfl] at ha1
    refine iCndT rfl ?_
    have er : rdL 3 .fls s = (.fls, nx s) := rdL3 (Q := fun x => x = _) (fun h => absurd ((two k1 (by decide)).symm.trans h) (by decide)) (fun h => absurd ((two k1 (by decide)).symm.trans h) (by decide)) (fun h => absurd ((two k1 (by decide)).symm.trans h) (by decide)) (fun _ => rfl) (fun h => absurd ((two k1 (by decide)).symm.trans h) (by decide)) (fun h => absurd ((two k1 (by decide)).symm.trans h) (by decide)) (fun v hv h => absurd ((hno v hv).symm.trans h) (by decide)) (fun _ _ _ h _ _ _ => absurd (h.symm.trans k1) (by decide))
    rw [er]
    have hnx := nx_len k1
    refine iCall ((ok_spec_l02False wa1).mono ?_)
    rintro v w4 ⟨h5, ho5⟩
    exact ⟨ha1.ext h5, ch_ext cb1 h5, ho5.mono cb1.size⟩
  rw [k1, if_neg (by decide)] at ha1
  refine iCndF rfl ?_
  refine iCall ((ok_spec_l02Take 84 (by decide) (by omega) ha1).mono ?_)
  rintro _ wa2 ⟨rfl, ha2, ca2⟩
  have cb2 := ch_self cb1 ca2
  cases k2 : tk 84 s
  rotate_left
  · rw [k2, if_pos rfl] at ha2
    refine iCndT rfl ?_
    have er : rdL 3 .fls s = (.imp .fls .fls, nx s) := rdL3 (Q := fun x => x = _) (fun h => absurd ((two k2 (by decide)).symm.trans h) (by decide)) (fun h => absurd ((two k2 (by decide)).symm.trans h) (by decide)) (fun h => absurd ((two k2 (by decide)).symm.trans h) (by decide)) (fun h => absurd (k1.symm.trans h) (by decide)) (fun _ => rfl) (fun h => absurd ((two k2 (by decide)).symm.trans h) (by decide)) (fun v hv h => absurd ((hno v hv).symm.trans h) (by decide)) (fun _ _ _ _ h _ _ => absurd (h.symm.trans k2) (by decide))
    rw [er]
    have hnx := nx_len k2
    refine iCall ((ok_spec_l02True wa2).mono ?_)
    rintro v w4 ⟨h5, ho5⟩
    exact ⟨ha2.ext h5, ch_ext cb2 h5, ho5.mono cb2.size⟩
  rw [k2, if_neg (by decide)] at ha2
  refine iCndF rfl ?_
  refine iCall ((ok_spec_l02Take 126 (by decide) (by omega) ha2).mono ?_)
  rintro _ wa3 ⟨rfl, ha3, ca3⟩
  have cb3 := ch_self cb2 ca3
  cases k3 : tk 126 s
  rotate_left
  · rw [k3, if_pos rfl] at ha3
    refine iCndT rfl ?_
    have er : rdL 3 .fls s = (.imp (rdL 3 .fls (nx s)).1 .fls, (rdL 3 .fls (nx s)).2) := rdL3 (Q := fun x => x = _) (fun _ => rfl) (fun h => absurd ((two k3 (by decide)).symm.trans h) (by decide)) (fun h => absurd ((two k3 (by decide)).symm.trans h) (by decide)) (fun h => absurd (k1.symm.trans h) (by decide)) (fun h => absurd (k2.symm.trans h) (by decide)) (fun h => absurd ((two k3 (by decide)).symm.trans h) (by decide)) (fun v hv h => absurd ((hno v hv).symm.trans h) (by decide)) (fun h _ _ _ _ _ _ => absurd (h.symm.trans k3) (by decide))
    rw [er]
    have hnx := nx_len k3
    refine iCall ((hpre e b t _ wa3 ht ha3 (by rw [fl3]; omega)).mono ?_)
    rintro v w5 ⟨h5, hc5, ho5⟩
    have hz := rdL_size 3 .fls (nx s)
    refine iCall ((ok_spec_l02Not ho5.sl (by omega)).mono ?_)
    rintro v w6 ⟨h6, ho6⟩
    have hcc := ch_self cb3 hc5
    exact ⟨h5.ext h6, ch_ext hcc h6, ho6.mono hcc.size⟩
  rw [k3, if_neg (by decide)] at ha3
  refine iCndF rfl ?_
  refine iCall ((ok_spec_l02Take 91 (by decide) (by omega) ha3).mono ?_)
  rintro _ wa4 ⟨rfl, ha4, ca4⟩
  have cb4 := ch_self cb3 ca4
  cases k4 : tk 91 s
  rotate_left
  · rw [k4, if_pos rfl] at ha4
    refine iCndT rfl ?_
    have er : rdL 3 .fls s = (.box (rdL 3 .fls (ndd 93 (nx s))).1, (rdL 3 .fls (ndd 93 (nx s))).2) := rdL3 (Q := fun x => x = _) (fun h => absurd (k3.symm.trans h) (by decide)) (fun _ => rfl) (fun h => absurd ((two k4 (by decide)).symm.trans h) (by decide)) (fun h => absurd (k1.symm.trans h) (by decide)) (fun h => absurd (k2.symm.trans h) (by decide)) (fun h => absurd ((two k4 (by decide)).symm.trans h) (by decide)) (fun v hv h => absurd ((hno v hv).symm.trans h) (by decide)) (fun _ h _ _ _ _ _ => absurd (h.symm.trans k4) (by decide))
    rw [er]
    have hnx := nx_len k4
    have hnd := ndd_len 93 (nx s)
    refine iCall ((ok_spec_l02Need 93 (by decide) (by omega) ha4).mono ?_)
    rintro _ w4 ⟨h4, hc4⟩
    refine iCall ((hpre e b t _ w4 ht h4 (by rw [fl3]; omega)).mono ?_)
    rintro v w5 ⟨h5, hc5, ho5⟩
    have hz := rdL_size 3 .fls (ndd 93 (nx s))
    refine iCall ((ok_spec_l02Pre (c := .box (rdL 3 .fls (ndd 93 (nx s))).1) (k := 5) rfl rfl ho5.sl (by show 1 + _ ≤ _; omega)).mono ?_)
    rintro v w6 ⟨h6, ho6⟩
    have hcc := ch_self cb4 (ch_self hc4 hc5)
    exact ⟨h5.ext h6, ch_ext hcc h6, ho6.mono hcc.size⟩
  rw [k4, if_neg (by decide)] at ha4
  refine iCndF rfl ?_
  refine iCall ((ok_spec_l02Take 60 (by decide) (by omega) ha4).mono ?_)
  rintro _ wa5 ⟨rfl, ha5, ca5⟩
  have cb5 := ch_self cb4 ca5
  cases k5 : tk 60 s
  rotate_left
  · rw [k5, if_pos rfl] at ha5
    refine iCndT rfl ?_
    have er : rdL 3 .fls s = (.dia (rdL 3 .fls (ndd 62 (nx s))).1, (rdL 3 .fls (ndd 62 (nx s))).2) := rdL3 (Q := fun x => x = _) (fun h => absurd (k3.symm.trans h) (by decide)) (fun h => absurd (k4.symm.trans h) (by decide)) (fun _ => rfl) (fun h => absurd (k1.symm.trans h) (by decide)) (fun h => absurd (k2.symm.trans h) (by decide)) (fun h => absurd ((two k5 (by decide)).symm.trans h) (by decide)) (fun v hv h => absurd ((hno v hv).symm.trans h) (by decide)) (fun _ _ h _ _ _ _ => absurd (h.symm.trans k5) (by decide))
    rw [er]
    have hnx := nx_len k5
    have hnd := ndd_len 62 (nx s)
    refine iCall ((ok_spec_l02Need 62 (by decide) (by omega) ha5).mono ?_)
    rintro _ w4 ⟨h4, hc4⟩
    refine iCall ((hpre e b t _ w4 ht h4 (by rw [fl3]; omega)).mono ?_)
    rintro v w5 ⟨h5, hc5, ho5⟩
    have hz := rdL_size 3 .fls (ndd 62 (nx s))
    refine iCall ((ok_spec_l02Pre (c := .dia (rdL 3 .fls (ndd 62 (nx s))).1) (k := 6) rfl rfl ho5.sl (by show 1 + _ ≤ _; omega)).mono ?_)
    rintro v w6 ⟨h6, ho6⟩
    have hcc := ch_self cb5 (ch_self hc4 hc5)
    exact ⟨h5.ext h6, ch_ext hcc h6, ho6.mono hcc.size⟩
  rw [k5, if_neg (by decide)] at ha5
  refine iCndF rfl ?_
  refine iCall ((ok_spec_l02Take 40 (by decide) (by omega) ha5).mono ?_)
  rintro _ wa6 ⟨rfl, ha6, ca6⟩
  have cb6 := ch_self cb5 ca6
  cases k6 : tk 40 s
  rotate_left
  · rw [k6, if_pos rfl] at ha6
    refine iCndT rfl ?_
    have er : rdL 3 .fls s = ((rdL 0 .fls (nx s)).1, ndd 41 (rdL 0 .fls (nx s)).2) := rdL3 (Q := fun x => x = _) (fun h => absurd (k3.symm.trans h) (by decide)) (fun h => absurd (k4.symm.trans h) (by decide)) (fun h => absurd (k5.symm.trans h) (by decide)) (fun h => absurd (k1.symm.trans h) (by decide)) (fun h => absurd (k2.symm.trans h) (by decide)) (fun _ => rfl) (fun v hv h => absurd ((hno v hv).symm.trans h) (by decide)) (fun _ _ _ _ _ h _ => absurd (h.symm.trans k6) (by decide))
    rw [er]
    have hnx := nx_len k6
    refine iCall ((him e b t _ wa6 ht ha6 (by rw [fl0]; omega)).mono ?_)
    rintro v w6 ⟨h6, hc6, ho6⟩
    refine iCall ((ok_spec_l02Need 41 (by decide) (by omega) h6).mono ?_)
    rintro _ w7 ⟨h7, hc7⟩
    exact ⟨h7, ch_self cb6 (ch_self hc6 hc7), (ho6.ch hc7 (rdS_ne h ho6 cb6.size)).mono cb6.size⟩
  rw [k6, if_neg (by decide)] at ha6
  refine iCndF rfl ?_
  have er : rdL 3 .fls s = (.fls, (s.1, true)) := rdL3 (Q := fun x => x = _) (fun h => absurd (k3.symm.trans h) (by decide)) (fun h => absurd (k4.symm.trans h) (by decide)) (fun h => absurd (k5.symm.trans h) (by decide)) (fun h => absurd (k1.symm.trans h) (by decide)) (fun h => absurd (k2.symm.trans h) (by decide)) (fun h => absurd (k6.symm.trans h) (by decide)) (fun v hv h => absurd ((hno v hv).symm.trans h) (by decide)) (fun _ _ _ _ _ _ _ => rfl)
  rw [er]
  obtain ⟨k, _, _, hB⟩ := id ha6
  ((with_reducible refine iNil ?_; refine iFa ?_))
  refine iStB hB (by simp) rfl fun _ => ?_
  have hu := Upd.setCell wa6 b 2 (.bool true)
  refine iCall ((ok_spec_l02False _).mono ?_)
  rintro v w4 ⟨h5, ho5⟩
  have hcu := cb6.trans (hu.ch (S := fun x => x = b) rfl) (fun _ h => .inl h)
  exact ⟨(RdS.bad ha6).ext h5, ch_ext hcu h5, ho5.mono hcu.size⟩
theorem rd_spec : ∀ m, Rds f_spec_l02Imply 0 m ∧ Rds f_spec_l02Or 1 m ∧ Rds f_spec_l02And 2 m ∧ Rds f_spec_l02Prefix 3 m
  | 0 => ⟨fun _ _ _ _ _ _ _ h => by rw [fl0] at h; omega, fun _ _ _ _ _ _ _ h => by rw [fl1] at h; omega, fun _ _ _ _ _ _ _ h => by rw [fl2] at h; omega, fun _ _ _ _ _ _ _ h => by rw [fl3] at h; omega⟩
  | m + 1 =>
    have h := rd_spec m
    ⟨rd_spec_l02Imply h.2.1 h.1, rd_spec_l02Or h.2.2.1, rd_spec_l02And h.2.2.2, rd_spec_l02Prefix h.2.2.2 h.1⟩
theorem ok_spec_l02Imply {e : TypeId} {b : Nat} {t : Str} {s : RSt} {w : World} (ht : t.length ≤ 4194304) (h : RdS e b t s w) : Cal Tryz.prog f_spec_l02Imply #[.pointer (some ⟨b, 0, none⟩)] w (ReadQ e b t t_impl_Node (rdL 0 .fls s) w) :=
  (rd_spec _).1 e b t s w ht h (Nat.le_refl _)
theorem ok_spec_l02Read {t : Str} (ht : t.length ≤ 4194304) (w : World) : Cal Tryz.prog f_spec_l02Read #[sv t] w fun r w' => Ext w w' ∧ ∃ v, r = .tuple #[v, .int .i64 (if rdOk t then -1 else (rdAt t : Int))] ∧ (rdOk t = true → FmW w.heap.size w' v (rd t).1) ∧ (rdOk t = false → v = .slice none 0 0) := by
  apply c_spec_l02Read; unfold S_spec_l02Read
  refine iBuild (cs := #[sv t, .int .i64 0, .bool false]) (by simp [Instr.fill, Value.cells]) ?_
  refine iNew fun b w1 hb h1 hB => ?_
  obtain ⟨e, hB⟩ : ∃ e, Blk e w1 b [sv t, .int .i64 0, .bool false] := ⟨_, hB⟩
  refine iCall ((ok_spec_l02Imply ht (RdS.new hB)).mono ?_)
  rintro v w2 ⟨h2, hc2, ho2⟩
  rw [← rd_rdL] at h2 ho2
  have hX2 : Ext w w2 := h1.thenCh hc2 (fun c hc => by omega)
  have hB2 := h2.place
  have hrl := rd_len t
  have hlt : decide (((t.length - (rd t).2.1.length : Nat) : Int) < (t.length : Nat)) = !decide ((rd t).2.1 = []) := by
    cases hr : (rd t).2.1 with
    | nil => simp
    | cons x l => rw [hr] at hrl; simp only [List.length_cons] at hrl ⊢; rw [decide_eq_true (by omega)]; rfl
  have hor : rdOk t = !((rd t).2.2 || !decide ((rd t).2.1 = [])) := by unfold rdOk; rw [Bool.not_or, Bool.not_not]
  refine iJnB ((rd t).2.2 || !decide ((rd t).2.1 = [])) w2 (fun J hJ => ?_) (fun w4 h4 => ?_)
  · ((with_reducible refine iNil ?_; refine iFa ?_); refine iLdB (by assumption) (by first | rfl | simp) ?_)
    cases hb2 : (rd t).2.2
    · rw [hb2, Bool.false_or] at hJ
      refine iCndF rfl ?_
      ((with_reducible refine iNil ?_; refine iFa ?_); refine iLdB (by assumption) (by first | rfl | simp) ?_)
      refine iLenT ?_
      ((with_reducible refine iLt ?_))
      rw [hlt]
      exact hJ w2 (Ext.refl _)
    · rw [hb2, Bool.true_or] at hJ
      exact iCndT rfl (hJ w2 (Ext.refl _))
  · intro _
    have hB4 := hB2.ext h4
    cases hk : rdOk t
    · refine iCndT (by show ((rd t).2.2 || !decide ((rd t).2.1 = [])) = true; rw [hk] at hor; rwa [Eq.comm, Bool.not_eq_false'] at hor) ?_
      ((with_reducible refine iNil ?_; refine iFa ?_); refine iLdB (by assumption) (by first | rfl | simp) ?_)
      intro w5 h5
      exact ⟨hX2.trans (h4.trans h5), _, rfl, (fun h => by cases h), fun _ => rfl⟩
    · refine iCndF (by show ((rd t).2.2 || !decide ((rd t).2.1 = [])) = false; rw [hk] at hor; rwa [Eq.comm, Bool.not_eq_true'] at hor) ?_
      exact ⟨hX2.trans h4, v, rfl, fun _ => (ho2.mono h1.size).ext h4, fun h => by cases h⟩
end Go.Proofs.YtapdkkijoflcpaaGreatDoor

/- Plain maths: names, references in a text, and what is put in their place. No program in sight. Conditions: none. -/
namespace Go.Vc
def small (c : UInt8) : Bool := decide (97 ≤ c.toNat) && decide (c.toNat ≤ 122)
def nameOk (t : Str) : Bool := t.all small && (decide (1 ≤ t.length) && decide (t.length ≤ 8))
end Go.Vc

/- The library functions whose contracts lie on the shelf, found in this program. Conditions: none. -/
namespace Go.Proofs.YtapdkkijoflcpaaGreatDoor
open Go.Shelf
def lays219_ren : Go.Shelf.Ren := ⟨fun | 219 => 85 | 217 => 106 | 225 => 107 | 224 => 108 | 267 => 109 | 266 => 135 | 314 => 136 | n => n, fun | 9 => 9 | 3 => 3 | 4 => 4 | 5 => 5 | 46 => 63 | 146 => 157 | 51 => 156 | n => n, fun | 1 => 0 | n => n⟩
theorem lays219 : Go.Proofs.Lays.n219 Tryz.prog lays219_ren := {
  mixed := by kernel_rfl
  f217 := Tryz.func106.trans (congrArg some (by kernel_rfl))
  f219 := Tryz.func85.trans (congrArg some (by kernel_rfl))
  f224 := Tryz.func108.trans (congrArg some (by kernel_rfl))
  f225 := Tryz.func107.trans (congrArg some (by kernel_rfl))
  f266 := Tryz.func135.trans (congrArg some (by kernel_rfl))
  f267 := Tryz.func109.trans (congrArg some (by kernel_rfl))
  f314 := Tryz.func136.trans (congrArg some (by kernel_rfl))
  t3 := Tryz.underlying3
  a3 := Tryz.isAgg3
  z3 := Tryz.sizeOf3
  v3 := Tryz.zeroValue3
  t4 := Tryz.underlying4
  a4 := Tryz.isAgg4
  z4 := Tryz.sizeOf4
  v4 := Tryz.zeroValue4
  t5 := Tryz.underlying5
  a5 := Tryz.isAgg5
  z5 := Tryz.sizeOf5
  v5 := Tryz.zeroValue5
  t9 := Tryz.underlying9
  a9 := Tryz.isAgg9
  z9 := Tryz.sizeOf9
  v9 := Tryz.zeroValue9
  t46 := Tryz.underlying63
  a46 := Tryz.isAgg63
  z46 := Tryz.sizeOf63
  v46 := Tryz.zeroValue63
  t51 := Tryz.underlying156
  a51 := Tryz.isAgg156
  z51 := Tryz.sizeOf156
  v51 := Tryz.zeroValue156
  t146 := Tryz.underlying157
  a146 := Tryz.isAgg157
  z146 := Tryz.sizeOf157
  v146 := Tryz.zeroValue157
  g1 := by kernel_rfl }
def lays213_ren : Go.Shelf.Ren := ⟨fun | 213 => 127 | 265 => 150 | n => n, fun | 9 => 9 | 3 => 3 | n => n, fun | n => n⟩
theorem lays213 : Go.Proofs.Lays.n213 Tryz.prog lays213_ren := {
  mixed := by kernel_rfl
  f213 := Tryz.func127.trans (congrArg some (by kernel_rfl))
  f265 := Tryz.func150.trans (congrArg some (by kernel_rfl))
  t3 := Tryz.underlying3
  a3 := Tryz.isAgg3
  z3 := Tryz.sizeOf3
  v3 := Tryz.zeroValue3
  t9 := Tryz.underlying9
  a9 := Tryz.isAgg9
  z9 := Tryz.sizeOf9
  v9 := Tryz.zeroValue9 }
def lays138_ren : Go.Shelf.Ren := ⟨fun | 138 => 87 | 195 => 110 | 218 => 112 | 143 => 88 | 219 => 85 | 217 => 106 | 225 => 107 | 224 => 108 | 267 => 109 | 266 => 135 | 314 => 136 | n => n, fun | 9 => 9 | 3 => 3 | 4 => 4 | 5 => 5 | 0 => 0 | 46 => 63 | 146 => 157 | 51 => 156 | n => n, fun | 1 => 0 | n => n⟩
theorem lays138 : Go.Proofs.Lays.n138 Tryz.prog lays138_ren := {
  mixed := by kernel_rfl
  f138 := Tryz.func87.trans (congrArg some (by kernel_rfl))
  f143 := Tryz.func88.trans (congrArg some (by kernel_rfl))
  f195 := Tryz.func110.trans (congrArg some (by kernel_rfl))
  f217 := Tryz.func106.trans (congrArg some (by kernel_rfl))
  f218 := Tryz.func112.trans (congrArg some (by kernel_rfl))
  f219 := Tryz.func85.trans (congrArg some (by kernel_rfl))
  f224 := Tryz.func108.trans (congrArg some (by kernel_rfl))
  f225 := Tryz.func107.trans (congrArg some (by kernel_rfl))
  f266 := Tryz.func135.trans (congrArg some (by kernel_rfl))
  f267 := Tryz.func109.trans (congrArg some (by kernel_rfl))
  f314 := Tryz.func136.trans (congrArg some (by kernel_rfl))
  t0 := Tryz.underlying0
  a0 := Tryz.isAgg0
  z0 := Tryz.sizeOf0
  v0 := Tryz.zeroValue0
  t3 := Tryz.underlying3
  a3 := Tryz.isAgg3
  z3 := Tryz.sizeOf3
  v3 := Tryz.zeroValue3
  t4 := Tryz.underlying4
  a4 := Tryz.isAgg4
  z4 := Tryz.sizeOf4
  v4 := Tryz.zeroValue4
  t5 := Tryz.underlying5
  a5 := Tryz.isAgg5
  z5 := Tryz.sizeOf5
  v5 := Tryz.zeroValue5
  t9 := Tryz.underlying9
  a9 := Tryz.isAgg9
  z9 := Tryz.sizeOf9
  v9 := Tryz.zeroValue9
  t46 := Tryz.underlying63
  a46 := Tryz.isAgg63
  z46 := Tryz.sizeOf63
  v46 := Tryz.zeroValue63
  t51 := Tryz.underlying156
  a51 := Tryz.isAgg156
  z51 := Tryz.sizeOf156
  v51 := Tryz.zeroValue156
  t146 := Tryz.underlying157
  a146 := Tryz.isAgg157
  z146 := Tryz.sizeOf157
  v146 := Tryz.zeroValue157
  g1 := by kernel_rfl }
def laysM246_ren : Go.Shelf.Ren := ⟨fun | 246 => 96 | 283 => 123 | 284 => 124 | 285 => 125 | 286 => 126 | 129 => 146 | 317 => 145 | 318 => 147 | 319 => 148 | 320 => 149 | 337 => 160 | 338 => 161 | n => n, fun | 2 => 2 | 3 => 3 | 9 => 9 | 4 => 4 | 171 => 146 | 0 => 0 | 53 => 35 | 37 => 22 | 5 => 5 | 173 => 149 | 212 => 162 | 51 => 156 | 20 => 20 | 213 => 163 | 46 => 63 | 232 => 185 | 233 => 186 | n => n, fun | 17 => 1 | 18 => 4 | 19 => 5 | n => n⟩
theorem laysM246 : Go.Proofs.LaysM.n246 Tryz.prog laysM246_ren := {
  mixed := by kernel_rfl
  f129 := Tryz.func146.trans (congrArg some (by kernel_rfl))
  f246 := Tryz.func96.trans (congrArg some (by kernel_rfl))
  f283 := Tryz.func123.trans (congrArg some (by kernel_rfl))
  f284 := Tryz.func124.trans (congrArg some (by kernel_rfl))
  f285 := Tryz.func125.trans (congrArg some (by kernel_rfl))
  f286 := Tryz.func126.trans (congrArg some (by kernel_rfl))
  f317 := Tryz.func145.trans (congrArg some (by kernel_rfl))
  f318 := Tryz.func147.trans (congrArg some (by kernel_rfl))
  f319 := Tryz.func148.trans (congrArg some (by kernel_rfl))
  f320 := Tryz.func149.trans (congrArg some (by kernel_rfl))
  f337 := Tryz.func160.trans (congrArg some (by kernel_rfl))
  f338 := Tryz.func161.trans (congrArg some (by kernel_rfl))
  t0 := Tryz.underlying0
  a0 := Tryz.isAgg0
  z0 := Tryz.sizeOf0
  v0 := Tryz.zeroValue0
  t2 := Tryz.underlying2
  a2 := Tryz.isAgg2
  z2 := Tryz.sizeOf2
  v2 := Tryz.zeroValue2
  t3 := Tryz.underlying3
  a3 := Tryz.isAgg3
  z3 := Tryz.sizeOf3
  v3 := Tryz.zeroValue3
  t4 := Tryz.underlying4
  a4 := Tryz.isAgg4
  z4 := Tryz.sizeOf4
  v4 := Tryz.zeroValue4
  t5 := Tryz.underlying5
  a5 := Tryz.isAgg5
  z5 := Tryz.sizeOf5
  v5 := Tryz.zeroValue5
  t9 := Tryz.underlying9
  a9 := Tryz.isAgg9
  z9 := Tryz.sizeOf9
  v9 := Tryz.zeroValue9
  t20 := Tryz.underlying20
  a20 := Tryz.isAgg20
  z20 := Tryz.sizeOf20
  v20 := Tryz.zeroValue20
  t37 := Tryz.underlying22
  a37 := Tryz.isAgg22
  z37 := Tryz.sizeOf22
  v37 := Tryz.zeroValue22
  t46 := Tryz.underlying63
  a46 := Tryz.isAgg63
  z46 := Tryz.sizeOf63
  v46 := Tryz.zeroValue63
  t51 := Tryz.underlying156
  a51 := Tryz.isAgg156
  z51 := Tryz.sizeOf156
  v51 := Tryz.zeroValue156
  t53 := Tryz.underlying35
  a53 := Tryz.isAgg35
  z53 := Tryz.sizeOf35
  v53 := Tryz.zeroValue35
  t171 := Tryz.underlying146
  a171 := Tryz.isAgg146
  z171 := Tryz.sizeOf146
  v171 := Tryz.zeroValue146
  t173 := Tryz.underlying149
  a173 := Tryz.isAgg149
  z173 := Tryz.sizeOf149
  v173 := Tryz.zeroValue149
  t212 := Tryz.underlying162
  a212 := Tryz.isAgg162
  z212 := Tryz.sizeOf162
  v212 := Tryz.zeroValue162
  t213 := Tryz.underlying163
  a213 := Tryz.isAgg163
  z213 := Tryz.sizeOf163
  t232 := Tryz.underlying185
  a232 := Tryz.isAgg185
  z232 := Tryz.sizeOf185
  v232 := Tryz.zeroValue185
  t233 := Tryz.underlying186
  a233 := Tryz.isAgg186
  z233 := Tryz.sizeOf186
  v233 := Tryz.zeroValue186
  g17 := by kernel_rfl
  g18 := by kernel_rfl
  g19 := by kernel_rfl
  i0 := by kernel_rfl
  i2 := by kernel_rfl
  i3 := by kernel_rfl
  i4 := by kernel_rfl
  i5 := by kernel_rfl
  i9 := by kernel_rfl
  i20 := by kernel_rfl
  i37 := by kernel_rfl
  i46 := by kernel_rfl
  i51 := by kernel_rfl
  i53 := by kernel_rfl
  i171 := by kernel_rfl
  i173 := by kernel_rfl
  i212 := by kernel_rfl
  i232 := by kernel_rfl
  i233 := by kernel_rfl
  m17 := by kernel_rfl
  m18 := by kernel_rfl
  m19 := by kernel_rfl }
end Go.Proofs.YtapdkkijoflcpaaGreatDoor

/- Contracts: strings.Cut at one byte; strings.Builder; strings.IndexFunc and names. Conditions: none. -/
namespace Go.Vc
open Go.RowKit (Below)
theorem indexByte_cases (l : Str) (c : UInt8) : ((∀ x ∈ l, x ≠ c) ∧ Lib.indexByte l c = -1) ∨ ∃ a r, l = a ++ c :: r ∧ (∀ x ∈ a, x ≠ c) ∧ Lib.indexByte l c = (a.length : Int) := by
  have hge := Lib.indexByte_ge l c
  rcases Int.lt_or_le (Lib.indexByte l c) 0 with h | h
  · left
    have h1 : Lib.indexByte l c = -1 := by omega
    refine ⟨fun x hx e => ?_, h1⟩
    obtain ⟨k, hk, rfl⟩ := List.getElem_of_mem hx
    exact Lib.indexByte_none h1 k (by rw [List.getElem?_eq_getElem hk, e])
  · right
    obtain ⟨o, ho⟩ := Int.eq_ofNat_of_zero_le h
    obtain ⟨h1, h2⟩ := Lib.indexByte_some ho
    obtain ⟨hol, he⟩ := List.getElem?_eq_some_iff.1 h1
    refine ⟨l.take o, l.drop (o + 1), ?_, fun x hx e => ?_, ?_⟩
    · rw [← he, List.getElem_cons_drop, List.take_append_drop]
    · obtain ⟨k, hk, rfl⟩ := List.getElem_of_mem hx
      rw [List.length_take] at hk
      rw [List.getElem_take] at e
      exact h2 k (by omega) (by rw [List.getElem?_eq_getElem (by omega), e])
    · rw [ho, List.length_take, Nat.min_eq_left (by omega)]
section
variable {P : Program} {w : World}
end
end Go.Vc
namespace Go.Proofs.YtapdkkijoflcpaaGreatDoor
open Go.Vc
theorem ok_Index_one (l : Str) (c : UInt8) (w : World) : Ret Tryz.prog (85) #[sv l, sv [c]] w (.int .i64 (Lib.indexByte l c)) := by
  refine ⟨⟨_, Tryz.func85, by kernel_rfl, by kernel_rfl⟩, ?_⟩
  refine (Any.stringslite_Index_one lays219 ⟨l.toArray⟩ c w).mono ?_
  rintro e w' ⟨rfl, rfl⟩
  exact ⟨_, rfl, rfl, Ext.refl _⟩
theorem ok_lite_Cut_miss {t : Str} {c : UInt8} (h : ∀ x ∈ t, x ≠ c) (w : World) : Ret Tryz.prog f_internal_stringslite_Cut #[sv t, sv [c]] w (.tuple #[sv t, sv [], .bool false]) := by
  apply c_internal_stringslite_Cut; unfold S_internal_stringslite_Cut
  refine iRet (ok_Index_one t c w) fun w1 h1 => ?_
  rcases indexByte_cases t c with ⟨_, e⟩ | ⟨a, r, rfl, _, _⟩
  · rw [e]
    ((with_reducible refine iLe ?_))
    exact iCndF rfl ⟨rfl, h1⟩
  · exact absurd rfl (h c (by simp))
theorem ok_lite_Cut_hit {a r : Str} {c : UInt8} (h : ∀ x ∈ a, x ≠ c) (hl : (a ++ c :: r).length ≤ 1099511627776) (w : World) : Ret Tryz.prog f_internal_stringslite_Cut #[sv (a ++ c :: r), sv [c]] w (.tuple #[sv a, sv r, .bool true]) := by
  apply c_internal_stringslite_Cut; unfold S_internal_stringslite_Cut
  refine iRet (ok_Index_one _ c w) fun w1 h1 => ?_
  have key : Lib.indexByte (a ++ c :: r) c = (a.length : Int) := by
    rcases indexByte_cases (a ++ c :: r) c with ⟨h2, _⟩ | ⟨a', r', e, h2, h3⟩
    · exact absurd rfl (h2 c (by simp))
    · rw [h3]
      have : a'.length = a.length := by
        apply Classical.byContradiction
        intro hne
        rcases Nat.lt_or_ge a'.length a.length with hlt | hge
        · have e1 := congrArg (fun l : Str => l[a'.length]?) e
          simp only [List.getElem?_append_left hlt] at e1
          rw [List.getElem?_append_right (Nat.le_refl _), Nat.sub_self] at e1
          exact h c (List.mem_of_getElem? e1) rfl
        · have hlt : a.length < a'.length := by omega
          have e1 := congrArg (fun l : Str => l[a.length]?) e
          simp only [List.getElem?_append_left hlt] at e1
          rw [List.getElem?_append_right (Nat.le_refl _), Nat.sub_self] at e1
          exact h2 c (List.mem_of_getElem? e1.symm) rfl
      rw [this]
  rw [key]
  rw [List.length_append, List.length_cons] at hl
  ((with_reducible refine iLe ?_))
  refine iCndT (by simp) ?_
  refine iTxTo (by simp) ?_
  refine iLenT ?_
  have e1 : (a.length : Int) + (([c] : Str).length : Nat) = ((a.length + 1 : Nat) : Int) := by simp
  refine iAdd (by rw [e1]; omega) ?_
  rw [e1]
  refine iTxFrom (by simp) ?_
  intro w2 h2
  refine ⟨?_, h1.trans h2⟩
  simp
theorem ok_strings_Cut_miss {t : Str} {c : UInt8} (h : ∀ x ∈ t, x ≠ c) (w : World) : Ret Tryz.prog f_strings_Cut #[sv t, sv [c]] w (.tuple #[sv t, sv [], .bool false]) := by
  apply c_strings_Cut; unfold S_strings_Cut
  refine iRet (ok_lite_Cut_miss h w) fun w1 h1 => ?_
  ((with_reducible refine iE30 ?_; refine iE31 ?_; refine iE32 ?_))
  exact ⟨rfl, h1⟩
theorem ok_strings_Cut_hit {a r : Str} {c : UInt8} (h : ∀ x ∈ a, x ≠ c) (hl : (a ++ c :: r).length ≤ 1099511627776) (w : World) : Ret Tryz.prog f_strings_Cut #[sv (a ++ c :: r), sv [c]] w (.tuple #[sv a, sv r, .bool true]) := by
  apply c_strings_Cut; unfold S_strings_Cut
  refine iRet (ok_lite_Cut_hit h hl w) fun w1 h1 => ?_
  ((with_reducible refine iE30 ?_; refine iE31 ?_; refine iE32 ?_))
  exact ⟨rfl, h1⟩
end Go.Proofs.YtapdkkijoflcpaaGreatDoor

/- Contracts: writing to and reading a strings.Builder; the first byte that is no small letter; names. Conditions: none. -/
namespace Go.Vc
open Go.RowKit (Below)
theorem getD_lt' {l : Str} {i : Nat} (h : i < l.length) : l.getD i 0 = l[i] := by simp [List.getD_eq_getElem?_getD, h]
/-- How many small letters stand in front. -/
def smLen (l : Str) : Nat := (l.takeWhile small).length
theorem smLen_at {l : Str} {k : Nat} (hk : k < l.length) (h : ∀ i, i < k → small (l.getD i 0) = true) (hn : small (l.getD k 0) = false) : smLen l = k ∧ l.all small = false := by
  induction l generalizing k with
  | nil => simp at hk
  | cons x l ih =>
    cases k with
    | zero =>
      have hn : small x = false := hn
      simp [smLen, hn]
    | succ k =>
      have hx : small x = true := h 0 (by omega)
      have := ih (k := k) (by simpa using hk) (fun i hi => by simpa using h (i + 1) (by omega)) (by simpa using hn)
      constructor
      · have h1 := this.1
        simp only [smLen] at h1 ⊢
        rw [List.takeWhile_cons, if_pos hx, List.length_cons, h1]
      · rw [List.all_cons, hx, this.2]; rfl
theorem smLen_all {l : Str} (h : ∀ i, i < l.length → small (l.getD i 0) = true) : smLen l = l.length ∧ l.all small = true := by
  have h1 : l.all small = true := by
    rw [List.all_eq_true]
    intro x hx
    obtain ⟨i, hi, rfl⟩ := List.getElem_of_mem hx
    have := h i hi
    rwa [getD_lt' hi] at this
  refine ⟨?_, h1⟩
  unfold smLen
  have : l.takeWhile small = l := by
    clear h
    induction l with
    | nil => rfl
    | cons x l ih =>
      simp only [List.all_cons, Bool.and_eq_true] at h1
      rw [List.takeWhile_cons, if_pos h1.1, ih h1.2]
  rw [this]
/-- The place of the first byte that is no small letter, or -1. -/
def nsIdx (l : Str) : Int := if l.all small then -1 else (smLen l : Int)
theorem not_small {c : UInt8} : (decide (((c.toNat : Nat) : Int) < 97) || decide ((122 : Int) < ((c.toNat : Nat) : Int))) = !small c := by
  unfold small
  rw [Bool.not_and, Bool.or_comm, Bool.or_comm (!_)]
  by_cases h1 : c.toNat < 97
  · rw [decide_eq_true (show ((c.toNat : Nat) : Int) < 97 by omega), decide_eq_false (show ¬ 97 ≤ c.toNat by omega)]; simp
  · rw [decide_eq_false (show ¬ ((c.toNat : Nat) : Int) < 97 by omega), decide_eq_true (show 97 ≤ c.toNat by omega)]
    by_cases h2 : 122 < c.toNat
    · rw [decide_eq_true (show (122 : Int) < ((c.toNat : Nat) : Int) by omega), decide_eq_false (show ¬ c.toNat ≤ 122 by omega)]; rfl
    · rw [decide_eq_false (show ¬ (122 : Int) < ((c.toNat : Nat) : Int) by omega), decide_eq_true (show c.toNat ≤ 122 by omega)]; rfl
end Go.Vc
namespace Go.Proofs.YtapdkkijoflcpaaGreatDoor
open Go.Vc
theorem ok_indexFunc {fv : Value} (hf : ∀ (c : Nat) (w : World), c ≤ 2147483647 → callV Tryz.prog fv [.int .i32 (c : Int)] w fun v w' => v = .bool (decide ((c : Int) < 97) || decide ((122 : Int) < (c : Int))) ∧ Ext w w') {l : Str} (w : World) :
    Ret Tryz.prog f_strings_indexFunc #[sv l, fv, .bool true] w (.int .i64 (nsIdx l)) := by
  apply c_strings_indexFunc; unfold S_strings_indexFunc
  refine iRange (by kernel_rfl) fun b w1 hb h1 hI => ?_
  refine iLp (fun _ : Nat => []) (fun i w' => i ≤ l.length ∧ Ext w w' ∧ It w' b l i ∧ ∀ k, k < i → small (l.getD k 0) = true) (fun i => l.length - i) 0 rfl ⟨Nat.zero_le _, h1, hI, fun k hk => by omega⟩ ?_
  rintro i w3 Kn ⟨hi, h3, hI3, hs⟩ hKn
  intro _
  by_cases hlt : i < l.length
  · refine iNextR hI3 hlt fun c d w4 hd hlow hhigh hc2 hu hI4 => ?_
    have h4 : Ext w w4 := h3.upd hu (by omega)
    ((with_reducible refine iE30 ?_))
    refine iCndT rfl ?_
    ((with_reducible refine iE31 ?_; refine iE32 ?_))
    refine (hf c w4 hc2).mono ?_
    rintro _ w5 ⟨rfl, h5⟩
    refine ⟨_, _, rfl, rfl, ?_⟩
    rcases Nat.lt_or_ge (l.getD i 0).toNat 128 with hb1 | hb1
    · obtain ⟨rfl, rfl⟩ := hlow hb1
      rw [not_small]
      cases hsm : small (l.getD i 0)
      · refine iCndT rfl ?_
        have := smLen_at hlt hs hsm
        refine ⟨?_, h4.trans h5⟩
        unfold nsIdx
        rw [this.2, if_neg (by decide), this.1]
      · refine iCndF rfl ?_
        refine hKn (i + 1) _ ⟨by omega, h4.trans h5, hI4.ext h5, fun k hk => ?_⟩ (by omega)
        by_cases hki : k = i
        · rw [hki]; exact hsm
        · exact hs k (by omega)
    · have hcge := hhigh hb1
      rw [show decide ((122 : Int) < (c : Int)) = true by rw [decide_eq_true_eq]; omega, Bool.or_true]
      refine iCndT rfl ?_
      have hsm : small (l.getD i 0) = false := by unfold small; rw [decide_eq_false (show ¬ (l.getD i 0).toNat ≤ 122 by omega), Bool.and_false]
      have := smLen_at hlt hs hsm
      refine ⟨?_, h4.trans h5⟩
      unfold nsIdx
      rw [this.2, if_neg (by decide), this.1]
  · have e : i = l.length := by omega
    subst e
    refine iNextE hI3 (Nat.le_refl _) ?_
    refine iEx (by rfl) ?_
    refine iCndF rfl ?_
    refine ⟨?_, h3⟩
    unfold nsIdx
    rw [(smLen_all hs).2, if_pos rfl]
theorem ok_IndexFunc {fv : Value} (hf : ∀ (c : Nat) (w : World), c ≤ 2147483647 → callV Tryz.prog fv [.int .i32 (c : Int)] w fun v w' => v = .bool (decide ((c : Int) < 97) || decide ((122 : Int) < (c : Int))) ∧ Ext w w') {l : Str} (w : World) :
    Ret Tryz.prog f_strings_IndexFunc #[sv l, fv] w (.int .i64 (nsIdx l)) := by
  apply c_strings_IndexFunc; unfold S_strings_IndexFunc
  exact iRet (ok_indexFunc hf w) fun w1 h1 => ⟨rfl, h1⟩
theorem ok_strings_ContainsFunc {fv : Value} (hf : ∀ (c : Nat) (w : World), c ≤ 2147483647 → callV Tryz.prog fv [.int .i32 (c : Int)] w fun v w' => v = .bool (decide ((c : Int) < 97) || decide ((122 : Int) < (c : Int))) ∧ Ext w w') {l : Str} (w : World) :
    Ret Tryz.prog f_strings_ContainsFunc #[sv l, fv] w (.bool !(l.all small)) := by
  apply c_strings_ContainsFunc; unfold S_strings_ContainsFunc
  refine iRet (ok_IndexFunc hf w) fun w1 h1 => ?_
  ((with_reducible refine iLe ?_))
  refine ⟨?_, h1⟩
  unfold nsIdx
  cases l.all small
  · rw [if_neg (by decide)]; simp
  · rw [if_pos rfl]; rfl
theorem ok_impl_isName_1 (c : Nat) (w : World) (_hc : c ≤ 2147483647) : callV Tryz.prog (.func (.func f_impl_isName_1) #[] #[]) [.int .i32 (c : Int)] w fun v w' => v = .bool (decide ((c : Int) < 97) || decide ((122 : Int) < (c : Int))) ∧ Ext w w' := by
  refine iCall ?_
  show Cal Tryz.prog f_impl_isName_1 #[.int .i32 (c : Int)] w _
  apply c_impl_isName_1; unfold S_impl_isName_1
  refine iJnB (decide ((c : Int) < 97) || decide ((122 : Int) < (c : Int))) w (fun J hJ => ?_) (fun w2 h2 => ?_)
  · ((with_reducible refine iLt ?_))
    refine iCndP (fun h => ?_) (fun h => ?_)
    · rw [decide_eq_true h, Bool.true_or] at hJ
      exact hJ w (Ext.refl _)
    · rw [decide_eq_false h, Bool.false_or] at hJ
      ((with_reducible refine iLt ?_))
      exact hJ w (Ext.refl _)
  · intro _
    exact ⟨rfl, h2⟩
theorem ok_impl_isName {t : Str} (ht : t.length ≤ 1099511627776) (w : World) : Ret Tryz.prog f_impl_isName #[sv t] w (.bool (nameOk t)) := by
  apply c_impl_isName; unfold S_impl_isName
  refine iJnB (nameOk t) w (fun J hJ => ?_) (fun w2 h2 => fun _ => ⟨rfl, h2⟩)
  unfold nameOk at hJ
  refine iLenT ?_
  ((with_reducible refine iLe ?_))
  refine iCndP (fun h1 => ?_) (fun h1 => ?_)
  · refine iLenT ?_
    ((with_reducible refine iLe ?_))
    refine iCndP (fun h2 => ?_) (fun h2 => ?_)
    · refine iRet (ok_strings_ContainsFunc ok_impl_isName_1 w) fun w3 h3 => ?_
      ((with_reducible refine iNot ?_))
      rw [decide_eq_true (show 1 ≤ t.length by omega), decide_eq_true (show t.length ≤ 8 by omega), Bool.and_true, Bool.and_true] at hJ
      rw [Bool.not_not]
      exact hJ w3 h3
    · rw [decide_eq_false (show ¬ t.length ≤ 8 by omega), Bool.and_false, Bool.and_false] at hJ
      exact hJ w (Ext.refl _)
  · rw [decide_eq_false (show ¬ 1 ≤ t.length by omega), Bool.false_and, Bool.and_false] at hJ
    exact hJ w (Ext.refl _)
theorem ok_spec_l35Name {t : Str} (ht : t.length ≤ 1099511627776) (w : World) : Ret Tryz.prog f_spec_l35Name #[sv t] w (.bool (nameOk t)) := by
  apply c_spec_l35Name; unfold S_spec_l35Name
  refine iLp (fun i : Nat => [.int .i64 (i : Int)]) (fun i w' => i ≤ t.length ∧ Ext w w' ∧ ∀ k, k < i → small (t.getD k 0) = true) (fun i => t.length - i) 0 rfl ⟨Nat.zero_le _, Ext.refl _, fun k hk => by omega⟩ ?_
  rintro i w2 Kn ⟨hi, h2, hs⟩ hKn
  (intro _; (try simp only [gx]))
  refine iLenT ?_
  ((with_reducible refine iLt ?_))
  refine iCndP (fun h3 => ?_) (fun h3 => ?_)
  · have hlt : i < t.length := by omega
    refine iJnB (!small (t.getD i 0)) w2 (fun J hJ => ?_) (fun w4 h4 => ?_)
    · rw [← not_small] at hJ
      refine iIs hlt ?_
      ((with_reducible refine iLt ?_))
      refine iCndP (fun h => ?_) (fun h => ?_)
      · rw [decide_eq_true h, Bool.true_or] at hJ
        exact hJ w2 (Ext.refl _)
      · rw [decide_eq_false h, Bool.false_or] at hJ
        refine iIs hlt ?_
        ((with_reducible refine iLt ?_))
        exact hJ w2 (Ext.refl _)
    · intro _
      cases hsm : small (t.getD i 0)
      · refine iCndT rfl ⟨?_, h2.trans h4⟩
        unfold nameOk
        rw [(smLen_at hlt hs hsm).2, Bool.false_and]
      · refine iCndF rfl ?_
        (refine iAdd (by omega) ?_)
        refine hKn (i + 1) _ ⟨by omega, h2.trans h4, fun k hk => ?_⟩ (by omega)
        by_cases hki : k = i
        · rw [hki]; exact hsm
        · exact hs k (by omega)
  · have e : i = t.length := by omega
    subst e
    have hall := (smLen_all hs).2
    refine iJnB (nameOk t) w2 (fun J hJ => ?_) (fun w4 h4 => fun _ => ⟨rfl, h2.trans h4⟩)
    unfold nameOk at hJ
    rw [hall, Bool.true_and] at hJ
    refine iLenT ?_
    ((with_reducible refine iLe ?_))
    refine iCndP (fun h => ?_) (fun h => ?_)
    · rw [decide_eq_true (show 1 ≤ t.length by omega), Bool.true_and] at hJ
      refine iLenT ?_
      ((with_reducible refine iLe ?_))
      rw [show decide (((t.length : Nat) : Int) ≤ 8) = decide (t.length ≤ 8) from decide_eq_decide.2 (by omega)]
      exact hJ w2 (Ext.refl _)
    · rw [decide_eq_false (show ¬ 1 ≤ t.length by omega), Bool.false_and] at hJ
      exact hJ w2 (Ext.refl _)
end Go.Proofs.YtapdkkijoflcpaaGreatDoor

/- Contracts: a text's pieces and references in the reference (l36Cut, l36Fill, l36Form). Conditions: none. -/
namespace Go.Vc
/-! ### Rows of strings -/
def strs (L : List Str) : List Value := L.map sv
theorem strs_len (L : List Str) : (strs L).length = L.length := List.length_map _
theorem strs_snoc (L : List Str) (s : Str) : strs L ++ [sv s] = strs (L ++ [s]) := by simp [strs]
abbrev SlT (w : World) (v : Value) (L : List Str) : Prop := Sl w v (strs L)
theorem iIaT {w : World} {v : Value} {L : List Str} {j : Nat} {k : IntKind} {K : Value → Prop} (hs : SlT w v L) (hj : j < L.length) (h : ∀ p, w.cell? p = some (sv L[j]) → K (.pointer (some p))) : xIa 1 v (.int k (j : Int)) K := by
  refine iIa hs (by omega) (by rw [strs_len]; omega) fun p hp => h p (hp.trans ?_)
  rw [Int.toNat_natCast]
  simp [strs, hj]
theorem iLenStr {w : World} {v : Value} {L : List Str} {K : Value → Prop} (hs : SlT w v L) (h : K (.int .i64 (L.length : Nat))) : xLenS v K := iLenS hs (by rw [strs_len]; exact h)
theorem strs_cell (L : List Str) : ∀ u ∈ strs L, isCell u = true := by
  intro u hu
  obtain ⟨s, _, rfl⟩ := List.mem_map.1 hu
  rfl
end Go.Vc
namespace Go.Proofs.YtapdkkijoflcpaaGreatDoor
open Go.Vc
end Go.Proofs.YtapdkkijoflcpaaGreatDoor

/- Contracts: any drawn formulas; small ones; damaged texts. Conditions: none. -/
namespace Go.Vc
/-- A row of given texts. -/
theorem iBsC {w : World} {e : TypeId} {z : Value} {n : Nat} {ps : List (Nat × Value)} {K : Value → World → Prop} (L : List Str) (hf : Instr.fill (fun i => some (i * 1, 1)) ((Array.range (n * 1)).map (fun i => (Value.cells z)[i % (Value.cells z).size]!)) ps = some (strs L).toArray) 
    (h : ∀ b w', b = w.heap.size → Ext w w' → Blk e w' b (strs L) → K (.slice (some ⟨b, 0, none⟩) n n) w') : xBs e (Value.cells z) 1 n ps w K :=
  ⟨_, hf, h _ _ rfl (Ext.alloc w _) (Blk.new w (strs L).toArray e)⟩
theorem Blk.slt {w : World} {e : TypeId} {b n : Nat} {L : List Str} (h : Blk e w b (strs L)) (hn : L.length = n) (hm : n ≤ 1000) : SlT w (.slice (some ⟨b, 0, none⟩) n n) L := Sl.ofBlk (n := n) h (by rw [strs_len, hn]) (by omega)
end Go.Vc
namespace Go.Proofs.YtapdkkijoflcpaaGreatDoor
open Go.Vc
theorem FmW.raw {lo : Nat} {w : World} {v : Value} {f : Fm} (h : FmW lo w v f) : RawW lo t_impl_Node w v (rawF f) := by
  show OwK 2 _ _ _ _ (rawF f).length (cellsN (rawF f))
  rw [rawF_len, cellsN_raw]; exact h
theorem FmW.ofRaw {lo : Nat} {w : World} {v : Value} {f : Fm} (h : RawW lo t_impl_Node w v (rawF f)) : FmW lo w v f := by
  have h : OwK 2 _ _ _ _ (rawF f).length (cellsN (rawF f)) := h
  rwa [rawF_len, cellsN_raw] at h
theorem ok_spec_l02Any {e : TypeId} (hneN : t_impl_Node ≠ e) {w0 : World} {vc : Value} {bs : List Nat} (hc : SlB w0 vc bs) {b k : Nat} (hk : 1 ≤ k ∧ k ≤ 6) (m : Bool) {n : Nat} (hn : 1 ≤ n ∧ n ≤ 100) {w : World} (hS : Vc.Src e w0 vc b w) :
    Drw Tryz.prog f_spec_l02Any #[.pointer (some ⟨b, 0, none⟩), .int .i64 (n : Int), .int .i64 (k : Int), .bool m] e w0 vc b w fun r w' => ∃ N : List RN, N.length ≤ 200 ∧ RawW w.heap.size t_impl_Node w' r N := by
  apply c_spec_l02Any; unfold S_spec_l02Any
  refine iCall ((ok_spec_l02Draw hneN hc hk m n hS hn.1 (by omega)).mono ?_)
  rintro v w1 ⟨⟨f, gf, sf, hf⟩, hS1, hch1⟩
  refine iCall ((ok_spec_l01Next hc hS1 40).mono ?_)
  rintro _ w2 ⟨⟨x, rfl, _, _⟩, hS2, hch2⟩
  have hf2 := OwK.src hf hS1 hneN hch2
  have hC2 := ch_self hch1 hch2
  refine iEq (iCndP (fun _ => ?_) (fun _ => ?_))
  · have hr := FmW.raw hf2
    have hpos : 1 ≤ f.size := by have := f.size_kids; omega
    refine iCall ((ok_spec_l02Bend hneN hc hS2 hr.sl ⟨by rw [rawF_len]; exact hpos, by rw [rawF_len]; omega⟩).mono ?_)
    rintro u w3 ⟨⟨M, hM, hu⟩, hS3, hch3⟩
    rw [rawF_len] at hM
    exact ⟨⟨M, by omega, OwK.mono hu hC2.size⟩, hS3, ch_self hC2 hch3⟩
  refine iEq (iCndP (fun _ => ?_) (fun _ => ?_))
  · refine iLp (fun s : Value × Nat => [s.1]) (fun s w' => Vc.Src e w0 vc b w' ∧ Ch (fun c => c = b) w w' ∧ s.2 ≤ 200 ∧ ∃ f : Fm, f.good ∧ f.size = s.2 ∧ FmW w.heap.size w' s.1 f) (fun s => 200 - s.2) (v, f.size) rfl ⟨hS2, hC2, by show f.size ≤ 200; omega, f, gf, rfl, hf2⟩ ?_
    rintro ⟨u, z⟩ w5 Kn ⟨hS5, hC5, hz, a, ga, sa, ha⟩ hKn
    have sa : a.size = z := sa
    have hz : z ≤ 200 := hz
    have ha : FmW w.heap.size w5 u a := ha
    intro _
    refine iJnX (fun xs w' => (∃ t, xs = [.bool t] ∧ (t = true → z ≤ 40)) ∧ Vc.Src e w0 vc b w' ∧ Ch (fun c => c = b) w w' ∧ FmW w.heap.size w' u a) (fun J hJ => ?_) ?_
    · refine iLenK ha.sl ?_
      refine iLe (iCndP (fun h => ?_) (fun h => ?_))
      · refine iCall ((ok_spec_l01Next hc hS5 60).mono ?_)
        rintro _ w8 ⟨⟨y, rfl, _, _⟩, hS8, hch8⟩
        refine iLt ?_
        exact hJ _ _ ⟨⟨_, rfl, fun _ => by omega⟩, hS8, ch_self hC5 hch8, OwK.src ha hS5 hneN hch8⟩
      · exact hJ _ _ ⟨⟨false, rfl, fun h => by cases h⟩, hS5, hC5, ha⟩
    rintro _ w7 ⟨⟨t, rfl, ht⟩, hS7, hC7, ha7⟩
    intro _
    cases t with
    | false => exact iCndF rfl ⟨⟨rawF a, by rw [rawF_len]; omega, FmW.raw ha7⟩, hS7, hC7⟩
    | true =>
      have ht := ht rfl
      refine iCndT rfl ?_
      refine iCall ((ok_spec_l01Next hc hS7 3).mono ?_)
      rintro _ w9 ⟨⟨q, rfl, hq, _⟩, hS9, hch9⟩
      have hq := hq (by omega)
      have hC9 := ch_self hC7 hch9
      have ha9 := OwK.src ha7 hS7 hneN hch9
      refine iAdd (by omega) ?_
      rw [show (2 : Int) + (q : Int) = ((2 + q : Nat) : Int) by omega]
      refine iCall ((ok_spec_l02Draw hneN hc hk m 6 hS9 (by omega) (by omega)).mono ?_)
      rintro u2 w10 ⟨⟨a2, ga2, sa2, ha2⟩, hS10, hch10⟩
      have hC10 := ch_self hC9 hch10
      have ha10 := OwK.src ha9 hS9 hneN hch10
      refine iCall ((ok_spec_l02Pair (c := binF q a a2) (binF_cells (by omega) a a2) (binF_size q a a2) ha10.sl ha2.sl (by rw [binF_size]; omega)).mono ?_)
      rintro r w11 ⟨x11, hr⟩
      have hsz := binF_size q a a2
      exact hKn (r, (binF q a a2).size) _ ⟨hS10.later x11, ch_ext hC10 x11, by show (binF q a a2).size ≤ 200; omega, binF q a a2, binF_good q ga ga2, rfl, OwK.mono hr hC10.size⟩ (by show 200 - (binF q a a2).size < 200 - z; omega)
  · exact ⟨⟨rawF f, by rw [rawF_len]; omega, FmW.raw hf2⟩, hS2, hC2⟩
theorem ok_spec_l17Plain {e : TypeId} (hneN : t_impl_Node ≠ e) {w0 : World} {vc : Value} {bs : List Nat} (hc : SlB w0 vc bs) {b k : Nat} (hk : 1 ≤ k ∧ k ≤ 6) {n : Nat} (hn : 1 ≤ n ∧ n ≤ 100) {w : World} (hS : Vc.Src e w0 vc b w) :
    Drw Tryz.prog f_spec_l17Plain #[.pointer (some ⟨b, 0, none⟩), .int .i64 (n : Int), .int .i64 (k : Int)] e w0 vc b w fun r w' => ∃ N : List RN, N.length ≤ 200 ∧ RawW w.heap.size t_impl_Node w' r N := by
  apply c_spec_l17Plain; unfold S_spec_l17Plain
  refine iCall ((ok_spec_l01Next hc hS 30).mono ?_)
  rintro _ w1 ⟨⟨x, rfl, _, _⟩, hS1, hch1⟩
  refine iEq ?_
  refine iCall ((ok_spec_l02Any hneN hc hk _ hn hS1).mono ?_)
  rintro u w2 ⟨⟨N, hN, hu⟩, hS2, hch2⟩
  exact ⟨⟨N, hN, OwK.mono hu hch1.size⟩, hS2, ch_self hch1 hch2⟩
def l23Texts : List Str := [[112, 124, 126, 112], [126, 126, 112, 62, 112], [40, 40, 112, 62, 113, 41, 62, 112, 41, 62, 112], [126, 126, 40, 112, 124, 126, 112, 41], [40, 112, 62, 113, 41, 124, 40, 113, 62, 112, 41], [126, 40, 112, 38, 113, 41, 62, 126, 112, 124, 126, 113], [126, 112, 124, 126, 126, 112], [112, 62, 126, 126, 112], [40, 112, 62, 113, 41, 62, 126, 113, 62, 126, 112], [126, 126, 40, 112, 62, 113, 41, 62, 126, 126, 112, 62, 126, 126, 113], [40, 126, 112, 62, 113, 124, 114, 41, 62, 40, 126, 112, 62, 113, 41, 124, 40, 126, 112, 62, 114, 41], [112, 38, 40, 113, 124, 114, 41, 62, 112, 38, 113, 124, 112, 38, 114]]
theorem ok_spec_l23Small {e : TypeId} (hneN : t_impl_Node ≠ e) {w0 : World} {vc : Value} {bs : List Nat} (hc : SlB w0 vc bs) {b : Nat} {n : Nat} (hn : 1 ≤ n ∧ n ≤ 100) {w : World} (hS : Vc.Src e w0 vc b w) :
    Drw Tryz.prog f_spec_l23Small #[.pointer (some ⟨b, 0, none⟩), .int .i64 (n : Int)] e w0 vc b w fun r w' => ∃ N : List RN, N.length ≤ 1000 ∧ RawW w.heap.size t_impl_Node w' r N := by
  apply c_spec_l23Small; unfold S_spec_l23Small
  refine iBsC l23Texts (by kernel_rfl) fun q w1 hq x1 hT => ?_
  have hS1 := hS.later x1
  have hC1 : Ch (fun c => c = b) w w1 := x1.ch (S := fun c => c = b)
  have hqb : ¬ q = b := by have := hS.lt; omega
  refine iCall ((ok_spec_l01Next hc hS1 4).mono ?_)
  rintro _ w2 ⟨⟨x, rfl, _, _⟩, hS2, hch2⟩
  have hC2 := ch_self hC1 hch2
  refine iEq (iCndP (fun _ => ?_) (fun _ => ?_))
  · have hT2 := hT.ch hch2 hqb
    refine iLenStr (hT2.slt (n := 12) rfl (by decide)) ?_
    refine iCall ((ok_spec_l01Next hc hS2 _).mono ?_)
    rintro _ w3 ⟨⟨y, rfl, hy, _⟩, hS3, hch3⟩
    have hy := hy (by decide)
    have hyl : y < l23Texts.length := by omega
    have hC3 := ch_self hC2 hch3
    refine iIaT ((hT2.ch hch3 hqb).slt (n := 12) rfl (by decide)) hyl fun p hp => ?_
    refine iLd hp ?_
    have hlen : (l23Texts[y]).length ≤ 100 := (show ∀ t ∈ l23Texts, t.length ≤ 100 by decide) _ (List.getElem_mem hyl)
    refine iCall ((ok_spec_l02Read (t := l23Texts[y]) (by omega) w3).mono ?_)
    rintro _ w4 ⟨x4, v, rfl, hv1, hv2⟩
    refine iE20 (iE21 ?_)
    refine ⟨?_, hS3.later x4, ch_ext hC3 x4⟩
    cases hr : rdOk l23Texts[y] with
    | true =>
      have := rd_size l23Texts[y]
      exact ⟨rawF (rd l23Texts[y]).1, by rw [rawF_len]; omega, FmW.raw (OwK.mono (hv1 hr) hC3.size)⟩
    | false =>
      rw [hv2 hr]
      exact ⟨[], by decide, OwK.nil _ _ _ _⟩
  · refine iCall ((ok_spec_l17Plain hneN hc (k := 3) (by decide) hn hS2).mono ?_)
    rintro u w5 ⟨⟨N, hN, hu⟩, hS5, hch5⟩
    exact ⟨⟨N, by omega, OwK.mono hu hC2.size⟩, hS5, ch_self hC2 hch5⟩
end Go.Proofs.YtapdkkijoflcpaaGreatDoor

/- Contracts: a text with its references replaced, in the program (replaced, isExpression, references$1). Conditions: none. -/
namespace Go.Vc
open Go.RowKit (Below)
end Go.Vc
namespace Go.Proofs.YtapdkkijoflcpaaGreatDoor
open Go.Vc
end Go.Proofs.YtapdkkijoflcpaaGreatDoor

/- Plain facts on sorting in place: swaps in a part of a list, insertion, heaps, partitions. No program in sight. Conditions: none. -/
namespace Go.Vc
universe u
section
variable {α : Type u} [Inhabited α]
/-- The k-th element. -/
def gt (L : List α) (k : Nat) : α := L.getD k default
theorem gt_eq {L : List α} {k : Nat} (h : k < L.length) : gt L k = L[k] := by unfold gt; simp [List.getD_eq_getElem?_getD, h]
theorem gt_set {L : List α} {i : Nat} (x : α) (hi : i < L.length) (k : Nat) : gt (L.set i x) k = if k = i then x else gt L k := by
  unfold gt
  simp only [List.getD_eq_getElem?_getD, List.getElem?_set]
  by_cases h : i = k
  · subst h; simp [hi]
  · simp [h, Ne.symm h]
def sw (L : List α) (i j : Nat) : List α := (L.set i (gt L j)).set j (gt L i)
theorem sw_len (L : List α) (i j : Nat) : (sw L i j).length = L.length := by simp [sw]
theorem gt_sw {L : List α} {i j : Nat} (hi : i < L.length) (hj : j < L.length) (k : Nat) : gt (sw L i j) k = if k = j then gt L i else if k = i then gt L j else gt L k := by
  unfold sw
  rw [gt_set _ (by simpa using hj), gt_set _ hi]
theorem sw_perm {L : List α} {i j : Nat} (hi : i < L.length) (hj : j < L.length) : List.Perm (sw L i j) L := by
  unfold sw
  rw [gt_eq hi, gt_eq hj]
  exact List.set_set_perm hi hj
/-- Swaps of places from a to below b. -/
inductive SwR (a b : Nat) (L : List α) : List α → Prop
  | refl : SwR a b L L
  | step {L' : List α} {i j : Nat} : SwR a b L L' → a ≤ i → i < b → a ≤ j → j < b → b ≤ L.length → SwR a b L (sw L' i j)
theorem SwR.len {a b : Nat} {L L' : List α} (h : SwR a b L L') : L'.length = L.length := by
  induction h with
  | refl => rfl
  | step _ _ _ _ _ _ ih => rw [sw_len, ih]
theorem SwR.perm {a b : Nat} {L L' : List α} (h : SwR a b L L') : List.Perm L' L := by
  induction h with
  | refl => exact List.Perm.refl _
  | step hs _ _ _ _ _ ih => exact (sw_perm (by rw [hs.len]; omega) (by rw [hs.len]; omega)).trans ih
theorem SwR.trans {a b : Nat} {L L' L'' : List α} (h : SwR a b L L') (k : SwR a b L' L'') : SwR a b L L'' := by
  induction k with
  | refl => exact h
  | step _ h1 h2 h3 h4 h5 ih => exact .step ih h1 h2 h3 h4 (by rw [← h.len]; exact h5)
theorem SwR.mono {a b a' b' : Nat} {L L' : List α} (h : SwR a b L L') (ha : a' ≤ a) (hb : b ≤ b') (hl : b' ≤ L.length) : SwR a' b' L L' := by
  induction h with
  | refl => exact .refl
  | step _ h1 h2 h3 h4 _ ih => exact .step ih (by omega) (by omega) (by omega) (by omega) hl
theorem SwR.out {a b : Nat} {L L' : List α} (h : SwR a b L L') {k : Nat} (hk : k < a ∨ b ≤ k) : gt L' k = gt L k := by
  induction h with
  | refl => rfl
  | step hs h1 h2 h3 h4 h5 ih => rw [gt_sw (by rw [hs.len]; omega) (by rw [hs.len]; omega), if_neg (by omega), if_neg (by omega), ih]
theorem SwR.all {a b : Nat} {L L' : List α} (h : SwR a b L L') {p : α → Prop} (hp : ∀ k, a ≤ k → k < b → p (gt L k)) : ∀ k, a ≤ k → k < b → p (gt L' k) := by
  induction h with
  | refl => exact hp
  | step hs h1 h2 h3 h4 h5 ih =>
    intro k hk hk'
    rw [gt_sw (by rw [hs.len]; omega) (by rw [hs.len]; omega)]
    split
    · exact ih _ h1 h2
    · split
      · exact ih _ h3 h4
      · exact ih _ hk hk'
theorem SwR.one {a b i j : Nat} {L : List α} (h1 : a ≤ i) (h2 : i < b) (h3 : a ≤ j) (h4 : j < b) (h5 : b ≤ L.length) : SwR a b L (sw L i j) := .step .refl h1 h2 h3 h4 h5
/-- A total order that need not tell all apart, by 'less'. -/
structure Ordr (lt : α → α → Bool) : Prop where
  asym : ∀ {a b}, lt a b = true → lt b a = false
  tr : ∀ {a b c}, lt b a = false → lt c b = false → lt c a = false
variable {lt : α → α → Bool}
 omit [Inhabited α] in
theorem Ordr.rfl (O : Ordr lt) (a : α) : lt a a = false := by
  cases h : lt a a
  · exact Eq.refl _
  · have := O.asym h; rw [h] at this; exact this
 omit [Inhabited α] in
theorem Ordr.lt_le (O : Ordr lt) {a b c : α} (h : lt a b = true) (k : lt c b = false) : lt a c = true := by
  cases h' : lt a c
  · have := O.tr (a := b) (b := c) (c := a) k h'; rw [h] at this; cases this
  · exact Eq.refl _
 omit [Inhabited α] in
/-- In order from a to below b. -/
def Srt (lt : α → α → Bool) (a b : Nat) (L : List α) : Prop := ∀ p q, a ≤ p → p < q → q < b → lt (gt L q) (gt L p) = false
theorem Srt.mono {a b a' b' : Nat} {L : List α} (h : Srt lt a b L) (ha : a ≤ a') (hb : b' ≤ b) : Srt lt a' b' L := fun p q h1 h2 h3 => h p q (by omega) h2 (by omega)
theorem Srt.short {a b : Nat} {L : List α} (h : b ≤ a + 1) : Srt lt a b L := fun p q h1 h2 h3 => by omega
theorem Srt.out {a b c d : Nat} {L L' : List α} (h : Srt lt a b L) (hs : SwR c d L L') (hd : d ≤ a ∨ b ≤ c) : Srt lt a b L' := fun p q h1 h2 h3 => by
  rw [hs.out (by omega), hs.out (by omega)]; exact h p q h1 h2 h3
/-! ### Insertion -/
/-- In order but for the pairs whose upper place is j. -/
def Ins (lt : α → α → Bool) (a i j : Nat) (L : List α) : Prop := ∀ p q, a ≤ p → p < q → q ≤ i → q ≠ j → lt (gt L q) (gt L p) = false
theorem Ins.init {a i : Nat} {L : List α} (h : Srt lt a i L) : Ins lt a i i L := fun p q h1 h2 h3 h4 => h p q h1 h2 (by omega)
theorem Ins.done (O : Ordr lt) {a i j : Nat} {L : List α} (h : Ins lt a i j L) (hj : j ≤ a ∨ (a < j ∧ lt (gt L j) (gt L (j - 1)) = false)) (hji : j ≤ i) : Srt lt a (i + 1) L := fun p q h1 h2 h3 => by
  by_cases hq : q = j
  · subst hq
    rcases hj with hj | ⟨h4, h5⟩
    · omega
    · by_cases hp : p = q - 1
      · subst hp; exact h5
      · exact O.tr (h p (q - 1) h1 (by omega) (by omega) (by omega)) h5
  · exact h p q h1 h2 (by omega) hq
theorem Ins.swap (O : Ordr lt) {a i j : Nat} {L : List α} (h : Ins lt a i j L) (haj : a < j) (hji : j ≤ i) (hi : i < L.length) (hlt : lt (gt L j) (gt L (j - 1)) = true) : Ins lt a i (j - 1) (sw L j (j - 1)) := fun p q h1 h2 h3 h4 => by
  rw [gt_sw (by omega) (by omega), gt_sw (by omega) (by omega)]
  rw [if_neg h4]
  by_cases hq : q = j
  · subst hq
    rw [if_pos rfl]
    by_cases hp : p = q - 1
    · rw [if_pos hp]; exact O.asym hlt
    · rw [if_neg hp, if_neg (by omega)]; exact h p (q - 1) h1 (by omega) (by omega) (by omega)
  · rw [if_neg hq]
    by_cases hp : p = j - 1
    · rw [if_pos hp]; exact h j q (by omega) (by omega) h3 hq
    · rw [if_neg hp]
      by_cases hp2 : p = j
      · rw [if_pos hp2]; exact h (j - 1) q (by omega) (by omega) h3 hq
      · rw [if_neg hp2]; exact h p q h1 h2 h3 hq
/-! ### Heaps -/
/-- From the place 'first' on, 'hi' many: no child of a place from lo on, other than r, is more than it. -/
def Heap (lt : α → α → Bool) (first lo hi : Nat) (L : List α) : Prop := ∀ p c, lo ≤ p → (c = 2 * p + 1 ∨ c = 2 * p + 2) → c < hi → lt (gt L (first + p)) (gt L (first + c)) = false
/-- The same but for the root r, whose children are no more than its parent. -/
def Sift (lt : α → α → Bool) (first lo hi r : Nat) (L : List α) : Prop :=
  (∀ p c, lo ≤ p → p ≠ r → (c = 2 * p + 1 ∨ c = 2 * p + 2) → c < hi → lt (gt L (first + p)) (gt L (first + c)) = false) ∧
  (∀ p c, lo ≤ p → (r = 2 * p + 1 ∨ r = 2 * p + 2) → (c = 2 * r + 1 ∨ c = 2 * r + 2) → c < hi → lt (gt L (first + p)) (gt L (first + c)) = false)
theorem Sift.init {first lo hi : Nat} {L : List α} (h : Heap lt first (lo + 1) hi L) : Sift lt first lo hi lo L :=
  ⟨fun p c h1 h2 h3 h4 => h p c (by omega) h3 h4, fun p c h1 h2 h3 h4 => by omega⟩
theorem Sift.done {first lo hi r : Nat} {L : List α} (h : Sift lt first lo hi r L) (hr : ∀ c, (c = 2 * r + 1 ∨ c = 2 * r + 2) → c < hi → lt (gt L (first + r)) (gt L (first + c)) = false) : Heap lt first lo hi L := fun p c h1 h2 h3 => by
  by_cases hp : p = r
  · subst hp; exact hr c h2 h3
  · exact h.1 p c h1 hp h2 h3
theorem Sift.swap (O : Ordr lt) {first lo hi r c : Nat} {L : List α} (h : Sift lt first lo hi r L) (hlo : lo ≤ r) (hc : c = 2 * r + 1 ∨ c = 2 * r + 2) (hch : c < hi) (hl : first + hi ≤ L.length)
    (hlt : lt (gt L (first + r)) (gt L (first + c)) = true) (hmax : ∀ d, (d = 2 * r + 1 ∨ d = 2 * r + 2) → d < hi → lt (gt L (first + c)) (gt L (first + d)) = false) :
    Sift lt first lo hi c (sw L (first + r) (first + c)) := by
  have e : ∀ k, k < hi → gt (sw L (first + r) (first + c)) (first + k) = if k = c then gt L (first + r) else if k = r then gt L (first + c) else gt L (first + k) := fun k hk => by
    rw [gt_sw (by omega) (by omega)]
    simp only [Nat.add_left_cancel_iff]
  constructor
  · intro p d h1 h2 h3 h4
    rw [e p (by omega), e d h4, if_neg h2]
    by_cases hp : p = r
    · subst hp
      rw [if_pos rfl]
      by_cases hd : d = c
      · rw [if_pos hd]; exact O.asym hlt
      · rw [if_neg hd, if_neg (by omega)]; exact hmax d h3 h4
    · rw [if_neg hp]
      have hdc : d ≠ c := by omega
      rw [if_neg hdc]
      by_cases hd : d = r
      · rw [if_pos hd]; subst hd; exact h.2 p c h1 h3 hc hch
      · rw [if_neg hd]; exact h.1 p d h1 hp h3 h4
  · intro p d h1 h2 h3 h4
    have hp : p = r := by omega
    subst hp
    rw [e p (by omega), e d h4, if_neg (by omega), if_pos rfl, if_neg (by omega), if_neg (by omega)]
    exact h.1 c d (by omega) (by omega) h3 h4
theorem Heap.top (O : Ordr lt) {first hi : Nat} {L : List α} (h : Heap lt first 0 hi L) : ∀ k, k < hi → lt (gt L first) (gt L (first + k)) = false := by
  intro k
  induction k using Nat.strongRecOn with
  | ind k ih =>
    intro hk
    by_cases h0 : k = 0
    · subst h0; exact O.rfl _
    · exact O.tr (h ((k - 1) / 2) k (Nat.zero_le _) (by omega) hk) (ih ((k - 1) / 2) (by omega) (by omega))
/-! ### Windows -/
/-- All pairs but those inside the window are in order. -/
def Crs (lt : α → α → Bool) (a0 b0 a b : Nat) (L : List α) : Prop := ∀ p q, a0 ≤ p → p < q → q < b0 → ¬ (a ≤ p ∧ q < b) → lt (gt L q) (gt L p) = false
/-- Nothing in the window is less than what lies before it. -/
def Blw (lt : α → α → Bool) (a b : Nat) (L : List α) : Prop := ∀ k, a ≤ k → k < b → 1 ≤ a → lt (gt L k) (gt L (a - 1)) = false
theorem Crs.all {a b : Nat} {L : List α} : Crs lt a b a b L := fun _ _ h1 _ h3 h4 => (h4 ⟨h1, h3⟩).elim
theorem Crs.keep {a0 b0 a b : Nat} {L L' : List α} (h : Crs lt a0 b0 a b L) (hs : SwR a b L L') (ha : a0 ≤ a) (hb : b ≤ b0) : Crs lt a0 b0 a b L' := fun p q h1 h2 h3 h4 => by
  by_cases hp : a ≤ p ∧ p < b
  · rw [hs.out (k := q) (by omega)]
    exact hs.all (p := fun x => lt (gt L q) x = false) (fun k hk hk' => h k q (by omega) (by omega) h3 (by omega)) p hp.1 hp.2
  · rw [hs.out (k := p) (by omega)]
    by_cases hq : a ≤ q ∧ q < b
    · exact hs.all (p := fun x => lt x (gt L p) = false) (fun k hk hk' => h p k h1 (by omega) (by omega) (by omega)) q hq.1 hq.2
    · rw [hs.out (k := q) (by omega)]; exact h p q h1 h2 h3 h4
theorem Crs.done {a0 b0 a b : Nat} {L L' : List α} (h : Crs lt a0 b0 a b L) (hs : SwR a b L L') (ha : a0 ≤ a) (hb : b ≤ b0) (k : Srt lt a b L') : Srt lt a0 b0 L' := fun p q h1 h2 h3 => by
  by_cases hw : a ≤ p ∧ q < b
  · exact k p q hw.1 h2 hw.2
  · exact h.keep hs ha hb p q h1 h2 h3 hw
theorem Blw.keep {a b a' b' : Nat} {L L' : List α} (h : Blw lt a b L) (hs : SwR a' b' L L') (ha : a ≤ a') (hb : b' ≤ b) : Blw lt a b L' := fun k h1 h2 h3 => by
  rw [hs.out (k := a - 1) (by omega)]
  by_cases hk : a' ≤ k ∧ k < b'
  · exact hs.all (p := fun x => lt x (gt L (a - 1)) = false) (fun k hk hk' => h k (by omega) (by omega) h3) k hk.1 hk.2
  · rw [hs.out (k := k) (by omega)]; exact h k h1 h2 h3
theorem Blw.low {a b m : Nat} {L : List α} (h : Blw lt a b L) (hm : m ≤ b) : Blw lt a m L := fun k h1 h2 h3 => h k h1 (by omega) h3
/-- At m, what lies below is less, and what lies above is not. -/
def Parted (lt : α → α → Bool) (a b m : Nat) (L : List α) : Prop := (∀ k, a ≤ k → k < m → lt (gt L k) (gt L m) = true) ∧ ∀ k, m < k → k < b → lt (gt L k) (gt L m) = false
theorem Parted.lowS {a b m : Nat} {L L' : List α} (h : Parted lt a b m L) (hs : SwR a m L L') : Parted lt a b m L' :=
  ⟨fun k h1 h2 => by rw [hs.out (k := m) (by omega)]; exact hs.all (p := fun x => lt x (gt L m) = true) h.1 k h1 h2,
   fun k h1 h2 => by rw [hs.out (k := m) (by omega), hs.out (k := k) (by omega)]; exact h.2 k h1 h2⟩
theorem Parted.highS {a b m : Nat} {L L' : List α} (h : Parted lt a b m L) (hs : SwR (m + 1) b L L') : Parted lt a b m L' :=
  ⟨fun k h1 h2 => by rw [hs.out (k := m) (by omega), hs.out (k := k) (by omega)]; exact h.1 k h1 h2,
   fun k h1 h2 => by rw [hs.out (k := m) (by omega)]; exact hs.all (p := fun x => lt x (gt L m) = false) (fun k h1 h2 => h.2 k (by omega) h2) k (by omega) h2⟩
theorem Parted.blw {a b m : Nat} {L : List α} (h : Parted lt a b m L) : Blw lt (m + 1) b L := fun k h1 h2 _ => h.2 k (by omega) h2
theorem Parted.up (O : Ordr lt) {a0 b0 a b m : Nat} {L : List α} (h : Parted lt a b m L) (hc : Crs lt a0 b0 a b L) (hs : Srt lt a m L) : Crs lt a0 b0 (m + 1) b L := fun p q h1 h2 h3 h4 => by
  by_cases hw : a ≤ p ∧ q < b
  · rcases Nat.lt_trichotomy q m with hq | hq | hq
    · exact hs p q hw.1 h2 hq
    · subst hq; exact O.asym (h.1 p hw.1 h2)
    · rcases Nat.lt_trichotomy p m with hp | hp | hp
      · exact O.tr (O.asym (h.1 p hw.1 hp)) (h.2 q hq hw.2)
      · subst hp; exact h.2 q hq hw.2
      · omega
  · exact hc p q h1 h2 h3 hw
theorem Parted.down (O : Ordr lt) {a0 b0 a b m : Nat} {L : List α} (h : Parted lt a b m L) (hc : Crs lt a0 b0 a b L) (hs : Srt lt (m + 1) b L) : Crs lt a0 b0 a m L := fun p q h1 h2 h3 h4 => by
  by_cases hw : a ≤ p ∧ q < b
  · rcases Nat.lt_trichotomy p m with hp | hp | hp
    · rcases Nat.lt_trichotomy q m with hq | hq | hq
      · omega
      · subst hq; exact O.asym (h.1 p hw.1 h2)
      · exact O.tr (O.asym (h.1 p hw.1 hp)) (h.2 q hq hw.2)
    · subst hp; exact h.2 q h2 hw.2
    · exact hs p q hp h2 hw.2
  · exact hc p q h1 h2 h3 hw
/-- Below m all are at most x, and from m on more; x is the least. -/
theorem equal_up (O : Ordr lt) {a0 b0 a b m : Nat} {L : List α} {x : α} (hc : Crs lt a0 b0 a b L) (hx : ∀ k, a ≤ k → k < b → lt (gt L k) x = false) (h1 : ∀ k, a ≤ k → k < m → lt x (gt L k) = false) (_ : m ≤ b) : Crs lt a0 b0 m b L := fun p q g1 g2 g3 g4 => by
  by_cases hw : a ≤ p ∧ q < b
  · exact O.tr (h1 p hw.1 (by omega)) (hx q (by omega) hw.2)
  · exact hc p q g1 g2 g3 hw
theorem equal_blw (O : Ordr lt) {a b m : Nat} {L : List α} {x : α} (hx : ∀ k, a ≤ k → k < b → lt (gt L k) x = false) (h1 : ∀ k, a ≤ k → k < m → lt x (gt L k) = false) (ham : a < m) : Blw lt m b L := fun k g1 g2 _ =>
  O.tr (h1 (m - 1) (by omega) (by omega)) (hx k (by omega) g2)
/-- A list in order. -/
theorem Srt.pairwise {L : List α} (h : Srt lt 0 L.length L) : L.Pairwise fun x y => lt y x = false := by
  rw [List.pairwise_iff_getElem]
  intro i j hi hj hij
  rw [← gt_eq hi, ← gt_eq hj]
  exact h i j (Nat.zero_le _) hij hj
theorem ordrS : Ordr ltS := ⟨ltS_asymm, fun {a b c} h k => by
  cases h' : ltS c a
  · rfl
  · rcases ltS_total b c with e | e | e
    · have := ltS_trans e h'; rw [h] at this; cases this
    · subst e; rw [h] at h'; cases h'
    · rw [k] at e; cases e⟩
end
end Go.Vc

/- Contracts: sorting strings in place (the parts of pdqsort). Conditions: none. -/
namespace Go.Vc
section
universe u
variable {α : Type u} {enc : α → Value} {P : Program}
/-- The call's own slice v holds L', and nothing else has turned. -/
structure Turn (lo : Nat) (e : TypeId) (enc : α → Value) (v : Value) (w w' : World) (L' : List α) : Prop where
  ow : Ow lo e w' v (L'.map enc)
  ch : Ch (fun c => v.ownBlock = some c) w w'
theorem Turn.refl {lo : Nat} {e : TypeId} {v : Value} {w : World} {L : List α} (h : Ow lo e w v (L.map enc)) : Turn lo e enc v w w L := ⟨h, (Ext.refl w).ch⟩
theorem Turn.ext {lo : Nat} {e : TypeId} {v : Value} {w w' w'' : World} {L : List α} (h : Turn lo e enc v w w' L) (k : Ext w' w'') : Turn lo e enc v w w'' L :=
  ⟨h.ow.ext k, h.ch.trans (k.ch (S := fun _ => False)) fun _ e => e.elim⟩
theorem Turn.trans {lo : Nat} {e : TypeId} {v : Value} {w w' w'' : World} {L L' : List α} (h : Turn lo e enc v w w' L) (k : Turn lo e enc v w' w'' L') : Turn lo e enc v w w'' L' :=
  ⟨k.ow, h.ch.trans k.ch fun _ e => .inl e⟩
theorem iRdO [Inhabited α] {lo : Nat} {e : TypeId} {w : World} {v : Value} {L : List α} {z : Int} {j : Nat} {k : IntKind} {K : Value → Prop} (hs : Ow lo e w v (L.map enc)) (hz : z = (j : Int)) (hj : j < L.length) (h : K (enc (gt L j))) : xIa 1 v (.int k z) fun p => xLd w p K := by
  subst hz
  refine iIaOw hs (by omega) (by rw [List.length_map]; omega) fun b o _ _ _ hc _ _ => iLd (hc.trans ?_) h
  rw [Int.toNat_natCast, gt_eq hj]
  simp [hj]
theorem iWr2 {lo : Nat} {e : TypeId} {w : World} {v : Value} {L : List α} {z z' : Int} {i j : Nat} {k k' : IntKind} {x y : α} {K : World → Prop} (hE : ∀ x, isCell (enc x) = true) (hs : Ow lo e w v (L.map enc)) (hz : z = (i : Int)) (hz' : z' = (j : Int)) (hi : i < L.length) (hj : j < L.length)
    (h : ∀ w', Turn lo e enc v w w' ((L.set i x).set j y) → K w') :
    xIa 1 v (.int k z) fun p => ∀ w1, Ext w w1 → xSt w1 p (enc x) fun w2 => xIa 1 v (.int k' z') fun q => ∀ w3, Ext w2 w3 → xSt w3 q (enc y) fun w4 => ∀ w5, Ext w4 w5 → K w5 := by
  subst hz
  subst hz'
  refine iIaOwE hs (by rw [List.length_map]; exact hi) fun b hb H => ?_
  intro w1 h1
  obtain ⟨hc, hf, hset⟩ := H w1 _ rfl (hs.ext h1)
  refine iSt (hc.trans (List.getElem?_eq_getElem (by rw [List.length_map]; exact hi))) hf (hE x) ?_
  have hs2 := hset (enc x)
  have hc2 : Ch (fun c => v.ownBlock = some c) w (w1.setCell ⟨b, i, none⟩ (enc x)) := (h1.ch (S := fun c => v.ownBlock = some c)).trans ((Upd.setCell w1 b i _).ch (S := fun c => v.ownBlock = some c) hb) fun _ e => .inl e
  refine iIaOwE hs2 (by rw [List.length_set, List.length_map]; exact hj) fun b' hb' H' => ?_
  intro w3 h3
  obtain ⟨hc3, hf3, hset3⟩ := H' w3 _ rfl (hs2.ext h3)
  refine iSt (hc3.trans (List.getElem?_eq_getElem (by rw [List.length_set, List.length_map]; exact hj))) hf3 (hE y) ?_
  intro w5 h5
  refine h w5 (Turn.ext ⟨?_, ?_⟩ h5)
  · have := hset3 (enc y)
    rwa [← List.map_set, ← List.map_set] at this
  · exact (hc2.trans (h3.ch (S := fun c => v.ownBlock = some c)) fun _ e => .inl e).trans ((Upd.setCell w3 b' j _).ch (S := fun c => v.ownBlock = some c) hb') fun _ e => .inl e
end
end Go.Vc
namespace Go.Proofs.YtapdkkijoflcpaaGreatDoor
open Go.Vc
theorem ok_cmp_isNaN_string (a : Str) (w : World) : Ret Tryz.prog f_cmp_isNaN_string #[sv a] w (.bool false) := by
  apply c_cmp_isNaN_string; unfold S_cmp_isNaN_string
  refine iNeT ?_
  rw [show decide (¬ a = a) = false by simp]
  exact ⟨by first | trivial | rfl, Ext.refl _⟩
theorem ok_cmp_Less_string (a b : Str) (w : World) : Ret Tryz.prog f_cmp_Less_string #[sv a, sv b] w (.bool (ltS a b)) := by
  apply c_cmp_Less_string; unfold S_cmp_Less_string
  refine iJnB (ltS a b) w (fun J hJ => ?_) (fun w4 h4 => ?_)
  · refine iRet (ok_cmp_isNaN_string a w) fun w3 h3 => ?_
    refine iCndF rfl ?_
    refine iLtT ?_
    exact hJ w3 h3
  · intro _
    simp only [gx]
    exact ⟨by first | trivial | rfl, h4⟩
theorem ok_slices_insertionSortOrdered_string {lo : Nat} {w : World} {v : Value} {L : List Str} {a b : Nat} (hs : Ow lo t_string w v (strs L)) (hab : a ≤ b) (hb : b ≤ L.length) (hL : L.length ≤ 1152921504606846976) :
    Cal Tryz.prog f_slices_insertionSortOrdered_string #[v, .int .i64 (a : Int), .int .i64 (b : Int)] w fun _ w' => ∃ L', Turn lo t_string sv v w w' L' ∧ SwR a b L L' ∧ Srt ltS a b L' := by
  apply c_slices_insertionSortOrdered_string; unfold S_slices_insertionSortOrdered_string
  (refine iAdd (by omega) ?_)
  refine iLp (fun i : Nat => [.int .i64 (i : Int)]) (fun i w' => a + 1 ≤ i ∧ i ≤ b + 1 ∧ ∃ L', Turn lo t_string sv v w w' L' ∧ SwR a b L L' ∧ Srt ltS a i L') (fun i => b + 1 - i) (a + 1) (by simp) ⟨Nat.le_refl _, by omega, L, Turn.refl hs, .refl, Srt.short (Nat.le_refl _)⟩ ?_
  rintro i w2 Kn ⟨hi, hib, L1, ht1, hw1, hs1⟩ hKn
  intro _
  simp only [gx]
  refine iLt ?_
  refine iCndP (fun h => ?_) (fun h => ?_)
  · have hl1 := hw1.len
    refine iLp (fun j : Nat => [.int .i64 (j : Int)]) (fun j w' => a ≤ j ∧ j ≤ i ∧ ∃ L', Turn lo t_string sv v w w' L' ∧ SwR a b L L' ∧ Ins ltS a i j L') (fun j => j) i rfl ⟨by omega, Nat.le_refl _, L1, ht1, hw1, Ins.init hs1⟩ ?_
    rintro j w4 Kn2 ⟨haj, hji, L2, ht2, hw2, hin⟩ hKn2
    have hl2 := hw2.len
    intro _
    simp only [gx]
    refine iJnB (decide (a < j) && ltS (gt L2 j) (gt L2 (j - 1))) w4 (fun J hJ => ?_) (fun w6 h6 => ?_)
    · refine iLt ?_
      refine iCndP (fun h5 => ?_) (fun h5 => ?_)
      · rw [decide_eq_true (show a < j by omega), Bool.true_and] at hJ
        refine iRdO (j := j) ht2.ow rfl (by omega) ?_
        (refine iSub (by omega) ?_)
        refine iRdO (j := j - 1) ht2.ow (by omega) (by omega) ?_
        exact iRetQ (fun w' _ => ok_cmp_Less_string _ _ w') hJ
      · rw [decide_eq_false (show ¬ a < j by omega), Bool.false_and] at hJ
        exact hJ
    · intro _
      simp only [gx]
      have ht6 := ht2.ext h6
      cases hc : decide (a < j) && ltS (gt L2 j) (gt L2 (j - 1))
      · refine iCndF rfl ?_
        (refine iAdd (by omega) ?_)
        refine hKn (i + 1) _ ⟨by omega, by omega, L2, ht6, hw2, hin.done ordrS ?_ hji⟩ (by omega)
        rw [Bool.and_eq_false_iff, decide_eq_false_iff_not] at hc
        rcases hc with hc | hc
        · exact .inl (by omega)
        · rcases Nat.lt_or_ge a j with h' | h'
          · exact .inr ⟨h', hc⟩
          · exact .inl h'
      · rw [Bool.and_eq_true, decide_eq_true_eq] at hc
        refine iCndT rfl ?_
        (refine iSub (by omega) ?_; refine iSub (by omega) ?_)
        refine iRdO (j := j - 1) ht6.ow (by omega) (by omega) ?_
        refine iRdO (j := j) ht6.ow rfl (by omega) ?_
        refine iWr2 (i := j) (j := j - 1) (fun _ => rfl) ht6.ow rfl (by omega) (by omega) (by omega) fun w13 h13 => ?_
        (refine iSub (by omega) ?_)
        rw [show (j : Int) - 1 = ((j - 1 : Nat) : Int) by omega]
        exact hKn2 (j - 1) _ ⟨by omega, by omega, sw L2 j (j - 1), ht6.trans h13, .step hw2 (by omega) (by omega) (by omega) (by omega) hb, hin.swap ordrS hc.1 hji (by omega) hc.2⟩ (by omega)
  · exact ⟨L1, ht1, hw1, hs1.mono (Nat.le_refl _) (by omega)⟩
theorem ok_slices_reverseRangeOrdered_string {lo : Nat} {w : World} {v : Value} {L : List Str} {a b : Nat} (hs : Ow lo t_string w v (strs L)) (hab : a ≤ b) (hb : b ≤ L.length) (hL : L.length ≤ 1152921504606846976) :
    Cal Tryz.prog f_slices_reverseRangeOrdered_string #[v, .int .i64 (a : Int), .int .i64 (b : Int)] w fun _ w' => ∃ L', Turn lo t_string sv v w w' L' ∧ SwR a b L L' := by
  apply c_slices_reverseRangeOrdered_string; unfold S_slices_reverseRangeOrdered_string
  (refine iSub (by omega) ?_)
  refine iLp (fun s : Nat × Int => [.int .i64 (s.1 : Int), .int .i64 s.2]) (fun s w' => a ≤ s.1 ∧ s.1 ≤ b ∧ -1 ≤ s.2 ∧ s.2 < b ∧ (b : Int) - s.2 ≤ s.1 - a + 1 ∧ ∃ L', Turn lo t_string sv v w w' L' ∧ SwR a b L L') (fun s => b - s.1) (a, (b : Int) - 1) rfl ⟨Nat.le_refl _, hab, by show -1 ≤ (b : Int) - 1; omega, by show (b : Int) - 1 < b; omega, by show (b : Int) - ((b : Int) - 1) ≤ a - a + 1; omega, L, Turn.refl hs, .refl⟩ ?_
  rintro ⟨i, j⟩ w2 Kn ⟨hi, hib, hj, hjb, hij, L1, ht1, hw1⟩ hKn
  have hi : a ≤ i := hi
  have hib : i ≤ b := hib
  have hj : -1 ≤ j := hj
  have hjb : j < b := hjb
  have hij : (b : Int) - j ≤ i - a + 1 := hij
  have hl1 := hw1.len
  intro _
  simp only [gx]
  refine iLt ?_
  refine iCndP (fun h => ?_) (fun h => ?_)
  · refine iRdO (j := j.toNat) ht1.ow (by omega) (by omega) ?_
    refine iRdO (j := i) ht1.ow rfl (by omega) ?_
    refine iWr2 (i := i) (j := j.toNat) (fun _ => rfl) ht1.ow rfl (by omega) (by omega) (by omega) fun w7 h7 => ?_
    (refine iAdd (by omega) ?_; refine iSub (by omega) ?_)
    exact hKn (i + 1, j - 1) _ ⟨by show a ≤ i + 1; omega, by show i + 1 ≤ b; omega, by show -1 ≤ j - 1; omega, by show j - 1 < b; omega, by show (b : Int) - (j - 1) ≤ ((i + 1 : Nat) : Int) - a + 1; omega, sw L1 i j.toNat, ht1.trans h7, .step hw1 hi (by omega) (by omega) (by omega) hb⟩ (by show b - (i + 1) < b - i; omega)
  · exact ⟨L1, ht1, hw1⟩
theorem ok_slices_siftDownOrdered_string {lo0 : Nat} {w : World} {v : Value} {L : List Str} {lo hi first : Nat} (hs : Ow lo0 t_string w v (strs L)) (hlo : lo ≤ hi) (hb : first + hi ≤ L.length) (hL : L.length ≤ 1152921504606846976) (hh : Heap ltS first (lo + 1) hi L) :
    Cal Tryz.prog f_slices_siftDownOrdered_string #[v, .int .i64 (lo : Int), .int .i64 (hi : Int), .int .i64 (first : Int)] w fun _ w' => ∃ L', Turn lo0 t_string sv v w w' L' ∧ SwR (first + lo) (first + hi) L L' ∧ Heap ltS first lo hi L' := by
  apply c_slices_siftDownOrdered_string; unfold S_slices_siftDownOrdered_string
  refine iLp (fun r : Nat => [.int .i64 (r : Int)]) (fun r w' => lo ≤ r ∧ r ≤ hi ∧ ∃ L', Turn lo0 t_string sv v w w' L' ∧ SwR (first + lo) (first + hi) L L' ∧ Sift ltS first lo hi r L') (fun r => hi - r) lo rfl ⟨Nat.le_refl _, hlo, L, Turn.refl hs, .refl, Sift.init hh⟩ ?_
  rintro r w2 Kn ⟨hr, hrh, L1, ht1, hw1, hsf⟩ hKn
  have hl1 := hw1.len
  intro _
  simp only [gx]
  refine iMul (by omega) ?_
  (refine iAdd (by omega) ?_; (with_reducible refine iLe ?_))
  refine iCndP (fun h => ?_) (fun h => ?_)
  · exact ⟨L1, ht1, hw1, hsf.done fun c hc hch => by omega⟩
  · have hlr : r < hi := by omega
    refine iJnB (decide (2 * r + 2 < hi) && ltS (gt L1 (first + (2 * r + 1))) (gt L1 (first + (2 * r + 2)))) w2 (fun J hJ => ?_) (fun w4 h4 => ?_)
    · (refine iAdd (by omega) ?_; (with_reducible refine iLt ?_))
      refine iCndP (fun h5 => ?_) (fun h5 => ?_)
      · rw [decide_eq_true (show 2 * r + 2 < hi by omega), Bool.true_and] at hJ
        (refine iAdd (by omega) ?_)
        refine iRdO (j := first + (2 * r + 1)) ht1.ow (by omega) (by omega) ?_
        (refine iAdd (by omega) ?_; refine iAdd (by omega) ?_)
        refine iRdO (j := first + (2 * r + 2)) ht1.ow (by omega) (by omega) ?_
        exact iRetQ (fun w' _ => ok_cmp_Less_string _ _ w') hJ
      · rw [decide_eq_false (show ¬ 2 * r + 2 < hi by omega), Bool.false_and] at hJ
        exact hJ
    · intro _
      simp only [gx]
      have ht4 := ht1.ext h4
      refine iJnX (fun xs w8 => Ext w4 w8 ∧ ∃ c : Nat, xs = [.int .i64 (c : Int)] ∧ (c = 2 * r + 1 ∨ c = 2 * r + 2) ∧ c < hi ∧ ∀ d, (d = 2 * r + 1 ∨ d = 2 * r + 2) → d < hi → ltS (gt L1 (first + c)) (gt L1 (first + d)) = false) (fun J hJ => ?_) ?_
      · cases hc : decide (2 * r + 2 < hi) && ltS (gt L1 (first + (2 * r + 1))) (gt L1 (first + (2 * r + 2)))
        · refine iCndF rfl ?_
          refine hJ _ _ ⟨Ext.refl _, 2 * r + 1, rfl, .inl rfl, by omega, fun d hd hdh => ?_⟩
          rcases hd with hd | hd
          · subst hd; exact ordrS.rfl _
          · subst hd; rw [decide_eq_true hdh, Bool.true_and] at hc; exact hc
        · rw [Bool.and_eq_true, decide_eq_true_eq] at hc
          refine iCndT rfl ?_
          (refine iAdd (by omega) ?_)
          refine hJ _ _ ⟨Ext.refl _, 2 * r + 2, rfl, .inr rfl, hc.1, fun d hd hdh => ?_⟩
          rcases hd with hd | hd
          · subst hd; exact ordrS.asym hc.2
          · subst hd; exact ordrS.rfl _
      · rintro xs w8 ⟨h8, c, rfl, hc, hch, hmax⟩
        intro _
        simp only [gx]
        have ht8 := ht4.ext h8
        (refine iAdd (by omega) ?_)
        refine iRdO (j := first + r) ht8.ow (by omega) (by omega) ?_
        (refine iAdd (by omega) ?_)
        refine iRdO (j := first + c) ht8.ow (by omega) (by omega) ?_
        refine iRetQ (fun w' _ => ok_cmp_Less_string _ _ w') ?_
        refine iNot ?_
        intro w9 h9
        have ht9 := ht8.ext h9
        refine iCnd (fun h5 => ?_) (fun h5 => ?_)
        · refine ⟨L1, ht9, hw1, hsf.done fun d hd hdh => ?_⟩
          have h5 : ltS (gt L1 (first + r)) (gt L1 (first + c)) = false := by simpa using h5
          exact ordrS.tr (hmax d hd hdh) h5
        · have h5 : ltS (gt L1 (first + r)) (gt L1 (first + c)) = true := by simpa using h5
          (refine iAdd (by omega) ?_; refine iAdd (by omega) ?_; refine iAdd (by omega) ?_)
          refine iRdO (j := first + c) ht9.ow (by omega) (by omega) ?_
          (refine iAdd (by omega) ?_)
          refine iRdO (j := first + r) ht9.ow (by omega) (by omega) ?_
          refine iWr2 (i := first + r) (j := first + c) (fun _ => rfl) ht9.ow (by omega) (by omega) (by omega) (by omega) fun w14 h14 => ?_
          exact hKn c _ ⟨by omega, by omega, sw L1 (first + r) (first + c), ht9.trans h14, .step hw1 (by omega) (by omega) (by omega) (by omega) (by omega), hsf.swap ordrS hr hc hch (by omega) h5 hmax⟩ (by omega)
theorem ok_slices_heapSortOrdered_string {lo : Nat} {w : World} {v : Value} {L : List Str} {a b : Nat} (hs : Ow lo t_string w v (strs L)) (hab : a < b) (hb : b ≤ L.length) (hL : L.length ≤ 1152921504606846976) :
    Cal Tryz.prog f_slices_heapSortOrdered_string #[v, .int .i64 (a : Int), .int .i64 (b : Int)] w fun _ w' => ∃ L', Turn lo t_string sv v w w' L' ∧ SwR a b L L' ∧ Srt ltS a b L' := by
  apply c_slices_heapSortOrdered_string; unfold S_slices_heapSortOrdered_string
  obtain ⟨n, rfl⟩ : ∃ n, b = a + n := ⟨b - a, by omega⟩
  (refine iSub (by omega) ?_; refine iSub (by omega) ?_)
  refine iQuo (by omega) ?_
  refine iLp (fun s : Nat => [.int .i64 ((s : Int) - 1)]) (fun s w' => s ≤ n ∧ ∃ L', Turn lo t_string sv v w w' L' ∧ SwR a (a + n) L L' ∧ Heap ltS a s n L') (fun s => s) ((n - 1) / 2 + 1) (by congr 2; omega) ⟨by omega, L, Turn.refl hs, .refl, fun p c h1 h2 h3 => by omega⟩ ?_
  rintro s w2 Kn ⟨hsn, L1, ht1, hw1, hh⟩ hKn
  have hl1 := hw1.len
  intro _
  simp only [gx]
  refine iLe ?_
  refine iCndP (fun h => ?_) (fun h => ?_)
  · rw [show (s : Int) - 1 = ((s - 1 : Nat) : Int) by omega, show ((a + n : Nat) : Int) - a = (n : Int) by omega]
    refine iCall ?_
    refine (ok_slices_siftDownOrdered_string (lo := s - 1) (hi := n) (first := a) ht1.ow (by omega) (by omega) (by omega) (by rw [show s - 1 + 1 = s by omega]; exact hh)).mono fun _ w3 h3 => ?_
    obtain ⟨L2, ht2, hw2, hh2⟩ := h3
    (refine iSub (by omega) ?_)
    exact hKn (s - 1) _ ⟨by omega, L2, ht1.trans ht2, hw1.trans (hw2.mono (by omega) (Nat.le_refl _) (by omega)), hh2⟩ (by omega)
  · (refine iSub (by omega) ?_)
    have hs0 : s = 0 := by omega
    subst hs0
    refine iLp (fun s : Nat => [.int .i64 ((s : Int) - 1)]) (fun s w' => s ≤ n ∧ ∃ L', Turn lo t_string sv v w w' L' ∧ SwR a (a + n) L L' ∧ Heap ltS a 0 s L' ∧ (∀ p q, a ≤ p → p < q → a + s ≤ q → q < a + n → ltS (gt L' q) (gt L' p) = false)) (fun s => s) n (by congr 2; omega) ⟨Nat.le_refl _, L1, ht1, hw1, hh, fun p q h1 h2 h3 h4 => by omega⟩ ?_
    rintro s w5 Kn5 ⟨hsn, L2, ht2, hw2, hh2, hpr⟩ hKn5
    have hl2 := hw2.len
    intro _
    simp only [gx]
    refine iLe ?_
    refine iCndP (fun h5 => ?_) (fun h5 => ?_)
    · (refine iAdd (by omega) ?_; refine iAdd (by omega) ?_)
      refine iRdO (j := a + (s - 1)) ht2.ow (by omega) (by omega) ?_
      refine iRdO (j := a) ht2.ow rfl (by omega) ?_
      refine iWr2 (i := a) (j := a + (s - 1)) (fun _ => rfl) ht2.ow rfl (by omega) (by omega) (by omega) fun w10 h10 => ?_
      rw [show (s : Int) - 1 = ((s - 1 : Nat) : Int) by omega]
      have e : ∀ k, gt (sw L2 a (a + (s - 1))) k = if k = a + (s - 1) then gt L2 a else if k = a then gt L2 (a + (s - 1)) else gt L2 k := gt_sw (by omega) (by omega)
      have hw3 : SwR a (a + n) L2 (sw L2 a (a + (s - 1))) := .one (by omega) (by omega) (by omega) (by omega) (by omega)
      have htop := Heap.top ordrS hh2
      refine iCall ?_
      refine (ok_slices_siftDownOrdered_string (L := sw L2 a (a + (s - 1))) (lo := 0) (hi := s - 1) (first := a) h10.ow (by omega) (by rw [hw3.len]; omega) (by rw [hw3.len]; omega) (fun p c h1 h2 h3 => by
        rw [e, e, if_neg (by omega), if_neg (by omega), if_neg (by omega), if_neg (by omega)]
        exact hh2 p c (by omega) h2 (by omega))).mono fun _ w11 h11 => ?_
      obtain ⟨L4, ht4, hw4, hh4⟩ := h11
      (refine iSub (by omega) ?_)
      refine hKn5 (s - 1) _ ⟨by omega, L4, (ht2.trans h10).trans ht4, (hw2.trans hw3).trans (hw4.mono (by omega) (by omega) (by rw [hw3.len]; omega)), hh4, fun p q h1 h2 h3 h4 => ?_⟩ (by omega)
      rw [hw4.out (k := q) (by omega)]
      have main : ∀ p, a ≤ p → p < q → ltS (gt (sw L2 a (a + (s - 1))) q) (gt (sw L2 a (a + (s - 1))) p) = false := fun p h1 h2 => by
        rw [e, e]
        by_cases hq : q = a + (s - 1)
        · rw [if_pos hq, if_neg (by omega)]
          split
          · exact htop _ (by omega)
          · obtain ⟨k, rfl⟩ : ∃ k, p = a + k := ⟨p - a, by omega⟩
            exact htop _ (by omega)
        · rw [if_neg hq, if_neg (by omega)]
          split
          · exact hpr a q (by omega) (by omega) (by omega) h4
          · split
            · exact hpr _ q (by omega) (by omega) (by omega) h4
            · exact hpr p q h1 h2 (by omega) h4
      rcases Nat.lt_or_ge p (a + (s - 1)) with hp | hp
      · exact hw4.all (p := fun x => ltS (gt (sw L2 a (a + (s - 1))) q) x = false) (fun k hk hk' => main k (by omega) (by omega)) p (by omega) hp
      · rw [hw4.out (k := p) (by omega)]; exact main p h1 h2
    · exact ⟨L2, ht2, hw2, fun p q h1 h2 h3 => hpr p q h1 h2 (by omega) h3⟩
end Go.Proofs.YtapdkkijoflcpaaGreatDoor

/- Contracts: the helpers of pdqsort that draw places: lengths of numbers, xorshift, pivots. Conditions: none. -/
namespace Go.Vc
def len8 : Str := [0, 1, 2, 2, 3, 3, 3, 3, 4, 4, 4, 4, 4, 4, 4, 4, 5, 5, 5, 5, 5, 5, 5, 5, 5, 5, 5, 5, 5, 5, 5, 5, 6, 6, 6, 6, 6, 6, 6, 6, 6, 6, 6, 6, 6, 6, 6, 6, 6, 6, 6, 6, 6, 6, 6, 6, 6, 6, 6, 6, 6, 6, 6, 6,
  7, 7, 7, 7, 7, 7, 7, 7, 7, 7, 7, 7, 7, 7, 7, 7, 7, 7, 7, 7, 7, 7, 7, 7, 7, 7, 7, 7, 7, 7, 7, 7, 7, 7, 7, 7, 7, 7, 7, 7, 7, 7, 7, 7, 7, 7, 7, 7, 7, 7, 7, 7, 7, 7, 7, 7, 7, 7, 7, 7, 7, 7, 7, 7,
  8, 8, 8, 8, 8, 8, 8, 8, 8, 8, 8, 8, 8, 8, 8, 8, 8, 8, 8, 8, 8, 8, 8, 8, 8, 8, 8, 8, 8, 8, 8, 8, 8, 8, 8, 8, 8, 8, 8, 8, 8, 8, 8, 8, 8, 8, 8, 8, 8, 8, 8, 8, 8, 8, 8, 8, 8, 8, 8, 8, 8, 8, 8, 8,
  8, 8, 8, 8, 8, 8, 8, 8, 8, 8, 8, 8, 8, 8, 8, 8, 8, 8, 8, 8, 8, 8, 8, 8, 8, 8, 8, 8, 8, 8, 8, 8, 8, 8, 8, 8, 8, 8, 8, 8, 8, 8, 8, 8, 8, 8, 8, 8, 8, 8, 8, 8, 8, 8, 8, 8, 8, 8, 8, 8, 8, 8, 8, 8]
theorem len8_ok : ∀ x : Fin 256, x.val < 2 ^ (len8.getD x.val 0).toNat ∧ (1 ≤ x.val → 2 ^ (len8.getD x.val 0).toNat ≤ 2 * x.val) ∧ (len8.getD x.val 0).toNat ≤ 8 := by decide +kernel
theorem iAndUT {a : Int} {m : Nat} {K : Value → Prop} (hm : m < 2 ^ 64) (h : ∀ x : Nat, x ≤ m → K (.int .u64 (x : Int))) : xBits iAnd .u64 (.int .u64 a) (.int .u64 (m : Int)) K := by
  refine ⟨_, _, rfl, rfl, ?_⟩
  have e : iAnd .u64 a (m : Int) = (((BitVec.ofInt 64 a &&& BitVec.ofInt 64 (m : Int)).toNat : Nat) : Int) := by
    rw [show iAnd .u64 a (m : Int) = IntKind.u64.wrap ((BitVec.ofInt 64 a &&& BitVec.ofInt 64 (m : Int)).toNat : Nat) from rfl]
    exact IntWalk.u64_in _ (by have := (BitVec.ofInt 64 a &&& BitVec.ofInt 64 (m : Int)).isLt; omega)
  rw [e]
  refine h _ ?_
  rw [BitVec.toNat_and, ofInt_nat, BitVec.toNat_ofNat, Nat.mod_eq_of_lt (a := m) (by omega)]
  exact Nat.and_le_right
theorem iStC {e : TypeId} {w : World} {b : Nat} {old v : Value} {K : World → Prop} (hb : Blk e w b [old]) (hv : isCell v = true) (h : ∀ w', Blk e w' b [v] → Ch (fun c => c = b) w w' → K w') : xSt w (.pointer (some ⟨b, 0, none⟩)) v K :=
  iStB hb (by simp) hv fun h2 => h _ h2 ((Upd.setCell w b 0 v).ch rfl)
theorem iShrUT {a j : Nat} {K : Value → Prop} (hj : j ≤ 64) (h : K (.int .u64 ((a / 2 ^ j : Nat) : Int))) : xSh iShr .u64 (.int .u64 (a : Int)) (.int .u64 (j : Int)) K := by
  refine ⟨_, _, _, rfl, rfl, by omega, ?_⟩
  rw [show iShr .u64 (a : Int) (j : Int) = ((a / 2 ^ j : Nat) : Int) by
    unfold iShr
    rw [Int.toNat_natCast, show IntKind.u64.bits = 64 from rfl, Nat.min_eq_left hj, Int.fdiv_eq_ediv_of_nonneg _ (Int.le_of_lt (Int.pow_pos (by omega)))]
    push_cast
    rfl]
  exact h
end Go.Vc
namespace Go.Proofs.YtapdkkijoflcpaaGreatDoor
open Go.Vc
set_option maxRecDepth 20000 in
theorem ok_math_bits_Len64 {n : Nat} (hn : n < 2 ^ 63) (w : World) : Cal Tryz.prog f_math_bits_Len64 #[.int .u64 (n : Int)] w fun r w' => Ext w w' ∧ ∃ k : Nat, r = .int .i64 (k : Int) ∧ n < 2 ^ k ∧ (1 ≤ n → 2 ^ k ≤ 2 * n) ∧ k ≤ 64 := by
  apply c_math_bits_Len64; unfold S_math_bits_Len64
  -- at each join: what is left of n, and by how many bits it was shifted
  have stage : ∀ {x m s : Nat}, x = n / 2 ^ m → x / 2 ^ s = n / 2 ^ (m + s) := fun {x m s} h => by rw [h, Nat.div_div_eq_div_mul, ← Nat.pow_add]
  ((with_reducible refine iLe ?_))
  refine iJnX (fun xs w' => Ext w w' ∧ ∃ x m : Nat, xs = [.int .u64 (x : Int), .int .i64 (m : Int)] ∧ x = n / 2 ^ m ∧ x < 2 ^ 32 ∧ (1 ≤ m → 1 ≤ x) ∧ m ≤ 32) (fun J hJ => ?_) ?_
  · refine iCndP (fun h => ?_) (fun h => ?_)
    · refine iShrUT (j := 32) (by omega) ?_
      exact hJ _ _ ⟨Ext.refl _, _, 32, rfl, rfl, by omega, by omega, by omega⟩
    · exact hJ _ _ ⟨Ext.refl _, n, 0, rfl, by simp, by omega, by omega, by omega⟩
  rintro xs w2 ⟨h2, x, m, rfl, hx, hx32, hm1, hm⟩
  intro _
  simp only [gx]
  ((with_reducible refine iLe ?_))
  refine iJnX (fun xs w' => Ext w w' ∧ ∃ x m : Nat, xs = [.int .u64 (x : Int), .int .i64 (m : Int)] ∧ x = n / 2 ^ m ∧ x < 2 ^ 16 ∧ (1 ≤ m → 1 ≤ x) ∧ m ≤ 48) (fun J hJ => ?_) ?_
  · refine iCndP (fun h => ?_) (fun h => ?_)
    · refine iShrUT (j := 16) (by omega) ?_
      (refine iAdd (by omega) ?_)
      exact hJ _ _ ⟨h2, _, m + 16, rfl, stage hx, by omega, by omega, by omega⟩
    · exact hJ _ _ ⟨h2, x, m, rfl, hx, by omega, hm1, by omega⟩
  rintro xs w4 ⟨h4, x, m, rfl, hx, hx16, hm1, hm⟩
  intro _
  simp only [gx]
  ((with_reducible refine iLe ?_))
  refine iJnX (fun xs w' => Ext w w' ∧ ∃ x m : Nat, xs = [.int .u64 (x : Int), .int .i64 (m : Int)] ∧ x = n / 2 ^ m ∧ x < 2 ^ 8 ∧ (1 ≤ m → 1 ≤ x) ∧ m ≤ 56) (fun J hJ => ?_) ?_
  · refine iCndP (fun h => ?_) (fun h => ?_)
    · refine iShrUT (j := 8) (by omega) ?_
      (refine iAdd (by omega) ?_)
      exact hJ _ _ ⟨h4, _, m + 8, rfl, stage hx, by omega, by omega, by omega⟩
    · exact hJ _ _ ⟨h4, x, m, rfl, hx, by omega, hm1, by omega⟩
  rintro xs w6 ⟨h6, x, m, rfl, hx, hx8, hm1, hm⟩
  intro _
  simp only [gx]
  obtain ⟨t1, t2, t3⟩ : x < 2 ^ (len8.getD x 0).toNat ∧ (1 ≤ x → 2 ^ (len8.getD x 0).toNat ≤ 2 * x) ∧ (len8.getD x 0).toNat ≤ 8 := len8_ok ⟨x, hx8⟩
  refine ⟨_, _, rfl, ?_⟩
  rw [IntWalk.u8_in _ (by omega)]
  refine iIs (l := len8) (j := x) (by show x < 256; omega) ?_
  refine iConv64 (by omega) ?_
  refine iAdd (by omega) ?_
  refine ⟨h6, m + (len8.getD x 0).toNat, by first | rfl | (push_cast; rfl), ?_, fun h1 => ?_, by omega⟩
  · have := Nat.lt_div_mul_add (a := n) (b := 2 ^ m) (Nat.two_pow_pos m)
    rw [← hx] at this
    have h3 : (x + 1) * 2 ^ m ≤ 2 ^ (len8.getD x 0).toNat * 2 ^ m := Nat.mul_le_mul_right _ t1
    rw [Nat.pow_add, Nat.mul_comm (2 ^ m)]
    rw [Nat.add_mul] at h3
    omega
  · rcases Nat.eq_zero_or_pos x with h0 | h0
    · have hm0 : m = 0 := by omega
      subst hm0
      simp at hx
      omega
    · have h3 := Nat.mul_le_mul_left (2 ^ m) (t2 h0)
      have h4 : 2 ^ m * x ≤ n := by rw [hx]; exact Nat.mul_div_le n (2 ^ m)
      rw [Nat.pow_add]
      rw [Nat.mul_left_comm] at h3
      omega
theorem ok_math_bits_Len {n : Nat} (hn : n < 2 ^ 63) (w : World) : Cal Tryz.prog f_math_bits_Len #[.int .u64 (n : Int)] w fun r w' => Ext w w' ∧ ∃ k : Nat, r = .int .i64 (k : Int) ∧ n < 2 ^ k ∧ (1 ≤ n → 2 ^ k ≤ 2 * n) ∧ k ≤ 64 := by
  apply c_math_bits_Len; unfold S_math_bits_Len
  exact iCall (ok_math_bits_Len64 hn w)
theorem ok_slices_nextPowerOfTwo {n : Nat} (h1 : 1 ≤ n) (hn : n ≤ 1152921504606846976) (w : World) : Cal Tryz.prog f_slices_nextPowerOfTwo #[.int .i64 (n : Int)] w fun r w' => Ext w w' ∧ ∃ m : Nat, r = .int .u64 (m : Int) ∧ 1 ≤ m ∧ m ≤ 2 * n := by
  apply c_slices_nextPowerOfTwo; unfold S_slices_nextPowerOfTwo
  refine iConvU (by omega) ?_
  refine iCall ?_
  refine (ok_math_bits_Len (by omega) w).mono fun r w1 h => ?_
  obtain ⟨h1', k, rfl, hk1, hk2, hk3⟩ := h
  have hk := hk2 h1
  refine ⟨_, _, _, rfl, rfl, by omega, ?_⟩
  have e : iShl .u64 1 (k : Int) = ((2 ^ k : Nat) : Int) := by
    rw [show iShl .u64 1 (k : Int) = IntKind.u64.wrap (1 * 2 ^ min (k : Int).toNat 64) from rfl, Int.toNat_natCast, Nat.min_eq_left hk3, Int.one_mul, show ((2 : Int) ^ k) = ((2 ^ k : Nat) : Int) by push_cast; rfl]
    exact IntWalk.u64_in _ (by omega)
  rw [e]
  exact ⟨h1', 2 ^ k, rfl, Nat.two_pow_pos k, hk⟩
theorem ok_slices_xorshift_Next {e : TypeId} {w : World} {b : Nat} {x : Int} (hb : Blk e w b [.int .u64 x]) : Cal Tryz.prog f_slices_xorshift_Next #[.pointer (some ⟨b, 0, none⟩)] w fun r w' => ∃ y : Int, r = .int .u64 y ∧ Blk e w' b [.int .u64 y] ∧ Ch (fun c => c = b) w w' := by
  apply c_slices_xorshift_Next; unfold S_slices_xorshift_Next
  ((with_reducible refine iNil ?_); refine iLdB (by assumption) (by first | rfl | simp) ?_; (with_reducible refine iNil ?_); refine iLdB (by assumption) (by first | rfl | simp) ?_)
  refine ⟨_, _, _, rfl, rfl, by omega, ?_⟩
  refine ⟨_, _, rfl, rfl, ?_⟩
  ((with_reducible refine iNil ?_))
  intro w1 h1
  refine iStC (hb.ext h1) rfl fun w2 hb2 h2 => ?_
  intro w3 h3
  have hb3 := hb2.ext h3
  have c3 := ch_ext ((h1.ch.trans h2 fun _ e => .inl e)) h3
  clear hb2 h2
  ((with_reducible refine iNil ?_); refine iLdB (by assumption) (by first | rfl | simp) ?_; (with_reducible refine iNil ?_); refine iLdB (by assumption) (by first | rfl | simp) ?_)
  refine ⟨_, _, _, rfl, rfl, by omega, ?_⟩
  refine ⟨_, _, rfl, rfl, ?_⟩
  ((with_reducible refine iNil ?_))
  intro w4 h4
  refine iStC (hb3.ext h4) rfl fun w5 hb5 h5 => ?_
  intro w6 h6
  have hb6 := hb5.ext h6
  have c6 := ch_ext (ch_self (ch_ext c3 h4) h5) h6
  clear hb5 hb3 hb c3
  ((with_reducible refine iNil ?_); refine iLdB (by assumption) (by first | rfl | simp) ?_; (with_reducible refine iNil ?_); refine iLdB (by assumption) (by first | rfl | simp) ?_)
  refine ⟨_, _, _, rfl, rfl, by omega, ?_⟩
  refine ⟨_, _, rfl, rfl, ?_⟩
  ((with_reducible refine iNil ?_))
  intro w7 h7
  refine iStC (hb6.ext h7) rfl fun w8 hb8 h8 => ?_
  intro w9 h9
  have hb9 := hb8.ext h9
  have c9 := ch_ext (ch_self (ch_ext c6 h7) h8) h9
  clear hb8 hb6 c6
  ((with_reducible refine iNil ?_); refine iLdB (by assumption) (by first | rfl | simp) ?_)
  exact ⟨_, rfl, hb9, c9⟩
theorem ok_slices_breakPatternsOrdered_string {lo : Nat} {w : World} {v : Value} {L : List Str} {a b : Nat} (hs : Ow lo t_string w v (strs L)) (hab : a ≤ b) (hb : b ≤ L.length) (hL : L.length ≤ 1152921504606846976) :
    Cal Tryz.prog f_slices_breakPatternsOrdered_string #[v, .int .i64 (a : Int), .int .i64 (b : Int)] w fun _ w' => ∃ L', Turn lo t_string sv v w w' L' ∧ SwR a b L L' := by
  apply c_slices_breakPatternsOrdered_string; unfold S_slices_breakPatternsOrdered_string
  obtain ⟨n, rfl⟩ : ∃ n, b = a + n := ⟨b - a, by omega⟩
  refine iSub (by omega) ?_
  rw [show ((a + n : Nat) : Int) - a = (n : Int) by omega]
  refine iLe ?_
  refine iCndP (fun h => ?_) (fun h => ?_)
  · refine iConvU (by omega) ?_
    refine iNew fun c w1 hc1 h1 hb1 => ?_
    refine iStB hb1 (by simp [Value.cells]) rfl fun hb2 => ?_
    have x2 : Ext w (w1.setCell ⟨c, 0, none⟩ (.int .u64 (n : Int))) := ext_set h1 (by show w.heap.size ≤ c; omega) _
    refine iCall ?_
    refine (ok_slices_nextPowerOfTwo (by omega) (by omega) _).mono fun r w3 h3 => ?_
    obtain ⟨h3, m, rfl, hm1, hm2⟩ := h3
    have hb3 := hb2.ext h3
    have hs3 := (hs.ext x2).ext h3
    have hne : v.ownBlock ≠ some c := hs.lt (by omega)
    refine iQuo (by omega) ?_
    refine iMul (by omega) ?_
    refine iAdd (by omega) ?_
    refine iSub (by omega) ?_
    refine iLp (fun i : Nat => [.int .i64 (i : Int)]) (fun i w' => a + n / 4 * 2 - 1 ≤ i ∧ (∃ x, Blk 223 w' c [.int .u64 x]) ∧ ∃ L', Turn lo t_string sv v w w' L' ∧ SwR a (a + n) L L') (fun i => a + n - i) (a + n / 4 * 2 - 1) (by congr 2; omega)
      ⟨Nat.le_refl _, ⟨_, hb3⟩, L, ⟨hs3, ((x2.trans h3).ch)⟩, .refl⟩ ?_
    rintro i w5 Kn ⟨hi, ⟨x, hb5⟩, L1, ht1, hw1⟩ hKn
    have hl1 := hw1.len
    intro _
    simp only [gx]
    refine iQuo (by omega) ?_
    refine iMul (by omega) ?_
    refine iAdd (by omega) ?_
    refine iAdd (by omega) ?_
    refine iLe ?_
    refine iCndP (fun h5 => ?_) (fun h5 => ?_)
    · refine iCall ?_
      refine (ok_slices_xorshift_Next hb5).mono fun r w6 h6 => ?_
      obtain ⟨y, rfl, hb6, hc6⟩ := h6
      have hs6 := ht1.ow.ch hc6 fun c' hc' e => hne (e ▸ hc')
      refine ⟨_, _, rfl, rfl, ?_⟩
      rw [show IntKind.u64.wrap ((m : Int) - 1) = ((m - 1 : Nat) : Int) by rw [IntWalk.u64_in _ (by omega)]; omega]
      refine iAndUT (by omega) fun x hx => ?_
      refine iConv64 (by omega) ?_
      refine iLe ?_
      refine iJnX (fun xs w8 => Ext w6 w8 ∧ ∃ z : Nat, xs = [.int .i64 (z : Int)] ∧ z < n) (fun J hJ => ?_) ?_
      · refine iCndP (fun h7 => ?_) (fun h7 => ?_)
        · refine iSub (by omega) ?_
          rw [show (x : Int) - n = ((x - n : Nat) : Int) by omega]
          exact hJ _ _ ⟨Ext.refl _, x - n, rfl, by omega⟩
        · exact hJ _ _ ⟨Ext.refl _, x, rfl, by omega⟩
      rintro xs w8 ⟨h8, z, rfl, hz⟩
      intro _
      simp only [gx]
      have hs8 := hs6.ext h8
      have hb8 := hb6.ext h8
      have hc8 := ch_ext hc6 h8
      refine iAdd (by omega) ?_
      refine iAdd (by omega) ?_
      refine iRdO (j := a + z) hs8 (by omega) (by omega) ?_
      refine iRdO (j := i) hs8 rfl (by omega) ?_
      refine iWr2 (i := i) (j := a + z) (fun _ => rfl) hs8 rfl (by omega) (by omega) (by omega) fun w13 h13 => ?_
      refine iAdd (by omega) ?_
      refine hKn (i + 1) _ ⟨by omega, ⟨_, hb8.ch h13.ch fun e => hne e⟩, sw L1 i (a + z), ⟨h13.ow, ?_⟩, .step hw1 (by omega) (by omega) (by omega) (by omega) hb⟩ (by omega)
      refine (ht1.ch.trans hc8 fun c' e => .inr ?_).trans h13.ch fun _ e => .inl e
      omega
    · exact ⟨L1, ht1, hw1⟩
  · exact ⟨L, Turn.refl hs, .refl⟩
end Go.Proofs.YtapdkkijoflcpaaGreatDoor

/- Contracts: pivots, partitions and the trial of insertion of pdqsort. Conditions: none. -/
namespace Go.Proofs.YtapdkkijoflcpaaGreatDoor
open Go.Vc
theorem ok_slices_order2Ordered_string {lo : Nat} {e : TypeId} {w : World} {v : Value} {L : List Str} {i j c n : Nat} (hs : Ow lo t_string w v (strs L)) (hi : i < L.length) (hj : j < L.length) (hb : Blk e w c [.int .i64 (n : Int)]) (hn : n ≤ 1000) :
    Cal Tryz.prog f_slices_order2Ordered_string #[v, .int .i64 (i : Int), .int .i64 (j : Int), .pointer (some ⟨c, 0, none⟩)] w fun r w' => ∃ i' j' m : Nat, r = .tuple #[.int .i64 (i' : Int), .int .i64 (j' : Int)] ∧ ((i' = i ∧ j' = j) ∨ (i' = j ∧ j' = i)) ∧ m ≤ n + 1 ∧ Blk e w' c [.int .i64 (m : Int)] ∧ Ch (fun d => d = c) w w' := by
  apply c_slices_order2Ordered_string; unfold S_slices_order2Ordered_string
  refine iRdO (j := j) hs rfl hj ?_
  refine iRdO (j := i) hs rfl hi ?_
  refine iRetQ (fun w' _ => ok_cmp_Less_string _ _ w') ?_
  intro w1 h1
  have hb1 := hb.ext h1
  refine iCnd (fun h => ?_) (fun h => ?_)
  · ((with_reducible refine iNil ?_); refine iLdB (by assumption) (by first | rfl | simp) ?_; refine iAdd (by omega) ?_; (with_reducible refine iNil ?_))
    refine iStC hb1 rfl fun w2 hb2 hc2 => ?_
    exact ⟨j, i, n + 1, rfl, .inr ⟨rfl, rfl⟩, Nat.le_refl _, hb2, (h1.ch.trans hc2 fun _ e => .inl e)⟩
  · exact ⟨i, j, n, rfl, .inl ⟨rfl, rfl⟩, by omega, hb1, h1.ch⟩
theorem ok_slices_medianOrdered_string {lo : Nat} {e : TypeId} {w : World} {v : Value} {L : List Str} {i j k c n : Nat} (hs : Ow lo t_string w v (strs L)) (hne : v.ownBlock ≠ some c) (hi : i < L.length) (hj : j < L.length) (hk : k < L.length) (hb : Blk e w c [.int .i64 (n : Int)]) (hn : n ≤ 900) :
    Cal Tryz.prog f_slices_medianOrdered_string #[v, .int .i64 (i : Int), .int .i64 (j : Int), .int .i64 (k : Int), .pointer (some ⟨c, 0, none⟩)] w fun r w' => ∃ t m : Nat, r = .int .i64 (t : Int) ∧ (t = i ∨ t = j ∨ t = k) ∧ m ≤ n + 3 ∧ Blk e w' c [.int .i64 (m : Int)] ∧ Ch (fun d => d = c) w w' := by
  apply c_slices_medianOrdered_string; unfold S_slices_medianOrdered_string
  refine iCall ?_
  refine (ok_slices_order2Ordered_string hs hi hj hb (by omega)).mono fun r w1 h1 => ?_
  obtain ⟨i1, j1, n1, rfl, h1, hn1, hb1, hc1⟩ := h1
  have hs1 := hs.ch hc1 fun d hd e => hne (e ▸ hd)
  ((with_reducible refine iE20 ?_; refine iE21 ?_))
  refine iCall ?_
  refine (ok_slices_order2Ordered_string (i := j1) hs1 (by rcases h1 with h | h <;> omega) hk hb1 (by omega)).mono fun r w2 h2 => ?_
  obtain ⟨j2, k2, n2, rfl, h2, hn2, hb2, hc2⟩ := h2
  have hs2 := hs1.ch hc2 fun d hd e => hne (e ▸ hd)
  ((with_reducible refine iE20 ?_; refine iE21 ?_))
  refine iCall ?_
  refine (ok_slices_order2Ordered_string (i := i1) (j := j2) hs2 (by rcases h1 with h | h <;> omega) (by rcases h1 with h | h <;> rcases h2 with h' | h' <;> omega) hb2 (by omega)).mono fun r w3 h3 => ?_
  obtain ⟨i3, j3, n3, rfl, h3, hn3, hb3, hc3⟩ := h3
  ((with_reducible refine iE20 ?_; refine iE21 ?_))
  exact ⟨j3, n3, rfl, by rcases h1 with h | h <;> rcases h2 with h' | h' <;> rcases h3 with h'' | h'' <;> omega, by omega, hb3, ch_self (ch_self hc1 hc2) hc3⟩
theorem ok_slices_medianAdjacentOrdered_string {lo : Nat} {e : TypeId} {w : World} {v : Value} {L : List Str} {i c n : Nat} (hs : Ow lo t_string w v (strs L)) (hne : v.ownBlock ≠ some c) (h1 : 1 ≤ i) (hi : i + 1 < L.length) (hL : L.length ≤ 1152921504606846976) (hb : Blk e w c [.int .i64 (n : Int)]) (hn : n ≤ 900) :
    Cal Tryz.prog f_slices_medianAdjacentOrdered_string #[v, .int .i64 (i : Int), .pointer (some ⟨c, 0, none⟩)] w fun r w' => ∃ t m : Nat, r = .int .i64 (t : Int) ∧ (t = i - 1 ∨ t = i ∨ t = i + 1) ∧ m ≤ n + 3 ∧ Blk e w' c [.int .i64 (m : Int)] ∧ Ch (fun d => d = c) w w' := by
  apply c_slices_medianAdjacentOrdered_string; unfold S_slices_medianAdjacentOrdered_string
  (refine iSub (by omega) ?_; refine iAdd (by omega) ?_)
  rw [show (i : Int) - 1 = ((i - 1 : Nat) : Int) by omega]
  refine iCall ?_
  exact ok_slices_medianOrdered_string (i := i - 1) (j := i) (k := i + 1) hs hne (by omega) (by omega) hi hb hn
theorem ok_slices_choosePivotOrdered_string {lo : Nat} {w : World} {v : Value} {L : List Str} {a b : Nat} (hs : Ow lo t_string w v (strs L)) (hab : a + 8 ≤ b) (hb : b ≤ L.length) (hL : L.length ≤ 1152921504606846976) :
    Cal Tryz.prog f_slices_choosePivotOrdered_string #[v, .int .i64 (a : Int), .int .i64 (b : Int)] w fun r w' => Ext w w' ∧ ∃ t : Nat, ∃ x : Int, r = .tuple #[.int .i64 (t : Int), .int .i64 x] ∧ a ≤ t ∧ t < b := by
  apply c_slices_choosePivotOrdered_string; unfold S_slices_choosePivotOrdered_string
  obtain ⟨n, rfl⟩ : ∃ n, b = a + n := ⟨b - a, by omega⟩
  refine iSub (by omega) ?_
  rw [show ((a + n : Nat) : Int) - a = (n : Int) by omega]
  refine iNew fun c w1 hc1 h1 hb1 => ?_
  have hne : v.ownBlock ≠ some c := hs.lt (by omega)
  have hs1 := hs.ext h1
  have new : ∀ {w' : World}, Ch (fun d => d = c) w1 w' → Ext w w' := fun {w'} h => h1.thenCh h fun d e => by omega
  refine iQuo (by omega) ?_
  refine iMul (by omega) ?_
  refine iAdd (by omega) ?_
  refine iQuo (by omega) ?_
  refine iMul (by omega) ?_
  refine iAdd (by omega) ?_
  refine iQuo (by omega) ?_
  refine iMul (by omega) ?_
  refine iAdd (by omega) ?_
  refine iLe ?_
  rw [show (a : Int) + (n : Int) / 4 * 1 = ((a + n / 4 * 1 : Nat) : Int) by omega, show (a : Int) + (n : Int) / 4 * 2 = ((a + n / 4 * 2 : Nat) : Int) by omega, show (a : Int) + (n : Int) / 4 * 3 = ((a + n / 4 * 3 : Nat) : Int) by omega]
  refine iJnX (fun xs w' => ∃ t m : Nat, xs = [.int .i64 (t : Int)] ∧ a ≤ t ∧ t < a + n ∧ Blk 3 w' c [.int .i64 (m : Int)] ∧ Ch (fun d => d = c) w1 w') (fun J hJ => ?_) ?_
  · refine iCndP (fun h => ?_) (fun h => ?_)
    · refine iLe ?_
      refine iJnX (fun xs w' => ∃ i j k m : Nat, xs = [.int .i64 (i : Int), .int .i64 (j : Int), .int .i64 (k : Int)] ∧ a ≤ i ∧ i < a + n ∧ a ≤ j ∧ j < a + n ∧ a ≤ k ∧ k < a + n ∧ m ≤ 9 ∧ Blk 3 w' c [.int .i64 (m : Int)] ∧ Ch (fun d => d = c) w1 w') (fun J' hJ' => ?_) ?_
      · refine iCndP (fun h5 => ?_) (fun h5 => ?_)
        · refine iCall ?_
          refine (ok_slices_medianAdjacentOrdered_string (n := 0) hs1 hne (by omega) (by omega) hL hb1 (by omega)).mono fun r w2 h2 => ?_
          obtain ⟨i, m1, rfl, hi, hm1, hb2, hc2⟩ := h2
          have hs2 := hs1.ch hc2 fun d hd e => hne (e ▸ hd)
          refine iCall ?_
          refine (ok_slices_medianAdjacentOrdered_string hs2 hne (by omega) (by omega) hL hb2 (by omega)).mono fun r w3 h3 => ?_
          obtain ⟨j, m2, rfl, hj, hm2, hb3, hc3⟩ := h3
          have hs3 := hs2.ch hc3 fun d hd e => hne (e ▸ hd)
          refine iCall ?_
          refine (ok_slices_medianAdjacentOrdered_string hs3 hne (by omega) (by omega) hL hb3 (by omega)).mono fun r w4 h4 => ?_
          obtain ⟨k, m3, rfl, hk, hm3, hb4, hc4⟩ := h4
          exact hJ' _ _ ⟨i, j, k, m3, rfl, by omega, by omega, by omega, by omega, by omega, by omega, by omega, hb4, ch_self (ch_self hc2 hc3) hc4⟩
        · exact hJ' _ _ ⟨_, _, _, 0, rfl, by omega, by omega, by omega, by omega, by omega, by omega, by omega, hb1, (Ext.refl _).ch⟩
      rintro xs w5 ⟨i, j, k, m, rfl, h11, h12, h21, h22, h31, h32, hm, hb5, hc5⟩
      intro _
      simp only [gx]
      have hs5 := hs1.ch hc5 fun d hd e => hne (e ▸ hd)
      refine iCall ?_
      refine (ok_slices_medianOrdered_string hs5 hne (i := i) (j := j) (k := k) (by omega) (by omega) (by omega) hb5 (by omega)).mono fun r w6 h6 => ?_
      obtain ⟨t, m', rfl, ht, hm', hb6, hc6⟩ := h6
      exact hJ _ _ ⟨t, m', rfl, by omega, by omega, hb6, ch_self hc5 hc6⟩
    · omega
  rintro xs w3 ⟨t, m, rfl, ht1, ht2, hb3, hc3⟩
  intro _
  simp only [gx]
  (refine iLdB (by assumption) (by first | rfl | simp) ?_; (with_reducible refine iEq ?_))
  refine iCndP (fun h => ?_) (fun h => ?_)
  · exact ⟨new hc3, t, 1, rfl, ht1, ht2⟩
  · ((with_reducible refine iEq ?_))
    refine iCndP (fun h => ?_) (fun h => ?_)
    · exact ⟨new hc3, t, 2, rfl, ht1, ht2⟩
    · exact ⟨new hc3, t, 0, rfl, ht1, ht2⟩
theorem ok_slices_partitionEqualOrdered_string {lo : Nat} {w : World} {v : Value} {L : List Str} {a b t : Nat} (hs : Ow lo t_string w v (strs L)) (hat : a ≤ t) (htb : t < b) (hb : b ≤ L.length) (hL : L.length ≤ 1152921504606846976) :
    Cal Tryz.prog f_slices_partitionEqualOrdered_string #[v, .int .i64 (a : Int), .int .i64 (b : Int), .int .i64 (t : Int)] w fun r w' => ∃ L' : List Str, ∃ m : Nat, r = .int .i64 (m : Int) ∧ Turn lo t_string sv v w w' L' ∧ SwR a b L L' ∧ a < m ∧ m ≤ b ∧ (∀ k, a ≤ k → k < m → ltS (gt L t) (gt L' k) = false) := by
  apply c_slices_partitionEqualOrdered_string; unfold S_slices_partitionEqualOrdered_string
  refine iRdO (j := t) hs rfl (by omega) ?_
  refine iRdO (j := a) hs rfl (by omega) ?_
  refine iWr2 (i := a) (j := t) (fun _ => rfl) hs rfl rfl (by omega) (by omega) fun w5 h5 => ?_
  have e0 : gt (sw L a t) a = gt L t := by rw [gt_sw (by omega) (by omega)]; split <;> simp_all
  (refine iAdd (by omega) ?_; refine iSub (by omega) ?_)
  refine iLp (fun s : Nat × Int => [.int .i64 (s.1 : Int), .int .i64 s.2]) (fun s w' => a + 1 ≤ s.1 ∧ s.1 ≤ b ∧ (s.1 : Int) - 1 ≤ s.2 + 1 ∧ s.2 < b ∧ ∃ L', Turn lo t_string sv v w w' L' ∧ SwR a b L L' ∧ gt L' a = gt L t ∧ ∀ k, a ≤ k → k < s.1 → ltS (gt L t) (gt L' k) = false) (fun s => b - s.1) (a + 1, (b : Int) - 1) rfl
    ⟨Nat.le_refl _, by show a + 1 ≤ b; omega, by show ((a + 1 : Nat) : Int) - 1 ≤ (b : Int) - 1 + 1; omega, by show (b : Int) - 1 < b; omega, sw L a t, h5, .one (Nat.le_refl _) (by omega) hat htb hb, e0, fun k h1 h2 => by have h2 : k < a + 1 := h2; rw [show k = a by omega, e0]; exact ordrS.rfl _⟩ ?_
  rintro ⟨i0, j0⟩ w7 Kn ⟨hi0, hib0, hij0, hjb0, L1, ht1, hw1, he1, hq1⟩ hKn
  have hi0 : a + 1 ≤ i0 := hi0
  have hib0 : i0 ≤ b := hib0
  have hij0 : (i0 : Int) - 1 ≤ j0 + 1 := hij0
  have hjb0 : j0 < b := hjb0
  have hq1 : ∀ k, a ≤ k → k < i0 → ltS (gt L t) (gt L1 k) = false := hq1
  have hl1 := hw1.len
  intro _
  simp only [gx]
  refine iLp (fun i : Nat => [.int .i64 (i : Int)]) (fun i w' => i0 ≤ i ∧ i ≤ b ∧ (i : Int) - 1 ≤ j0 + 1 ∧ Ext w7 w' ∧ ∀ k, a ≤ k → k < i → ltS (gt L t) (gt L1 k) = false) (fun i => b - i) i0 rfl ⟨Nat.le_refl _, hib0, hij0, Ext.refl _, hq1⟩ ?_
  rintro i w9 Kn9 ⟨hi, hib, hij, h9, hq⟩ hKn9
  intro _
  simp only [gx]
  have ht9 := ht1.ext h9
  refine iJnB (decide ((i : Int) ≤ j0) && !ltS (gt L1 a) (gt L1 i)) w9 (fun J hJ => ?_) (fun w11 h11 => ?_)
  · refine iLe ?_
    refine iCndP (fun h => ?_) (fun h => ?_)
    · rw [decide_eq_true h, Bool.true_and] at hJ
      refine iRdO (j := a) ht9.ow rfl (by omega) ?_
      refine iRdO (j := i) ht9.ow rfl (by omega) ?_
      exact iRetQ (fun w' _ => ok_cmp_Less_string _ _ w') (iNot hJ)
    · rw [decide_eq_false h, Bool.false_and] at hJ
      exact hJ
  intro _
  simp only [gx]
  have h9' := h9.trans h11
  cases hc : decide ((i : Int) ≤ j0) && !ltS (gt L1 a) (gt L1 i)
  rotate_left
  · rw [Bool.and_eq_true, decide_eq_true_eq, Bool.not_eq_true'] at hc
    refine iCndT rfl ?_
    (refine iAdd (by omega) ?_)
    refine hKn9 (i + 1) _ ⟨by omega, by omega, by omega, h9', fun k h1 h2 => ?_⟩ (by omega)
    by_cases hk : k = i
    · rw [hk, ← he1]; exact hc.2
    · exact hq k h1 (by omega)
  refine iCndF rfl ?_
  refine iLp (fun j : Int => [.int .i64 j]) (fun j w' => j ≤ j0 ∧ (i : Int) - 1 ≤ j + 1 ∧ Ext w7 w' ∧ (j < j0 → (i : Int) - 1 ≤ j)) (fun j => (j + 2).toNat) j0 rfl ⟨Int.le_refl _, hij, h9', fun h => by omega⟩ ?_
  rintro j w15 Kn15 ⟨hjj, hij2, h15, hij3⟩ hKn15
  intro _
  simp only [gx]
  have ht15 := ht1.ext h15
  refine iJnB (decide ((i : Int) ≤ j) && ltS (gt L1 a) (gt L1 j.toNat)) w15 (fun J hJ => ?_) (fun w17 h17 => ?_)
  · refine iLe ?_
    refine iCndP (fun h => ?_) (fun h => ?_)
    · rw [decide_eq_true h, Bool.true_and] at hJ
      refine iRdO (j := a) ht15.ow rfl (by omega) ?_
      refine iRdO (j := j.toNat) ht15.ow (by omega) (by omega) ?_
      exact iRetQ (fun w' _ => ok_cmp_Less_string _ _ w') hJ
    · rw [decide_eq_false h, Bool.false_and] at hJ
      exact hJ
  intro _
  simp only [gx]
  have ht17 := ht15.ext h17
  cases hc2 : decide ((i : Int) ≤ j) && ltS (gt L1 a) (gt L1 j.toNat)
  rotate_left
  · rw [Bool.and_eq_true, decide_eq_true_eq] at hc2
    refine iCndT rfl ?_
    refine iSub (by omega) ?_
    exact hKn15 (j - 1) _ ⟨by omega, by omega, h15.trans h17, fun _ => by omega⟩ (by omega)
  refine iCndF rfl ?_
  refine iLt ?_
  refine iCndP (fun h => ?_) (fun h => ?_)
  · exact ⟨L1, i, rfl, ht17, hw1, by omega, hib, hq⟩
  · have hlt : ltS (gt L1 a) (gt L1 j.toNat) = false := by
      rw [decide_eq_true (show (i : Int) ≤ j by omega), Bool.true_and] at hc2; exact hc2
    refine iRdO (j := j.toNat) ht17.ow (by omega) (by omega) ?_
    refine iRdO (j := i) ht17.ow rfl (by omega) ?_
    refine iWr2 (i := i) (j := j.toNat) (fun _ => rfl) ht17.ow rfl (by omega) (by omega) (by omega) fun w24 h24 => ?_
    refine iAdd (by omega) ?_
    refine iSub (by omega) ?_
    have eS : ∀ k, gt (sw L1 i j.toNat) k = if k = j.toNat then gt L1 i else if k = i then gt L1 j.toNat else gt L1 k := gt_sw (by omega) (by omega)
    refine hKn (i + 1, j - 1) _ ⟨by show a + 1 ≤ i + 1; omega, by show i + 1 ≤ b; omega, by show ((i + 1 : Nat) : Int) - 1 ≤ j - 1 + 1; omega, by show j - 1 < b; omega, sw L1 i j.toNat, ht17.trans h24, .step hw1 (by omega) (by omega) (by omega) (by omega) hb, by rw [eS, if_neg (by omega), if_neg (by omega)]; exact he1, fun k h1 h2 => ?_⟩ (by show b - (i + 1) < b - i0; omega)
    have h2 : k < i + 1 := h2
    rw [eS]
    by_cases hk : k = i
    · subst hk
      split
      · rename_i hkj; rw [← hkj, he1] at hlt; exact hlt
      · rw [if_pos rfl, ← he1]; exact hlt
    · rw [if_neg (by omega), if_neg hk]; exact hq k h1 (by omega)
end Go.Proofs.YtapdkkijoflcpaaGreatDoor

/- Contracts: partition, the trial of insertion and pdqsort itself, on strings. Conditions: none. -/
namespace Go.Vc
theorem part_end {L : List Str} {a b j : Nat} {pv : Str} (haj : a ≤ j) (hjb : j < b) (hb : b ≤ L.length) (he : gt L a = pv) (h1 : ∀ k, a + 1 ≤ k → k ≤ j → ltS (gt L k) pv = true) (h2 : ∀ k, j < k → k < b → ltS (gt L k) pv = false) : Parted ltS a b j (sw L j a) := by
  have e : ∀ k, gt (sw L j a) k = if k = a then gt L j else if k = j then gt L a else gt L k := gt_sw (by omega) (by omega)
  have ej : gt (sw L j a) j = pv := by
    rw [e]
    split
    · rename_i h; rw [h]; exact he
    · rw [if_pos rfl]; exact he
  refine ⟨fun k hk hk' => ?_, fun k hk hk' => ?_⟩
  · rw [ej, e]
    by_cases hka : k = a
    · rw [if_pos hka]; exact h1 j (by omega) (Nat.le_refl _)
    · rw [if_neg hka, if_neg (by omega)]; exact h1 k (by omega) (by omega)
  · rw [ej, e, if_neg (by omega), if_neg (by omega)]; exact h2 k hk hk'
end Go.Vc
namespace Go.Proofs.YtapdkkijoflcpaaGreatDoor
open Go.Vc
theorem ok_slices_partitionOrdered_string {lo : Nat} {w : World} {v : Value} {L : List Str} {a b t : Nat} (hs : Ow lo t_string w v (strs L)) (hat : a ≤ t) (htb : t < b) (hb : b ≤ L.length) (hL : L.length ≤ 1152921504606846976) :
    Cal Tryz.prog f_slices_partitionOrdered_string #[v, .int .i64 (a : Int), .int .i64 (b : Int), .int .i64 (t : Int)] w fun r w' => ∃ L' : List Str, ∃ m : Nat, ∃ y : Bool, r = .tuple #[.int .i64 (m : Int), .bool y] ∧ Turn lo t_string sv v w w' L' ∧ SwR a b L L' ∧ a ≤ m ∧ m < b ∧ Parted ltS a b m L' := by
  apply c_slices_partitionOrdered_string; unfold S_slices_partitionOrdered_string
  refine iRdO (j := t) hs rfl (by omega) ?_
  refine iRdO (j := a) hs rfl (by omega) ?_
  refine iWr2 (i := a) (j := t) (fun _ => rfl) hs rfl rfl (by omega) (by omega) fun w7 h5 => ?_
  have h5 : Turn lo t_string sv v w w7 (sw L a t) := h5
  have e0 : gt (sw L a t) a = gt L t := by rw [gt_sw (by omega) (by omega)]; split <;> simp_all
  have hw0 : SwR a b L (sw L a t) := .one (Nat.le_refl _) (by omega) hat htb hb
  have hl0 := hw0.len
  generalize sw L a t = L0 at h5 e0 hw0 hl0
  (refine iAdd (by omega) ?_; refine iSub (by omega) ?_)
  obtain ⟨i0, hi0⟩ : ∃ i0, i0 = a + 1 := ⟨_, rfl⟩
  obtain ⟨j0, hj0⟩ : ∃ j0 : Int, j0 = (b : Int) - 1 := ⟨_, rfl⟩
  rw [show (a : Int) + 1 = (i0 : Int) by omega, ← hj0]
  refine iLp (fun i : Nat => [.int .i64 (i : Int)]) (fun i w' => i0 ≤ i ∧ (i : Int) ≤ j0 + 1 ∧ Ext w7 w' ∧ ∀ k, a + 1 ≤ k → k < i → ltS (gt L0 k) (gt L t) = true) (fun i => b - i) i0 rfl ⟨Nat.le_refl _, by omega, Ext.refl _, fun k h1 h2 => by omega⟩ ?_
  rintro i w9 Kn9 ⟨hi, hij, h9, hq⟩ hKn9
  intro _
  simp only [gx]
  have ht9 := h5.ext h9
  refine iJnB (decide ((i : Int) ≤ j0) && ltS (gt L0 i) (gt L0 a)) w9 (fun J hJ => ?_) (fun w11 h11 => ?_)
  · refine iLe ?_
    refine iCndP (fun h => ?_) (fun h => ?_)
    · rw [decide_eq_true h, Bool.true_and] at hJ
      refine iRdO (j := i) ht9.ow rfl (by omega) ?_
      refine iRdO (j := a) ht9.ow rfl (by omega) ?_
      exact iRetQ (fun w' _ => ok_cmp_Less_string _ _ w') hJ
    · rw [decide_eq_false h, Bool.false_and] at hJ
      exact hJ
  intro _
  simp only [gx]
  have h9' := h9.trans h11
  cases hc : decide ((i : Int) ≤ j0) && ltS (gt L0 i) (gt L0 a)
  rotate_left
  · rw [Bool.and_eq_true, decide_eq_true_eq] at hc
    refine iCndT rfl ?_
    (refine iAdd (by omega) ?_)
    refine hKn9 (i + 1) _ ⟨by omega, by omega, h9', fun k h1 h2 => ?_⟩ (by omega)
    by_cases hk : k = i
    · rw [hk, ← e0]; exact hc.2
    · exact hq k h1 (by omega)
  refine iCndF rfl ?_
  refine iLp (fun j : Int => [.int .i64 j]) (fun j w' => j ≤ j0 ∧ (i : Int) ≤ j + 1 ∧ Ext w7 w' ∧ ∀ k : Nat, j < k → k < b → ltS (gt L0 k) (gt L t) = false) (fun j => (j + 2).toNat) j0 rfl ⟨Int.le_refl _, hij, h9', fun k h1 h2 => by omega⟩ ?_
  rintro j w15 Kn15 ⟨hjj, hij2, h15, hq2⟩ hKn15
  intro _
  simp only [gx]
  have ht15 := h5.ext h15
  refine iJnB (decide ((i : Int) ≤ j) && !ltS (gt L0 j.toNat) (gt L0 a)) w15 (fun J hJ => ?_) (fun w17 h17 => ?_)
  · refine iLe ?_
    refine iCndP (fun h => ?_) (fun h => ?_)
    · rw [decide_eq_true h, Bool.true_and] at hJ
      refine iRdO (j := j.toNat) ht15.ow (by omega) (by omega) ?_
      refine iRdO (j := a) ht15.ow rfl (by omega) ?_
      exact iRetQ (fun w' _ => ok_cmp_Less_string _ _ w') (iNot hJ)
    · rw [decide_eq_false h, Bool.false_and] at hJ
      exact hJ
  intro _
  simp only [gx]
  have ht17 := ht15.ext h17
  cases hc2 : decide ((i : Int) ≤ j) && !ltS (gt L0 j.toNat) (gt L0 a)
  rotate_left
  · rw [Bool.and_eq_true, decide_eq_true_eq, Bool.not_eq_true'] at hc2
    refine iCndT rfl ?_
    refine iSub (by omega) ?_
    refine hKn15 (j - 1) _ ⟨by omega, by omega, h15.trans h17, fun k h1 h2 => ?_⟩ (by omega)
    by_cases hk : (k : Int) = j
    · rw [show k = j.toNat by omega, ← e0]; exact hc2.2
    · exact hq2 k (by omega) h2
  refine iCndF rfl ?_
  refine iLt ?_
  refine iCndP (fun h => ?_) (fun h => ?_)
  · refine iRdO (j := a) ht17.ow rfl (by omega) ?_
    refine iRdO (j := j.toNat) ht17.ow (by omega) (by omega) ?_
    refine iWr2 (i := j.toNat) (j := a) (fun _ => rfl) ht17.ow (by omega) rfl (by omega) (by omega) fun w22 h22 => ?_
    exact ⟨sw L0 j.toNat a, j.toNat, true, by rw [Int.toNat_of_nonneg (by omega)], ht17.trans h22, .step hw0 (by omega) (by omega) (Nat.le_refl _) (by omega) hb, by omega, by omega, part_end (by omega) (by omega) (by omega) e0 (fun k h1 h2 => hq k h1 (by omega)) (fun k h1 h2 => hq2 k (by omega) h2)⟩
  have hlt1 : ltS (gt L0 i) (gt L t) = false := by
    rw [decide_eq_true (show (i : Int) ≤ j0 by omega), Bool.true_and, e0] at hc; exact hc
  have hlt2 : ltS (gt L0 j.toNat) (gt L t) = true := by
    rw [decide_eq_true (show (i : Int) ≤ j by omega), Bool.true_and, Bool.not_eq_false', e0] at hc2; exact hc2
  have hne : i ≠ j.toNat := fun e => by rw [e, hlt2] at hlt1; cases hlt1
  refine iRdO (j := j.toNat) ht17.ow (by omega) (by omega) ?_
  refine iRdO (j := i) ht17.ow rfl (by omega) ?_
  refine iWr2 (i := i) (j := j.toNat) (fun _ => rfl) ht17.ow rfl (by omega) (by omega) (by omega) fun w24 h24 => ?_
  refine iAdd (by omega) ?_
  refine iSub (by omega) ?_
  have eS : ∀ k, gt (sw L0 i j.toNat) k = if k = j.toNat then gt L0 i else if k = i then gt L0 j.toNat else gt L0 k := gt_sw (by omega) (by omega)
  have nx1 : ∀ k, a + 1 ≤ k → k < i + 1 → ltS (gt (sw L0 i j.toNat) k) (gt L t) = true := fun k h1 h2 => by
    rw [eS, if_neg (by omega)]
    by_cases hk : k = i
    · rw [if_pos hk]; exact hlt2
    · rw [if_neg hk]; exact hq k h1 (by omega)
  have nx2 : ∀ k : Nat, j - 1 < k → k < b → ltS (gt (sw L0 i j.toNat) k) (gt L t) = false := fun k h1 h2 => by
    rw [eS]
    by_cases hk : k = j.toNat
    · rw [if_pos hk]; exact hlt1
    · rw [if_neg hk, if_neg (by omega)]; exact hq2 k (by omega) h2
  have nxe : gt (sw L0 i j.toNat) a = gt L t := by rw [eS, if_neg (by omega), if_neg (by omega)]; exact e0
  refine iLp (fun s : Nat × Int => [.int .i64 (s.1 : Int), .int .i64 s.2]) (fun s w' => a + 1 ≤ s.1 ∧ (s.1 : Int) ≤ s.2 + 1 ∧ s.2 < b ∧ ∃ L', Turn lo t_string sv v w w' L' ∧ SwR a b L L' ∧ gt L' a = gt L t ∧ (∀ k, a + 1 ≤ k → k < s.1 → ltS (gt L' k) (gt L t) = true) ∧ ∀ k : Nat, s.2 < k → k < b → ltS (gt L' k) (gt L t) = false) (fun s => b - s.1) (i + 1, j - 1) rfl
    ⟨by show a + 1 ≤ i + 1; omega, by show ((i + 1 : Nat) : Int) ≤ j - 1 + 1; omega, by show j - 1 < b; omega, sw L0 i j.toNat, ht17.trans h24, .step hw0 (by omega) (by omega) (by omega) (by omega) hb, nxe, nx1, nx2⟩ ?_
  clear hKn9 hKn15 nxe nx1 nx2 eS hq hq2
  rintro ⟨i1, j1⟩ w29 Kn ⟨hi1, hij1, hjb1, L1, ht1, hw1, he1, hq1, hq21⟩ hKn
  have hi1 : a + 1 ≤ i1 := hi1
  have hij1 : (i1 : Int) ≤ j1 + 1 := hij1
  have hjb1 : j1 < b := hjb1
  have hl1 := hw1.len
  intro _
  simp only [gx]
  refine iLp (fun i : Nat => [.int .i64 (i : Int)]) (fun i w' => i1 ≤ i ∧ (i : Int) ≤ j1 + 1 ∧ Ext w29 w' ∧ ∀ k, a + 1 ≤ k → k < i → ltS (gt L1 k) (gt L t) = true) (fun i => b - i) i1 rfl ⟨Nat.le_refl _, by omega, Ext.refl _, hq1⟩ ?_
  rintro i w9 Kn9 ⟨hi, hij, h9, hq⟩ hKn9
  intro _
  simp only [gx]
  have ht9 := ht1.ext h9
  refine iJnB (decide ((i : Int) ≤ j1) && ltS (gt L1 i) (gt L1 a)) w9 (fun J hJ => ?_) (fun w11 h11 => ?_)
  · refine iLe ?_
    refine iCndP (fun h => ?_) (fun h => ?_)
    · rw [decide_eq_true h, Bool.true_and] at hJ
      refine iRdO (j := i) ht9.ow rfl (by omega) ?_
      refine iRdO (j := a) ht9.ow rfl (by omega) ?_
      exact iRetQ (fun w' _ => ok_cmp_Less_string _ _ w') hJ
    · rw [decide_eq_false h, Bool.false_and] at hJ
      exact hJ
  intro _
  simp only [gx]
  have h9' := h9.trans h11
  cases hc : decide ((i : Int) ≤ j1) && ltS (gt L1 i) (gt L1 a)
  rotate_left
  · rw [Bool.and_eq_true, decide_eq_true_eq] at hc
    refine iCndT rfl ?_
    (refine iAdd (by omega) ?_)
    refine hKn9 (i + 1) _ ⟨by omega, by omega, h9', fun k h1 h2 => ?_⟩ (by omega)
    by_cases hk : k = i
    · rw [hk, ← he1]; exact hc.2
    · exact hq k h1 (by omega)
  refine iCndF rfl ?_
  refine iLp (fun j : Int => [.int .i64 j]) (fun j w' => j ≤ j1 ∧ (i : Int) ≤ j + 1 ∧ Ext w29 w' ∧ ∀ k : Nat, j < k → k < b → ltS (gt L1 k) (gt L t) = false) (fun j => (j + 2).toNat) j1 rfl ⟨Int.le_refl _, hij, h9', hq21⟩ ?_
  rintro j w15 Kn15 ⟨hjj, hij2, h15, hq2⟩ hKn15
  intro _
  simp only [gx]
  have ht15 := ht1.ext h15
  refine iJnB (decide ((i : Int) ≤ j) && !ltS (gt L1 j.toNat) (gt L1 a)) w15 (fun J hJ => ?_) (fun w17 h17 => ?_)
  · refine iLe ?_
    refine iCndP (fun h => ?_) (fun h => ?_)
    · rw [decide_eq_true h, Bool.true_and] at hJ
      refine iRdO (j := j.toNat) ht15.ow (by omega) (by omega) ?_
      refine iRdO (j := a) ht15.ow rfl (by omega) ?_
      exact iRetQ (fun w' _ => ok_cmp_Less_string _ _ w') (iNot hJ)
    · rw [decide_eq_false h, Bool.false_and] at hJ
      exact hJ
  intro _
  simp only [gx]
  have ht17 := ht15.ext h17
  cases hc2 : decide ((i : Int) ≤ j) && !ltS (gt L1 j.toNat) (gt L1 a)
  rotate_left
  · rw [Bool.and_eq_true, decide_eq_true_eq, Bool.not_eq_true'] at hc2
    refine iCndT rfl ?_
    refine iSub (by omega) ?_
    refine hKn15 (j - 1) _ ⟨by omega, by omega, h15.trans h17, fun k h1 h2 => ?_⟩ (by omega)
    by_cases hk : (k : Int) = j
    · rw [show k = j.toNat by omega, ← he1]; exact hc2.2
    · exact hq2 k (by omega) h2
  refine iCndF rfl ?_
  refine iLt ?_
  refine iCndP (fun h => ?_) (fun h => ?_)
  · refine iRdO (j := a) ht17.ow rfl (by omega) ?_
    refine iRdO (j := j.toNat) ht17.ow (by omega) (by omega) ?_
    refine iWr2 (i := j.toNat) (j := a) (fun _ => rfl) ht17.ow (by omega) rfl (by omega) (by omega) fun w22 h22 => ?_
    exact ⟨sw L1 j.toNat a, j.toNat, false, by rw [Int.toNat_of_nonneg (by omega)], ht17.trans h22, .step hw1 (by omega) (by omega) (Nat.le_refl _) (by omega) hb, by omega, by omega, part_end (by omega) (by omega) (by omega) he1 (fun k h1 h2 => hq k h1 (by omega)) (fun k h1 h2 => hq2 k (by omega) h2)⟩
  have hlt1 : ltS (gt L1 i) (gt L t) = false := by
    rw [decide_eq_true (show (i : Int) ≤ j1 by omega), Bool.true_and, he1] at hc; exact hc
  have hlt2 : ltS (gt L1 j.toNat) (gt L t) = true := by
    rw [decide_eq_true (show (i : Int) ≤ j by omega), Bool.true_and, Bool.not_eq_false', he1] at hc2; exact hc2
  have hne : i ≠ j.toNat := fun e => by rw [e, hlt2] at hlt1; cases hlt1
  refine iRdO (j := j.toNat) ht17.ow (by omega) (by omega) ?_
  refine iRdO (j := i) ht17.ow rfl (by omega) ?_
  refine iWr2 (i := i) (j := j.toNat) (fun _ => rfl) ht17.ow rfl (by omega) (by omega) (by omega) fun w24 h24 => ?_
  refine iAdd (by omega) ?_
  refine iSub (by omega) ?_
  have eS : ∀ k, gt (sw L1 i j.toNat) k = if k = j.toNat then gt L1 i else if k = i then gt L1 j.toNat else gt L1 k := gt_sw (by omega) (by omega)
  have nx1 : ∀ k, a + 1 ≤ k → k < i + 1 → ltS (gt (sw L1 i j.toNat) k) (gt L t) = true := fun k h1 h2 => by
    rw [eS, if_neg (by omega)]
    by_cases hk : k = i
    · rw [if_pos hk]; exact hlt2
    · rw [if_neg hk]; exact hq k h1 (by omega)
  have nx2 : ∀ k : Nat, j - 1 < k → k < b → ltS (gt (sw L1 i j.toNat) k) (gt L t) = false := fun k h1 h2 => by
    rw [eS]
    by_cases hk : k = j.toNat
    · rw [if_pos hk]; exact hlt1
    · rw [if_neg hk, if_neg (by omega)]; exact hq2 k (by omega) h2
  have nxe : gt (sw L1 i j.toNat) a = gt L t := by rw [eS, if_neg (by omega), if_neg (by omega)]; exact he1
  exact hKn (i + 1, j - 1) _ ⟨by show a + 1 ≤ i + 1; omega, by show ((i + 1 : Nat) : Int) ≤ j - 1 + 1; omega, by show j - 1 < b; omega, sw L1 i j.toNat, ht17.trans h24, .step hw1 (by omega) (by omega) (by omega) (by omega) hb, nxe, nx1, nx2⟩ (by show b - (i + 1) < b - i1; omega)
theorem ok_slices_partialInsertionSortOrdered_string {lo : Nat} {w : World} {v : Value} {L : List Str} {a b : Nat} (hs : Ow lo t_string w v (strs L)) (hab : a < b) (hb : b ≤ L.length) (hL : L.length ≤ 1152921504606846976) (hbl : Blw ltS a b L) :
    Cal Tryz.prog f_slices_partialInsertionSortOrdered_string #[v, .int .i64 (a : Int), .int .i64 (b : Int)] w fun r w' => ∃ y : Bool, ∃ L' : List Str, r = .bool y ∧ Turn lo t_string sv v w w' L' ∧ SwR a b L L' ∧ (y = true → Srt ltS a b L') := by
  apply c_slices_partialInsertionSortOrdered_string; unfold S_slices_partialInsertionSortOrdered_string
  (refine iAdd (by omega) ?_)
  refine iLp (fun s : Nat × Nat => [.int .i64 (s.1 : Int), .int .i64 (s.2 : Int)]) (fun s w' => a + 1 ≤ s.1 ∧ s.1 ≤ b ∧ s.2 ≤ 5 ∧ ∃ L', Turn lo t_string sv v w w' L' ∧ SwR a b L L' ∧ Srt ltS a s.1 L') (fun s => 5 - s.2) (a + 1, 0) rfl ⟨Nat.le_refl _, by show a + 1 ≤ b; omega, Nat.zero_le _, L, Turn.refl hs, .refl, Srt.short (Nat.le_refl _)⟩ ?_
  rintro ⟨i0, r⟩ w2 Kn ⟨hi0, hib0, hr, L1, ht1, hw1, hs1⟩ hKn
  have hi0 : a + 1 ≤ i0 := hi0
  have hib0 : i0 ≤ b := hib0
  have hr : r ≤ 5 := hr
  have hs1 : Srt ltS a i0 L1 := hs1
  have hl1 := hw1.len
  intro _
  simp only [gx]
  refine iLt ?_
  refine iCndP (fun h5 => ?_) (fun h5 => ?_)
  rotate_left
  · exact ⟨false, L1, rfl, ht1, hw1, fun h => by cases h⟩
  refine iLp (fun i : Nat => [.int .i64 (i : Int)]) (fun i w' => i0 ≤ i ∧ i ≤ b ∧ Ext w2 w' ∧ Srt ltS a i L1) (fun i => b - i) i0 rfl ⟨Nat.le_refl _, hib0, Ext.refl _, hs1⟩ ?_
  rintro i w4 Kn4 ⟨hi, hib, h4, hsi⟩ hKn4
  intro _
  simp only [gx]
  have ht4 := ht1.ext h4
  refine iJnB (decide (i < b) && !ltS (gt L1 i) (gt L1 (i - 1))) w4 (fun J hJ => ?_) (fun w6 h6 => ?_)
  · refine iLt ?_
    refine iCndP (fun h => ?_) (fun h => ?_)
    · rw [decide_eq_true (show i < b by omega), Bool.true_and] at hJ
      refine iRdO (j := i) ht4.ow rfl (by omega) ?_
      refine iSub (by omega) ?_
      refine iRdO (j := i - 1) ht4.ow (by omega) (by omega) ?_
      exact iRetQ (fun w' _ => ok_cmp_Less_string _ _ w') (iNot hJ)
    · rw [decide_eq_false (show ¬ i < b by omega), Bool.false_and] at hJ
      exact hJ
  intro _
  simp only [gx]
  have ht6 := ht4.ext h6
  cases hc : decide (i < b) && !ltS (gt L1 i) (gt L1 (i - 1))
  rotate_left
  · rw [Bool.and_eq_true, decide_eq_true_eq, Bool.not_eq_true'] at hc
    refine iCndT rfl ?_
    refine iAdd (by omega) ?_
    refine hKn4 (i + 1) _ ⟨by omega, by omega, h4.trans h6, fun p q g1 g2 g3 => ?_⟩ (by omega)
    by_cases hq : q = i
    · subst hq
      by_cases hp : p = q - 1
      · rw [hp]; exact hc.2
      · exact ordrS.tr (hsi p (q - 1) g1 (by omega) (by omega)) hc.2
    · exact hsi p q g1 g2 (by omega)
  refine iCndF rfl ?_
  refine iEq ?_
  refine iCndP (fun h => ?_) (fun h => ?_)
  · have : i = b := by omega
    subst this
    exact ⟨true, L1, rfl, ht6, hw1, fun _ => hsi⟩
  have hlt : ltS (gt L1 i) (gt L1 (i - 1)) = true := by
    rw [decide_eq_true (show i < b by omega), Bool.true_and, Bool.not_eq_false'] at hc; exact hc
  refine iSub (by omega) ?_
  refine iLt ?_
  refine iCndP (fun h7 => ?_) (fun h7 => ?_)
  · exact ⟨false, L1, rfl, ht6, hw1, fun h => by cases h⟩
  refine iSub (by omega) ?_
  refine iSub (by omega) ?_
  refine iRdO (j := i - 1) ht6.ow (by omega) (by omega) ?_
  refine iRdO (j := i) ht6.ow rfl (by omega) ?_
  refine iWr2 (i := i) (j := i - 1) (fun _ => rfl) ht6.ow rfl (by omega) (by omega) (by omega) fun w13 h13 => ?_
  have h13 : Turn lo t_string sv v w6 w13 (sw L1 i (i - 1)) := h13
  have hw2 : SwR a b L1 (sw L1 i (i - 1)) := .one (by omega) (by omega) (by omega) (by omega) (by omega)
  have hs2 : Srt ltS a (i - 1) (sw L1 i (i - 1)) := (hsi.mono (Nat.le_refl _) (by omega)).out (SwR.one (a := i - 1) (b := b) (by omega) (by omega) (by omega) (by omega) (by omega)) (.inr (Nat.le_refl _))
  have ht13 := ht6.trans h13
  have hw13 := hw1.trans hw2
  generalize sw L1 i (i - 1) = L2 at h13 hw2 hs2 ht13 hw13
  have hl2 := hw13.len
  have hbl2 : Blw ltS a b L2 := hbl.keep hw13 (Nat.le_refl _) (Nat.le_refl _)
  refine iSub (by omega) ?_
  refine iLe ?_
  refine iJnX (fun _ w' => ∃ L', Turn lo t_string sv v w w' L' ∧ SwR a b L L' ∧ Srt ltS a i L') (fun J hJ => ?_) ?_
  · refine iCndP (fun h8 => ?_) (fun h8 => ?_)
    · refine iSub (by omega) ?_
      refine iLp (fun j : Nat => [.int .i64 (j : Int)]) (fun j w' => a ≤ j ∧ j ≤ i - 1 ∧ ∃ L', Turn lo t_string sv v w w' L' ∧ SwR a b L L' ∧ Blw ltS a b L' ∧ Ins ltS a (i - 1) j L') (fun j => j) (i - 1) (by congr 2; omega) ⟨by omega, Nat.le_refl _, L2, ht13, hw13, hbl2, Ins.init hs2⟩ ?_
      rintro j w17 Kn17 ⟨haj, hji, L3, ht3, hw3, hbl3, hin⟩ hKn17
      have hl3 := hw3.len
      intro _
      simp only [gx]
      refine iLe ?_
      refine iCndP (fun h9 => ?_) (fun h9 => ?_)
      · refine iRdO (j := j) ht3.ow rfl (by omega) ?_
        refine iSub (by omega) ?_
        refine iRdO (j := j - 1) ht3.ow (by omega) (by omega) ?_
        refine iRetQ (fun w' _ => ok_cmp_Less_string _ _ w') ?_
        refine iNot ?_
        intro w18 h18
        have ht18 := ht3.ext h18
        refine iCnd (fun h10 => ?_) (fun h10 => ?_)
        · have h10 : ltS (gt L3 j) (gt L3 (j - 1)) = false := by simpa using h10
          refine hJ _ _ ⟨L3, ht18, hw3, ?_⟩
          have := hin.done ordrS (by rcases Nat.lt_or_ge a j with h' | h'; exact .inr ⟨h', h10⟩; exact .inl h') hji
          rwa [show i - 1 + 1 = i by omega] at this
        · have h10 : ltS (gt L3 j) (gt L3 (j - 1)) = true := by simpa using h10
          have haj' : a < j := by
            rcases Nat.lt_or_ge a j with h' | h'
            · exact h'
            · have e : j = a := by omega
              subst e
              have := hbl3 j (Nat.le_refl _) (by omega) (by omega)
              rw [h10] at this; cases this
          refine iSub (by omega) ?_
          refine iSub (by omega) ?_
          refine iRdO (j := j - 1) ht18.ow (by omega) (by omega) ?_
          refine iRdO (j := j) ht18.ow rfl (by omega) ?_
          refine iWr2 (i := j) (j := j - 1) (fun _ => rfl) ht18.ow rfl (by omega) (by omega) (by omega) fun w23 h23 => ?_
          refine iSub (by omega) ?_
          rw [show (j : Int) - 1 = ((j - 1 : Nat) : Int) by omega]
          have hw4 : SwR a b L3 (sw L3 j (j - 1)) := .one (by omega) (by omega) (by omega) (by omega) (by omega)
          exact hKn17 (j - 1) _ ⟨by omega, by omega, sw L3 j (j - 1), ht18.trans h23, hw3.trans hw4, hbl3.keep hw4 (Nat.le_refl _) (Nat.le_refl _), hin.swap ordrS haj' hji (by omega) h10⟩ (by omega)
      · refine hJ _ _ ⟨L3, ht3, hw3, ?_⟩
        have := hin.done ordrS (.inl (by omega)) hji
        rwa [show i - 1 + 1 = i by omega] at this
    · exact hJ _ _ ⟨L2, ht13, hw13, Srt.short (by omega)⟩
  rintro xs w15 ⟨L3, ht3, hw3, hs3⟩
  have hl3 := hw3.len
  intro _
  refine iSub (by omega) ?_
  refine iLe ?_
  refine iCndP (fun h8 => ?_) (fun h8 => ?_)
  · refine iAdd (by omega) ?_
    refine iLp (fun j : Nat => [.int .i64 (j : Int)]) (fun j w' => i + 1 ≤ j ∧ j ≤ b ∧ ∃ L', Turn lo t_string sv v w w' L' ∧ SwR a b L L' ∧ Srt ltS a i L') (fun j => b - j) (i + 1) rfl ⟨Nat.le_refl _, by omega, L3, ht3, hw3, hs3⟩ ?_
    rintro j w25 Kn25 ⟨hij, hjb, L4, ht4, hw4, hs4⟩ hKn25
    have hl4 := hw4.len
    intro _
    simp only [gx]
    refine iLt ?_
    refine iCndP (fun h9 => ?_) (fun h9 => ?_)
    · refine iRdO (j := j) ht4.ow rfl (by omega) ?_
      refine iSub (by omega) ?_
      refine iRdO (j := j - 1) ht4.ow (by omega) (by omega) ?_
      refine iRetQ (fun w' _ => ok_cmp_Less_string _ _ w') ?_
      refine iNot ?_
      intro w26 h26
      have ht26 := ht4.ext h26
      refine iCnd (fun h10 => ?_) (fun h10 => ?_)
      · refine iAdd (by omega) ?_
        exact hKn (i, r + 1) _ ⟨by show a + 1 ≤ i; omega, hib, by show r + 1 ≤ 5; omega, L4, ht26, hw4, hs4⟩ (by show 5 - (r + 1) < 5 - r; omega)
      · refine iSub (by omega) ?_
        refine iSub (by omega) ?_
        refine iRdO (j := j - 1) ht26.ow (by omega) (by omega) ?_
        refine iRdO (j := j) ht26.ow rfl (by omega) ?_
        refine iWr2 (i := j) (j := j - 1) (fun _ => rfl) ht26.ow rfl (by omega) (by omega) (by omega) fun w31 h31 => ?_
        refine iAdd (by omega) ?_
        exact hKn25 (j + 1) _ ⟨by omega, by omega, sw L4 j (j - 1), ht26.trans h31, .step hw4 (by omega) (by omega) (by omega) (by omega) hb, hs4.out (SwR.one (a := i) (b := b) (by omega) (by omega) (by omega) (by omega) (by omega)) (.inr (Nat.le_refl _))⟩ (by omega)
    · refine iAdd (by omega) ?_
      exact hKn (i, r + 1) _ ⟨by show a + 1 ≤ i; omega, hib, by show r + 1 ≤ 5; omega, L4, ht4, hw4, hs4⟩ (by show 5 - (r + 1) < 5 - r; omega)
  · refine iAdd (by omega) ?_
    exact hKn (i, r + 1) _ ⟨by show a + 1 ≤ i; omega, hib, by show r + 1 ≤ 5; omega, L3, ht3, hw3, hs3⟩ (by show 5 - (r + 1) < 5 - r; omega)
theorem ok_slices_pdqsortOrdered_string {lo : Nat} {v : Value} : ∀ (n : Nat) {w : World} {L : List Str} {a b : Nat} {lim : Int}, b - a ≤ n → Ow lo t_string w v (strs L) → a ≤ b → b ≤ L.length → L.length ≤ 1152921504606846976 → Blw ltS a b L → 0 ≤ lim ∧ lim ≤ 64 →
    Cal Tryz.prog f_slices_pdqsortOrdered_string #[v, .int .i64 (a : Int), .int .i64 (b : Int), .int .i64 lim] w fun _ w' => ∃ L', Turn lo t_string sv v w w' L' ∧ SwR a b L L' ∧ Srt ltS a b L' := by
  intro n
  induction n using Nat.strongRecOn with
  | ind n ih =>
  intro w L a0 b0 lim0 hn hs hab hb hL hbl hlim
  apply c_slices_pdqsortOrdered_string; unfold S_slices_pdqsortOrdered_string
  refine iLp (fun s : Nat × Nat × Int × Bool × Bool => [.int .i64 (s.1 : Int), .int .i64 (s.2.1 : Int), .int .i64 s.2.2.1, .bool s.2.2.2.1, .bool s.2.2.2.2]) (fun s w' => a0 ≤ s.1 ∧ s.1 ≤ s.2.1 ∧ s.2.1 ≤ b0 ∧ (0 ≤ s.2.2.1 ∧ s.2.2.1 ≤ 64) ∧ ∃ L', Turn lo t_string sv v w w' L' ∧ SwR a0 b0 L L' ∧ Blw ltS s.1 s.2.1 L' ∧ Crs ltS a0 b0 s.1 s.2.1 L') (fun s => s.2.1 - s.1) (a0, b0, lim0, true, true) rfl
    ⟨Nat.le_refl _, hab, Nat.le_refl _, hlim, L, Turn.refl hs, .refl, hbl, Crs.all⟩ ?_
  rintro ⟨a, b, lim, bal, par⟩ w2 Kn ⟨ha, hab, hbb, hlim, L1, ht1, hw1, hbl1, hcr1⟩ hKn
  have ha : a0 ≤ a := ha
  have hab : a ≤ b := hab
  have hbb : b ≤ b0 := hbb
  have hlim : 0 ≤ lim ∧ lim ≤ 64 := hlim
  have hbl1 : Blw ltS a b L1 := hbl1
  have hcr1 : Crs ltS a0 b0 a b L1 := hcr1
  have hl1 := hw1.len
  intro _
  simp only [gx]
  -- a sorted window closes the work
  have fin : ∀ {L' L'' : List Str} {w' : World} {a b : Nat}, Turn lo t_string sv v w w' L'' → SwR a0 b0 L L' → SwR a b L' L'' → a0 ≤ a → b ≤ b0 → Crs ltS a0 b0 a b L' → Srt ltS a b L'' → ∃ L', Turn lo t_string sv v w w' L' ∧ SwR a0 b0 L L' ∧ Srt ltS a0 b0 L' :=
    fun {L' L'' w' a b} h1 h2 h3 h4 h5 h6 h7 => ⟨L'', h1, h2.trans (h3.mono h4 h5 (by rw [h2.len]; exact hb)), h6.done h3 h4 h5 h7⟩
  refine iSub (by omega) ?_
  refine iLe ?_
  refine iCndP (fun h => ?_) (fun h => ?_)
  · refine iCall ?_
    refine (ok_slices_insertionSortOrdered_string ht1.ow hab (by omega) (by omega)).mono fun _ w3 h3 => ?_
    obtain ⟨L2, ht2, hw2, hs2⟩ := h3
    exact fin (ht1.trans ht2) hw1 hw2 ha hbb hcr1 hs2
  refine iEq ?_
  refine iCndP (fun h0 => ?_) (fun h0 => ?_)
  · refine iCall ?_
    refine (ok_slices_heapSortOrdered_string ht1.ow (by omega) (by omega) (by omega)).mono fun _ w3 h3 => ?_
    obtain ⟨L2, ht2, hw2, hs2⟩ := h3
    exact fin (ht1.trans ht2) hw1 hw2 ha hbb hcr1 hs2
  refine iNot ?_
  refine iJnX (fun xs w' => ∃ l2 : Int, ∃ L', xs = [.int .i64 l2] ∧ (0 ≤ l2 ∧ l2 ≤ 64) ∧ Turn lo t_string sv v w w' L' ∧ SwR a b L1 L') (fun J hJ => ?_) ?_
  · refine iCnd (fun _ => ?_) (fun _ => ?_)
    · refine iCall ?_
      refine (ok_slices_breakPatternsOrdered_string ht1.ow hab (by omega) (by omega)).mono fun _ w3 h3 => ?_
      obtain ⟨L2, ht2, hw2⟩ := h3
      refine iSub (by omega) ?_
      exact hJ _ _ ⟨lim - 1, L2, rfl, by omega, ht1.trans ht2, hw2⟩
    · exact hJ _ _ ⟨lim, L1, rfl, hlim, ht1, .refl⟩
  rintro xs w6 ⟨lim, L2, rfl, hlim, ht2, hw2⟩
  have hl2 := hw2.len
  intro _
  simp only [gx]
  refine iCall ?_
  refine (ok_slices_choosePivotOrdered_string ht2.ow (by omega) (by omega) (by omega)).mono fun r w8 h8 => ?_
  obtain ⟨h8, t, x, rfl, hat, htb⟩ := h8
  have ht8 := ht2.ext h8
  refine iE20 ?_
  refine iE21 ?_
  refine iEq ?_
  refine iJnX (fun xs w' => ∃ t : Nat, ∃ x : Int, ∃ L', xs = [.int .i64 (t : Int), .int .i64 x] ∧ a ≤ t ∧ t < b ∧ Turn lo t_string sv v w w' L' ∧ SwR a b L1 L') (fun J hJ => ?_) ?_
  · refine iCndP (fun _ => ?_) (fun _ => ?_)
    · refine iCall ?_
      refine (ok_slices_reverseRangeOrdered_string ht8.ow hab (by omega) (by omega)).mono fun _ w3 h3 => ?_
      obtain ⟨L3, ht3, hw3⟩ := h3
      refine iSub (by omega) ?_
      refine iSub (by omega) ?_
      refine iSub (by omega) ?_
      exact hJ _ _ ⟨b - 1 - (t - a), 1, L3, by congr 2; omega, by omega, by omega, ht8.trans ht3, hw2.trans hw3⟩
    · exact hJ _ _ ⟨t, x, L2, rfl, hat, htb, ht8, hw2⟩
  clear hat htb
  rintro xs w10 ⟨t, x, L3, rfl, hat, htb, ht3, hw3⟩
  intro _
  simp only [gx]
  refine iJnX (fun xs w' => ∃ y : Bool, xs = [.bool y] ∧ Ext w10 w') (fun J hJ => ?_) ?_
  · refine iCnd (fun _ => ?_) (fun _ => ?_)
    · refine iCnd (fun _ => ?_) (fun _ => ?_)
      · refine iEq ?_
        exact hJ _ _ ⟨_, rfl, Ext.refl _⟩
      · exact hJ _ _ ⟨false, rfl, Ext.refl _⟩
    · exact hJ _ _ ⟨false, rfl, Ext.refl _⟩
  rintro xs w13 ⟨y, rfl, h13⟩
  intro _
  simp only [gx]
  have ht13 := ht3.ext h13
  have hl3 := hw3.len
  refine iJnX (fun _ w' => ∃ L', Turn lo t_string sv v w w' L' ∧ SwR a b L1 L') (fun J hJ => ?_) ?_
  · refine iCnd (fun _ => ?_) (fun _ => ?_)
    · refine iCall ?_
      refine (ok_slices_partialInsertionSortOrdered_string ht13.ow (by omega) (by omega) (by omega) (hbl1.keep hw3 (Nat.le_refl _) (Nat.le_refl _))).mono fun r w3 h3 => ?_
      obtain ⟨y', L4, rfl, ht4, hw4, hs4⟩ := h3
      refine iCnd (fun hy => ?_) (fun hy => ?_)
      · exact fin (ht13.trans ht4) hw1 (hw3.trans hw4) ha hbb hcr1 (hs4 hy)
      · exact hJ _ _ ⟨L4, ht13.trans ht4, hw3.trans hw4⟩
    · exact hJ _ _ ⟨L3, ht13, hw3⟩
  clear ht3 hw3 ht13 ht8 ht2 hw2 hl2 hl3
  rintro xs w15 ⟨L3, ht3, hw3⟩
  have hl3 := hw3.len
  have hw3' : SwR a0 b0 L L3 := hw1.trans (hw3.mono ha hbb (by omega))
  have hbl3 : Blw ltS a b L3 := hbl1.keep hw3 (Nat.le_refl _) (Nat.le_refl _)
  have hcr3 : Crs ltS a0 b0 a b L3 := hcr1.keep hw3 ha hbb
  intro _
  refine iJnB (decide (0 < a) && !ltS (gt L3 (a - 1)) (gt L3 t)) w15 (fun J hJ => ?_) (fun w18 h18 => ?_)
  · refine iLt ?_
    refine iCndP (fun h5 => ?_) (fun h5 => ?_)
    · rw [decide_eq_true (show 0 < a by omega), Bool.true_and] at hJ
      refine iSub (by omega) ?_
      refine iRdO (j := a - 1) ht3.ow (by omega) (by omega) ?_
      refine iRdO (j := t) ht3.ow rfl (by omega) ?_
      exact iRetQ (fun w' _ => ok_cmp_Less_string _ _ w') (iNot hJ)
    · rw [decide_eq_false (show ¬ 0 < a by omega), Bool.false_and] at hJ
      exact hJ
  intro _
  simp only [gx]
  have ht18 := ht3.ext h18
  cases hc : decide (0 < a) && !ltS (gt L3 (a - 1)) (gt L3 t)
  rotate_left
  · rw [Bool.and_eq_true, decide_eq_true_eq, Bool.not_eq_true'] at hc
    refine iCndT rfl ?_
    refine iCall ?_
    refine (ok_slices_partitionEqualOrdered_string ht18.ow hat htb (by omega) (by omega)).mono fun r w21 h21 => ?_
    obtain ⟨L4, m, rfl, ht4, hw4, ham, hmb, hle⟩ := h21
    have hge : ∀ k, a ≤ k → k < b → ltS (gt L4 k) (gt L3 t) = false := hw4.all (p := fun z => ltS z (gt L3 t) = false) fun k hk hk' => ordrS.tr hc.2 (hbl3 k hk hk' (by omega))
    refine hKn (m, b, lim, bal, par) _ ⟨by show a0 ≤ m; omega, hmb, hbb, hlim, L4, ht18.trans ht4, hw3'.trans (hw4.mono ha hbb (by rw [hw3'.len]; omega)), equal_blw ordrS hge hle ham, equal_up ordrS (hcr3.keep hw4 ha hbb) hge hle hmb⟩ (by show b - m < b - a; omega)
  refine iCndF rfl ?_
  refine iCall ?_
  refine (ok_slices_partitionOrdered_string ht18.ow hat htb (by omega) (by omega)).mono fun r w22 h22 => ?_
  obtain ⟨L4, m, y', rfl, ht4, hw4, ham, hmb, hpt⟩ := h22
  have hl4 := hw4.len
  have ht22 := ht18.trans ht4
  have hw4' : SwR a0 b0 L L4 := hw3'.trans (hw4.mono ha hbb (by rw [hw3'.len]; omega))
  have hbl4 : Blw ltS a b L4 := hbl3.keep hw4 (Nat.le_refl _) (Nat.le_refl _)
  have hcr4 : Crs ltS a0 b0 a b L4 := hcr3.keep hw4 ha hbb
  refine iE20 ?_
  refine iE21 ?_
  refine iSub (by omega) ?_
  refine iSub (by omega) ?_
  refine iQuo (by omega) ?_
  refine iLt ?_
  refine iCndP (fun h5 => ?_) (fun h5 => ?_)
  · refine iLe ?_
    refine iCall ?_
    refine (ih (m - a) (by omega) (Nat.le_refl _) ht22.ow ham (by omega) (by omega) (hbl4.low (by omega)) hlim).mono fun _ w23 h23 => ?_
    obtain ⟨L5, ht5, hw5, hs5⟩ := h23
    have hw5' : SwR a b L4 L5 := hw5.mono (Nat.le_refl _) (by omega) (by omega)
    have hpt5 := hpt.lowS hw5
    refine iAdd (by omega) ?_
    exact hKn (m + 1, b, lim, _, y') _ ⟨by show a0 ≤ m + 1; omega, by show m + 1 ≤ b; omega, hbb, hlim, L5, ht22.trans ht5, hw4'.trans (hw5'.mono ha hbb (by rw [hw4'.len]; omega)), hpt5.blw, hpt5.up ordrS (hcr4.keep hw5' ha hbb) hs5⟩ (by show b - (m + 1) < b - a; omega)
  · refine iLe ?_
    refine iAdd (by omega) ?_
    refine iCall ?_
    refine (ih (b - (m + 1)) (by omega) (a := m + 1) (Nat.le_refl _) ht22.ow (by omega) (by omega) (by omega) hpt.blw hlim).mono fun _ w23 h23 => ?_
    obtain ⟨L5, ht5, hw5, hs5⟩ := h23
    have hw5' : SwR a b L4 L5 := hw5.mono (by omega) (Nat.le_refl _) (by omega)
    have hpt5 := hpt.highS hw5
    exact hKn (a, m, lim, _, y') _ ⟨ha, ham, by show m ≤ b0; omega, hlim, L5, ht22.trans ht5, hw4'.trans (hw5'.mono ha hbb (by rw [hw4'.len]; omega)), (hbl4.keep hw5' (Nat.le_refl _) (Nat.le_refl _)).low (Nat.le_of_lt hmb), hpt5.down ordrS (hcr4.keep hw5' ha hbb) hs5⟩ (by show m - a < b - a; omega)
theorem ok_slices_Sort_Sstring_string {lo : Nat} {w : World} {v : Value} {L : List Str} (hs : Ow lo t_string w v (strs L)) (hL : L.length ≤ 1152921504606846976) :
    Cal Tryz.prog f_slices_Sort_Sstring_string #[v] w fun _ w' => ∃ L' : List Str, Ow lo t_string w' v (strs L') ∧ Ch (fun c => v.ownBlock = some c) w w' ∧ List.Perm L' L ∧ L'.Pairwise fun x y => ltS y x = false := by
  apply c_slices_Sort_Sstring_string; unfold S_slices_Sort_Sstring_string
  refine iLenStr hs.sl ?_
  refine iConvU (by omega) ?_
  refine iCall ?_
  refine (ok_math_bits_Len (by omega) w).mono fun r w1 h1 => ?_
  obtain ⟨h1, k, rfl, -, -, hk⟩ := h1
  refine iCall ?_
  refine (ok_slices_pdqsortOrdered_string (a := 0) (b := L.length) (lim := (k : Int)) L.length (by omega) (hs.ext h1) (Nat.zero_le _) (Nat.le_refl _) hL (fun k _ _ h => by omega) (by omega)).mono fun _ w2 h2 => ?_
  obtain ⟨L', ht, hw, hst⟩ := h2
  rw [← hw.len] at hst
  exact ⟨L', ht.ow, (h1.ch (S := fun c => v.ownBlock = some c)).trans ht.ch fun _ e => .inl e, hw.perm, hst.pairwise⟩
end Go.Proofs.YtapdkkijoflcpaaGreatDoor

/- Plain facts on sets of texts in order: insertion, equal neighbours dropped, one list for each set. No program in sight. Conditions: none. -/
namespace Go.Vc
abbrev Inc (L : List Str) : Prop := L.Pairwise fun x y => ltS x y = true
theorem inc_cons {x : Str} {l : List Str} : Inc (x :: l) ↔ (∀ y ∈ l, ltS x y = true) ∧ Inc l := List.pairwise_cons
/-- Two lists in order with the same members are the same. -/
theorem inc_ext : ∀ {A B : List Str}, Inc A → Inc B → (∀ x, x ∈ A ↔ x ∈ B) → A = B
  | [], [], _, _, _ => rfl
  | [], y :: B, _, _, h => by have := (h y).2 List.mem_cons_self; cases this
  | x :: A, [], _, _, h => by have := (h x).1 List.mem_cons_self; cases this
  | x :: A, y :: B, hA, hB, h => by
    rw [inc_cons] at hA hB
    have e : x = y := by
      rcases List.mem_cons.1 ((h x).1 List.mem_cons_self) with e | e
      · exact e
      · rcases List.mem_cons.1 ((h y).2 List.mem_cons_self) with e' | e'
        · exact e'.symm
        · have h1 := hB.1 x e
          have h2 := hA.1 y e'
          rw [ltS_asymm h1] at h2; cases h2
    subst e
    rw [inc_ext hA.2 hB.2 fun z => ?_]
    have hz := h z
    simp only [List.mem_cons] at hz
    constructor
    · intro hm
      rcases hz.1 (.inr hm) with e | e
      · subst e; have := hA.1 z hm; rw [ltS_irrefl] at this; cases this
      · exact e
    · intro hm
      rcases hz.2 (.inr hm) with e | e
      · subst e; have := hB.1 z hm; rw [ltS_irrefl] at this; cases this
      · exact e
/-- A text laid into a list in order. -/
def insT (t : Str) : List Str → List Str
  | [] => [t]
  | x :: l => if ltS x t then x :: insT t l else if x = t then x :: l else t :: x :: l
theorem mem_insT {t x : Str} : ∀ {l : List Str}, x ∈ insT t l ↔ x = t ∨ x ∈ l
  | [] => by simp [insT]
  | y :: l => by
    unfold insT
    split
    · rw [List.mem_cons, mem_insT, List.mem_cons]
      constructor
      · rintro (h | h | h)
        · exact .inr (.inl h)
        · exact .inl h
        · exact .inr (.inr h)
      · rintro (h | h | h)
        · exact .inr (.inl h)
        · exact .inl h
        · exact .inr (.inr h)
    · split
      · rename_i h; subst h; simp
      · simp
theorem inc_insT {t : Str} : ∀ {l : List Str}, Inc l → Inc (insT t l)
  | [], _ => by simp [insT]
  | y :: l, h => by
    unfold insT
    rw [inc_cons] at h
    split
    · rename_i hy
      refine List.pairwise_cons.2 ⟨fun z hz => ?_, inc_insT h.2⟩
      rcases mem_insT.1 hz with e | e
      · subst e; exact hy
      · exact h.1 z e
    · rename_i hy
      split
      · exact List.pairwise_cons.2 h
      · rename_i hne
        have hty : ltS t y = true := by
          rcases ltS_total t y with e | e | e
          · exact e
          · exact absurd e.symm hne
          · exact absurd e hy
        refine List.pairwise_cons.2 ⟨fun z hz => ?_, List.pairwise_cons.2 h⟩
        rcases List.mem_cons.1 hz with e | e
        · subst e; exact hty
        · exact ltS_trans hty (h.1 z e)
/-- The set of a list's texts, in order. -/
def setT (l : List Str) : List Str := l.foldl (fun a x => insT x a) []
theorem inc_setT (l : List Str) : Inc (setT l) := by
  unfold setT
  suffices h : ∀ (l a : List Str), Inc a → Inc (l.foldl (fun a x => insT x a) a) from h l [] List.Pairwise.nil
  intro l
  induction l with
  | nil => intro a h; exact h
  | cons x l ih => intro a h; exact ih _ (inc_insT h)
theorem mem_setT {x : Str} {l : List Str} : x ∈ setT l ↔ x ∈ l := by
  unfold setT
  suffices h : ∀ (l a : List Str), x ∈ l.foldl (fun a x => insT x a) a ↔ x ∈ l ∨ x ∈ a by simpa using h l []
  intro l
  induction l with
  | nil => intro a; simp
  | cons y l ih =>
    intro a
    rw [List.foldl_cons, ih, mem_insT, List.mem_cons]
    constructor
    · rintro (h | h | h)
      · exact .inl (.inr h)
      · exact .inl (.inl h)
      · exact .inr h
    · rintro ((h | h) | h)
      · exact .inr (.inl h)
      · exact .inl h
      · exact .inr (.inr h)
/-- Equal neighbours dropped. -/
def ddT : List Str → List Str
  | [] => []
  | [x] => [x]
  | x :: y :: l => if y = x then ddT (y :: l) else x :: ddT (y :: l)
theorem mem_ddT {z : Str} : ∀ {l : List Str}, z ∈ ddT l ↔ z ∈ l
  | [] => Iff.rfl
  | [_] => Iff.rfl
  | x :: y :: l => by
    rw [ddT]
    split
    · rename_i h; subst h; rw [mem_ddT]; simp
    · rw [List.mem_cons, mem_ddT, List.mem_cons (l := y :: l)]
theorem inc_ddT : ∀ {l : List Str}, l.Pairwise (fun x y => ltS y x = false) → Inc (ddT l)
  | [], _ => List.Pairwise.nil
  | [_], _ => by simp [ddT]
  | x :: y :: l, h => by
    rw [List.pairwise_cons] at h
    rw [ddT]
    split
    · exact inc_ddT h.2
    · rename_i hne
      refine List.pairwise_cons.2 ⟨fun z hz => ?_, inc_ddT h.2⟩
      have hxy : ltS x y = true := by
        rcases ltS_total x y with e | e | e
        · exact e
        · exact absurd e.symm hne
        · have := h.1 y List.mem_cons_self; rw [e] at this; cases this
      rcases List.mem_cons.1 (mem_ddT.1 hz) with e | e
      · subst e; exact hxy
      · exact ordrS.lt_le hxy ((List.pairwise_cons.1 h.2).1 z e)
theorem ddT_of_perm {l m : List Str} (h : l.Pairwise fun x y => ltS y x = false) (hp : List.Perm l m) : ddT l = setT m :=
  inc_ext (inc_ddT h) (inc_setT m) fun x => by rw [mem_ddT, mem_setT]; exact hp.mem_iff
theorem ddT_snoc : ∀ (l : List Str) (x y : Str), ddT (l ++ [x] ++ [y]) = if y = x then ddT (l ++ [x]) else ddT (l ++ [x]) ++ [y]
  | [], x, y => by simp only [List.nil_append, List.singleton_append, ddT]; split <;> simp_all
  | [a], x, y => by
    simp only [List.cons_append, ddT, List.nil_append]
    by_cases h2 : y = x
    · subst h2
      by_cases h1 : y = a
      · subst h1; simp
      · simp [h1]
    · by_cases h1 : x = a
      · subst h1; simp [h2]
      · simp [h1, h2]
  | a :: b :: l, x, y => by
    have := ddT_snoc (b :: l) x y
    simp only [List.cons_append] at this ⊢
    rw [ddT, ddT, this]
    by_cases h1 : b = a <;> by_cases h2 : y = x <;> simp [h1, h2]
theorem ddT_take {l : List Str} {i : Nat} (h0 : 1 ≤ i) (hi : i < l.length) : ddT (l.take (i + 1)) = if gt l i = gt l (i - 1) then ddT (l.take i) else ddT (l.take i) ++ [gt l i] := by
  obtain ⟨k, rfl⟩ : ∃ k, i = k + 1 := ⟨i - 1, by omega⟩
  have e1 : l.take (k + 1) = l.take k ++ [gt l k] := by rw [List.take_succ_eq_append_getElem (by omega), gt_eq (by omega)]
  have e2 : l.take (k + 1 + 1) = l.take k ++ [gt l k] ++ [gt l (k + 1)] := by rw [List.take_succ_eq_append_getElem hi, e1, gt_eq hi]
  rw [e2, ddT_snoc, e1]
  rfl
theorem ddT_idk {l : List Str} : ∀ k, k ≤ l.length → (∀ i, 1 ≤ i → i < k → ¬ gt l i = gt l (i - 1)) → ddT (l.take k) = l.take k := by
  intro k
  induction k with
  | zero => intro _ _; rfl
  | succ k ih =>
    intro hk h
    rcases Nat.eq_zero_or_pos k with h0 | h0
    · subst h0
      cases l with
      | nil => rfl
      | cons x l => rfl
    · rw [ddT_take h0 (by omega), if_neg (h k h0 (by omega)), ih (by omega) fun i h1 h2 => h i h1 (by omega), List.take_succ_eq_append_getElem (by omega), gt_eq (by omega)]
theorem ddT_id {l : List Str} (h : ∀ i, 1 ≤ i → i < l.length → ¬ gt l i = gt l (i - 1)) : ddT l = l := by
  have := ddT_idk (l := l) l.length (Nat.le_refl _) h
  rwa [List.take_length] at this
/-! ### Marks -/
end Go.Vc

/- Contracts: sets of texts in order (slices.Compact, put; l02Insert, l27Set). Conditions: none. -/
namespace Go.Vc
section
variable {P : Program} {w : World} {lo : Nat} {e : TypeId}
theorem Ow.open {v : Value} {xs : List Value} (hs : Ow lo e w v xs) (hne : xs ≠ []) : ∃ g cap, v = .slice (some ⟨g, 0, none⟩) xs.length cap ∧ xs.length ≤ cap ∧ cap ≤ 9223372036854775807 := by
  obtain ⟨_, ⟨_, h0⟩ | ⟨g, cap, cur, hv, _, _, h1, h2, _⟩⟩ := hs
  · exact absurd (List.length_eq_zero_iff.1 h0) hne
  · exact ⟨g, cap, hv, h1, h2⟩
theorem Ow.at {g n cap : Nat} {xs : List Value} (hs : Ow lo e w (.slice (some ⟨g, 0, none⟩) n cap) xs) (hn : xs.length = n) {j : Nat} (hj : j < n) : w.cell? ⟨g, j, none⟩ = xs[j]? := by
  have h : w.ownsRow lo e 1 (.slice (some ⟨g, 0, none⟩) n cap) n xs := by unfold Ow at hs; rw [hn] at hs; exact hs
  exact h.cellAt j (by omega)
theorem iSlTail {g n cap k : Nat} {ki : IntKind} {K : Value → Prop} (hk : k < n) (hc : n ≤ cap) (h : K (.slice (some ⟨g, k, none⟩) (n - k) (cap - k))) : xSl 1 (.slice (some ⟨g, 0, none⟩) n cap) (some (.int ki (k : Int))) none K := by
  refine ⟨_, _, _, k, n, rfl, rfl, ⟨ki, rfl⟩, by omega, hc, ?_⟩
  rw [if_neg (by omega), Option.map_some, addr_add, Nat.zero_add, Nat.mul_one]
  exact h
theorem iSlHead {g n cap k : Nat} {ki : IntKind} {K : Value → Prop} (hk : k ≤ n) (hc : n ≤ cap) (h : K (.slice (some ⟨g, 0, none⟩) k cap)) : xSl 1 (.slice (some ⟨g, 0, none⟩) n cap) none (some (.int ki (k : Int))) K := by
  refine ⟨_, _, _, 0, k, rfl, ⟨ki, rfl⟩, rfl, Nat.zero_le _, by omega, ?_⟩
  have e : (if cap = 0 then some (⟨g, 0, none⟩ : Addr) else (some (⟨g, 0, none⟩ : Addr)).map (·.add (0 * 1))) = some ⟨g, 0, none⟩ := by
    split
    · rfl
    · simp [Addr.add]
  rw [e, Nat.sub_zero, Nat.sub_zero]
  exact h
theorem iClr {t ty : TypeId} {z : Value} {bytes g n cap k : Nat} {xs : List Value} {K : Value → World → Prop} (ht : P.underlying t = some (.slice e)) (hi : (P.info? e).map (fun i => (i.zero, i.size, i.bytes)) = some (some z, 1, bytes)) (hz : isCell z = true)
    (hs : Ow lo e w (.slice (some ⟨g, 0, none⟩) n cap) xs) (hn : xs.length = n) (hk : k < n) (h : ∀ w', Ow lo e w' (.slice (some ⟨g, 0, none⟩) k cap) (xs.take k) → Ch (fun c => c = g) w w' → K (.tuple #[]) w') :
    xOp P (Builtin.clear_ #[t] ty #[.slice (some ⟨g, k, none⟩) (n - k) (cap - k)]) w K := by
  obtain ⟨i, hi, h3⟩ := Option.map_eq_some_iff.1 hi
  simp only [Prod.mk.injEq] at h3
  obtain ⟨hz0, -, -⟩ := h3
  obtain ⟨-, ⟨hv, -⟩ | ⟨g', cap', cur, hv, hg, hh, h1, h2, h3, h4⟩⟩ := hs
  · cases hv
  · injection hv with e1 e2 e3
    injection e1 with e1
    injection e1 with e1
    subst e1
    subst e3
    rw [hn] at h1 h4
    rw [Nat.mul_one] at h3 h4
    have hzc : (Builtin.zeroCells z.cells (n - k)).toList = List.replicate (n - k) z := by
      rw [isCell_cells hz]
      simp [Builtin.zeroCells]
      apply List.ext_getElem
      · simp
      · intro i h1 h2
        simp [Nat.mod_one]
    have hrun := run_storeCells_at P g k e (List.replicate (n - k) z) 0 cur w hh (by rw [List.length_replicate]; omega) (fun v hv => isCell_one (by rw [List.eq_of_mem_replicate hv]; exact hz))
    refine ⟨_, _, ?_, h (w.setRow g (cur.toList.take (k + 0) ++ List.replicate (n - k) z ++ cur.toList.drop (k + 0 + (List.replicate (n - k) z).length)).toArray) ?_ ?_⟩
    · obtain ⟨m, hm⟩ : ∃ m, n - k = m + 1 := ⟨n - k - 1, by omega⟩
      rw [hm] at hrun hzc ⊢
      simp [Builtin.clear_, run_underlying ht, zeroValue, run_info hi, hz0, hzc, hrun]
    · refine ⟨by simp, .inr ⟨g, cap, _, ?_, hg, setRow_heap w g cur _ e (0, 0) hh, by rw [List.length_take]; omega, h2, ?_, ?_⟩⟩
      · rw [List.length_take, hn, Nat.min_eq_left (by omega)]
      · simp; omega
      · rw [List.length_take, hn, Nat.min_eq_left (by omega), Nat.mul_one, Nat.add_zero, List.take_append_of_le_length (by simp; omega), List.take_append_of_le_length (by simp; omega), List.take_take, Nat.min_self, ← h4, List.take_take, Nat.min_eq_left (by omega)]
    · exact ⟨rfl, rfl, rfl, by rw [setRow_size]; exact Nat.le_refl _, fun c _ hc => setRow_other w g c _ hc⟩
end
theorem Sl.toK {w : World} {v : Value} {xs : List Value} (h : Sl w v xs) : SlK 1 w v xs.length xs := by
  obtain ⟨a, c, hv, h2, h3, h4⟩ := h
  refine ⟨(Nat.mul_one _).symm, a, c, hv, h2, h3, ?_⟩
  rcases h4 with rfl | ⟨b, o, ha, hc⟩
  · exact .inl rfl
  · exact .inr ⟨b, o, ha, fun i hi => hc i (by omega)⟩
theorem SlK.cast {k : Nat} {w : World} {v : Value} {n m : Nat} {xs : List Value} (h : SlK k w v n xs) (e : n = m) : SlK k w v m xs := e ▸ h
theorem strs_take (L : List Str) (k : Nat) : (strs L).take k = strs (L.take k) := by simp [strs, List.map_take]
theorem strs_get (L : List Str) {j : Nat} (hj : j < L.length) : (strs L)[j]? = some (sv (gt L j)) := by rw [gt_eq hj]; simp [strs, hj]
theorem gt_take {L : List Str} {k i : Nat} (h : i < k) : gt (L.take k) i = gt L i := by unfold gt; simp [List.getD_eq_getElem?_getD, h]
end Go.Vc
namespace Go.Proofs.YtapdkkijoflcpaaGreatDoor
open Go.Vc
theorem ok_slices_Compact_Sstring_string {lo : Nat} {w : World} {v : Value} {L : List Str} (hs : Ow lo t_string w v (strs L)) (hL : L.length ≤ 1152921504606846976) :
    Cal Tryz.prog f_slices_Compact_Sstring_string #[v] w fun r w' => Ow lo t_string w' r (strs (ddT L)) ∧ Ch (fun c => v.ownBlock = some c) w w' ∧ r.ownBlock = v.ownBlock := by
  apply c_slices_Compact_Sstring_string; unfold S_slices_Compact_Sstring_string
  refine iLenStr hs.sl ?_
  refine iLt ?_
  refine iCndP (fun h => ?_) (fun h => ?_)
  · rw [ddT_id (fun i h1 h2 => by omega)]
    exact ⟨hs, (Ext.refl w).ch, by first | trivial | rfl⟩
  obtain ⟨g, cap, hv, hcap, hcm⟩ := hs.open (by intro e; have := strs_len L; rw [e] at this; simp at this; omega)
  rw [strs_len] at hv hcap
  refine iLp (fun k : Nat => [.int .i64 (k : Int)]) (fun k w' => 1 ≤ k ∧ k ≤ L.length ∧ Ext w w' ∧ ∀ i, 1 ≤ i → i < k → ¬ gt L i = gt L (i - 1)) (fun k => L.length - k) 1 rfl ⟨Nat.le_refl _, by omega, Ext.refl _, fun i h1 h2 => by omega⟩ ?_
  rintro k w2 Kn ⟨hk1, hkn, h2, hne⟩ hKn
  have hs2 := hs.ext h2
  intro _
  simp only [gx]
  refine iLenStr hs2.sl ?_
  refine iLt ?_
  refine iCndP (fun h3 => ?_) (fun h3 => ?_)
  rotate_left
  · rw [ddT_id (fun i h1 h2 => hne i h1 (by omega))]
    exact ⟨hs2, h2.ch, by first | trivial | rfl⟩
  refine iRdO (j := k) hs2 rfl (by omega) ?_
  refine iSub (by omega) ?_
  refine iRdO (j := k - 1) hs2 (by omega) (by omega) ?_
  refine iEqT ?_
  intro w3 h23
  have hs3 := hs2.ext h23
  refine iCndP (fun h4 => ?_) (fun h4 => ?_)
  rotate_left
  · refine iAdd (by omega) ?_
    refine hKn (k + 1) _ ⟨by omega, by omega, h2.trans h23, fun i h1 h5 => ?_⟩ (by omega)
    by_cases hi : i = k
    · subst hi; exact h4
    · exact hne i h1 (by omega)
  subst hv
  refine iSlTail (k := k) (by omega) hcap ?_
  refine iLp (fun s : Nat × Nat => [.int .i64 (s.1 : Int), .int .i64 (s.2 : Int)]) (fun s w' => k ≤ s.1 ∧ s.1 + 1 ≤ k + s.2 ∧ k + s.2 ≤ L.length ∧ ∃ M, Turn lo t_string sv (.slice (some ⟨g, 0, none⟩) L.length cap) w w' M ∧ M.length = L.length ∧ M.take s.1 = ddT (L.take (k + s.2)) ∧ ∀ j, k + s.2 ≤ j + 1 → gt M j = gt L j) (fun s => L.length - s.2) (k, 1) rfl
    ⟨Nat.le_refl _, Nat.le_refl _, by show k + 1 ≤ L.length; omega, L, ⟨hs3, (h2.trans h23).ch⟩, rfl, by show L.take k = ddT (L.take (k + 1)); rw [ddT_take hk1 (by omega), if_pos h4, ddT_idk k (by omega) hne], fun _ _ => rfl⟩ ?_
  rintro ⟨kk, k2⟩ w5 Kn5 ⟨hkk, hkk2, hk2, M, ht, hM, hMt, hMe⟩ hKn5
  have hkk : k ≤ kk := hkk
  have hkk2 : kk + 1 ≤ k + k2 := hkk2
  have hk2 : k + k2 ≤ L.length := hk2
  have hMt : M.take kk = ddT (L.take (k + k2)) := hMt
  have hMe : ∀ j, k + k2 ≤ j + 1 → gt M j = gt L j := hMe
  intro _
  simp only [gx]
  refine iLenL ?_
  refine iLt ?_
  refine iCndP (fun h5 => ?_) (fun h5 => ?_)
  · refine iIaL (j := k2) (by omega) ?_
    refine iLd (ht.ow.at (by rw [List.length_map]; exact hM) (j := k + k2) (by omega) |>.trans (strs_get M (by omega))) ?_
    refine iSub (by omega) ?_
    rw [show (k2 : Int) - 1 = ((k2 - 1 : Nat) : Int) by omega]
    refine iIaL (j := k2 - 1) (by omega) ?_
    refine iLd (ht.ow.at (by rw [List.length_map]; exact hM) (j := k + (k2 - 1)) (by omega) |>.trans (strs_get M (by omega))) ?_
    refine iNeT ?_
    intro w6 h56
    have ht6 := ht.ext h56
    have e1 := hMe (k + k2) (by omega)
    have e2 := hMe (k + (k2 - 1)) (by omega)
    have edd := ddT_take (l := L) (i := k + k2) (by omega) (by omega)
    rw [← e1, show k + k2 - 1 = k + (k2 - 1) by omega, ← e2] at edd
    refine iCndP (fun h6 => ?_) (fun h6 => ?_)
    · rw [if_neg h6, ← hMt] at edd
      refine iIaL (j := k2) (by omega) ?_
      refine iLd (ht6.ow.at (by rw [List.length_map]; exact hM) (j := k + k2) (by omega) |>.trans (strs_get M (by omega))) ?_
      refine iIaOw ht6.ow (by omega) (by rw [List.length_map]; omega) fun b o hb _ _ hc hf hset => ?_
      refine iSt (hc.trans (List.getElem?_eq_getElem (by rw [List.length_map]; omega))) hf rfl ?_
      have hset := hset (sv (gt M (k + k2)))
      rw [Int.toNat_natCast, ← List.map_set] at hset
      refine iAdd (by omega) ?_
      refine iAdd (by omega) ?_
      refine hKn5 (kk + 1, k2 + 1) _ ⟨by show k ≤ kk + 1; omega, by show kk + 1 + 1 ≤ k + (k2 + 1); omega, by show k + (k2 + 1) ≤ L.length; omega, M.set kk (gt M (k + k2)), ⟨hset, ht6.ch.trans ((Upd.setCell w6 b o _).ch (S := fun c => Value.ownBlock (.slice (some ⟨g, 0, none⟩) L.length cap) = some c) hb) fun _ e => .inl e⟩, by rw [List.length_set]; exact hM, ?_, fun j hj => ?_⟩ (by show L.length - (k2 + 1) < L.length - k2; omega)
      · show (M.set kk (gt M (k + k2))).take (kk + 1) = ddT (L.take (k + (k2 + 1)))
        rw [show k + (k2 + 1) = k + k2 + 1 by omega, edd, List.take_succ_eq_append_getElem (by rw [List.length_set]; omega), List.getElem_set_self, List.take_set_of_le (Nat.le_refl _)]
      · have hj : k + (k2 + 1) ≤ j + 1 := hj
        rw [gt_set _ (by omega), if_neg (by omega)]
        exact hMe j (by omega)
    · rw [if_pos (Classical.not_not.1 h6), ← hMt] at edd
      refine iAdd (by omega) ?_
      exact hKn5 (kk, k2 + 1) _ ⟨hkk, by show kk + 1 ≤ k + (k2 + 1); omega, by show k + (k2 + 1) ≤ L.length; omega, M, ht6, hM, edd.symm, fun j hj => hMe j (by have hj : k + (k2 + 1) ≤ j + 1 := hj; omega)⟩ (by show L.length - (k2 + 1) < L.length - k2; omega)
  · have hend : k + k2 = L.length := by omega
    rw [hend, List.take_length] at hMt
    refine iSlTail (k := kk) (by omega) hcap ?_
    refine iClr u_Sstring i_Sstring rfl ht.ow (by rw [List.length_map]; exact hM) (by omega) fun w8 h8 hc8 => ?_
    refine iSlHead (k := kk) (by omega) hcap ?_
    rw [show (List.map sv M).take kk = strs (M.take kk) from strs_take M kk, hMt] at h8
    exact ⟨h8, ht.ch.trans hc8 fun c hc => .inl (by rw [hc]; rfl), rfl⟩
theorem ok_impl_put {w : World} {v0 v1 : Value} {A B : List Str} (h0 : SlT w v0 A) (h1 : SlT w v1 B) (hc0 : isCell v0 = true) (hc1 : isCell v1 = true) (hl : A.length + B.length ≤ 1099511627776) :
    Cal Tryz.prog f_impl_put #[v0, v1] w fun r w' => Ext w w' ∧ Ow w.heap.size t_string w' r (strs (setT (A ++ B))) := by
  apply c_impl_put; unfold S_impl_put
  refine iBs2 rfl hc0 hc1 fun c w1 hc h1' hB => ?_
  refine iCall ((ok_Concat_Sstring_string (vs := [v0, v1]) (ps := [(A.length, strs A), (B.length, strs B)]) (Sl.ofBlk (n := 2) hB rfl (by decide)) rfl (fun i g1 g2 => ?_) (fun p hp u hu => ?_) (by simp; omega)).mono ?_)
  · rcases i with _ | _ | i
    · exact (Sl.toK (h0.ext h1')).cast (strs_len A)
    · exact (Sl.toK (h1.ext h1')).cast (strs_len B)
    · simp at g1; omega
  · simp only [List.mem_cons, List.not_mem_nil, or_false] at hp
    rcases hp with rfl | rfl
    · exact strs_cell _ _ hu
    · exact strs_cell _ _ hu
  rintro r w2 ⟨h2, ho⟩
  have hX2 := h1'.trans h2
  have ho2 : Ow w1.heap.size t_string w2 r (strs (A ++ B)) := by
    have := ho.toOw
    simpa [strs] using this
  refine iCall ((ok_slices_Sort_Sstring_string ho2 (by rw [List.length_append]; omega)).mono ?_)
  rintro _ w3 ⟨L', ho3, hc3, hperm, hsorted⟩
  have hlen : L'.length = A.length + B.length := by rw [hperm.length_eq, List.length_append]
  refine iCall ((ok_slices_Compact_Sstring_string ho3 (by omega)).mono ?_)
  rintro r' w4 ⟨ho4, hc4, _⟩
  rw [ddT_of_perm hsorted hperm] at ho4
  have hn : ∀ c, r.ownBlock = some c → w.heap.size ≤ c := fun c hc' => Nat.le_trans h1'.size (ho2.blk c hc').1
  exact ⟨(hX2.thenCh hc3 hn).thenCh hc4 hn, ho4.mono h1'.size⟩
end Go.Proofs.YtapdkkijoflcpaaGreatDoor

/- Contracts: the references of an expression, in the program and in the reference; the laws' helpers for rows of texts. Conditions: none. -/
namespace Go.Vc
theorem iChr {P : Program} {w : World} {s d e : TypeId} {c : UInt8} {z : Int} {K : Value → World → Prop} (hs : P.underlying s = some (.slice e)) (he : P.underlying e = some (.int .u8)) (hd : P.underlying d = some .string) (hz : z = (c.toNat : Int)) (h : ∀ w', Ext w w' → K (sv [c]) w') :
    xBs e (Value.cells (.int .u8 0)) 1 1 [(0, .int .u8 z)] w fun v w3 => xR P w3 (convert s d v) fun r => K r w3 := by
  subst hz
  refine iBs1 rfl rfl fun b w1 hb h1 hB => ?_
  refine ⟨sv [c], fun w' hw' => ?_, h w1 h1⟩
  have hB' := hB.ext hw'
  rw [run_convert_bytes_string w' s d e _ 1 1 hs he hd]
  have hl : (loadCells ⟨b, 0, none⟩ 1).run P w' = .ok ([(c.toNat : Int)].map (Value.int .u8)).toArray w' := by
    simp only [loadCells]
    rw [loadCellsFrom_run (cs := #[Value.int .u8 (c.toNat : Int)]) 1 0 #[] (fun j _ hj => by
      have : j = 0 := by omega
      subst this
      exact hB'.cell 0) (by simp)]
    simp
  rw [run_bytesToString w' ⟨b, 0, none⟩ 1 1 _ hl]
  have e : [(c.toNat : Int)].foldl (fun (r : ByteArray) (n : Int) => r.push (UInt8.ofNat n.toNat)) ByteArray.empty = ⟨[c].toArray⟩ := by
    simp only [List.foldl_cons, List.foldl_nil, Int.toNat_natCast, UInt8.ofNat_toNat]
    rfl
  rw [e]
end Go.Vc
namespace Go.Proofs.YtapdkkijoflcpaaGreatDoor
open Go.Vc
open Go.RowKit (Below)
end Go.Proofs.YtapdkkijoflcpaaGreatDoor

/- Contracts: the kinds of formulas, as their text needs them. Conditions: none. -/
namespace Go.Proofs.YtapdkkijoflcpaaGreatDoor
open Go.Vc
theorem ok_impl_isFalsum {v : Value} {f : Fm} {w : World} (hs : FmS w v f) : Ret Tryz.prog f_impl_isFalsum #[v] w (.bool (decide (f = .fls))) := by
  apply c_impl_isFalsum; unfold S_impl_isFalsum
  refine iFld (j := 0) hs rfl f.size_pos (by decide) (kind_fst hs).1 ?_
  refine iEq ⟨?_, Ext.refl _⟩
  congr 1
  refine decide_eq_decide.2 ?_
  cases f <;> simp [Fm.kind]
theorem ok_impl_isNegation {v : Value} {f : Fm} {w : World} (hs : FmS w v f) (hn : f.size ≤ 1099511627776) : Ret Tryz.prog f_impl_isNegation #[v] w (.bool f.isNeg) := by
  apply c_impl_isNegation; unfold S_impl_isNegation
  refine iJnB f.isNeg w (fun J hJ => ?_) (fun w2 h2 => fun _ => ⟨by first | trivial | rfl, h2⟩)
  refine iFld (j := 0) hs rfl f.size_pos (by decide) (kind_fst hs).1 ?_
  refine iEq ?_
  refine iCndP (fun h => ?_) (fun h => ?_)
  · cases f <;> simp only [Fm.kind] at h <;> (try omega)
    rename_i a b
    refine iCall ((ok_impl_second (g := a) (h := b) hs rfl hn).mono ?_)
    rintro u w3 ⟨h3, hu⟩
    exact iRet (ok_impl_isFalsum hu) fun w4 h4 => hJ _ (h3.trans h4)
  · cases f <;> first | exact hJ _ (Ext.refl _) | (simp [Fm.kind] at h)
theorem ok_impl_levelOf {v : Value} {f : Fm} {w : World} (hs : FmS w v f) (hn : f.size ≤ 1099511627776) : Ret Tryz.prog f_impl_levelOf #[v] w (.int .i64 (f.own : Int)) := by
  apply c_impl_levelOf; unfold S_impl_levelOf
  refine iJnB (decide (f.kind = 4) && !f.isNeg) w (fun J hJ => ?_) (fun w2 h2 => ?_)
  · refine iFld (j := 0) hs rfl f.size_pos (by decide) (kind_fst hs).1 ?_
    refine iEq ?_
    refine iCndP (fun h => ?_) (fun h => ?_)
    · rw [decide_eq_true (show f.kind = 4 by omega), Bool.true_and] at hJ
      refine iRet (ok_impl_isNegation hs hn) fun w3 h3 => ?_
      exact iNot (hJ _ h3)
    · rw [decide_eq_false (show ¬ f.kind = 4 by omega), Bool.false_and] at hJ
      exact hJ _ (Ext.refl _)
  · intro _
    simp only [gx]
    have hs2 := hs.ext h2
    cases hc : decide (f.kind = 4) && !f.isNeg
    · refine iCndF rfl ?_
      refine iFld (j := 0) hs2 rfl f.size_pos (by decide) (kind_fst hs).1 ?_
      refine iEq ?_
      refine iCndP (fun h => ?_) (fun h => ?_)
      · refine ⟨?_, h2⟩
        cases f <;> simp only [Fm.kind] at h <;> first | omega | rfl
      · refine iFld (j := 0) hs2 rfl f.size_pos (by decide) (kind_fst hs).1 ?_
        refine iEq ?_
        refine iCndP (fun h' => ?_) (fun h' => ?_)
        · refine ⟨?_, h2⟩
          cases f <;> simp only [Fm.kind] at h' <;> first | omega | rfl
        · refine ⟨?_, h2⟩
          cases f <;> simp [Fm.kind, Fm.isNeg] at h h' hc <;> simp [Fm.own, hc]
    · refine iCndT rfl ⟨?_, h2⟩
      cases f <;> simp [Fm.kind, Fm.isNeg] at hc
      simp [Fm.own, hc]
end Go.Proofs.YtapdkkijoflcpaaGreatDoor

/- Contracts: the text of a formula and formulas read from texts, in the program and in the reference. Conditions: none. -/
namespace Go.Vc
/-- The letters of the variables, one of them. -/
theorem letter_at {v : Nat} (hv : v < 6) : (([112, 113, 114, 115, 116, 117] : Str).drop v).take (v + 1 - v) = [vl v] := by
  have : ∀ v : Fin 6, (([112, 113, 114, 115, 116, 117] : Str).drop v.val).take (v.val + 1 - v.val) = [vl v.val] := by decide
  exact this ⟨v, hv⟩
theorem txt_out {f : Fm} {lv : Nat} (h : f.own < lv) : f.txt lv = [40] ++ f.txt 0 ++ [41] := by
  rw [txt_par h, txt_own (Nat.zero_le _)]; simp
def pCode (t : Str) : Int := if 200 < t.length then 3 else if rdOk t then (if 40 < (rd t).1.size then 3 else 0) else 6
def pAt (t : Str) : Nat := if 200 < t.length then 0 else if rdOk t then 0 else rdAt t
theorem pCode_size {t : Str} (h : pCode t = 0) : (rd t).1.size ≤ 40 ∧ t.length ≤ 200 ∧ rdOk t = true := by
  unfold pCode at h
  split at h
  · cases h
  · split at h
    · split at h
      · cases h
      · rename_i h1 h2 h3; exact ⟨by omega, by omega, h2⟩
    · cases h
/-- Texts of formulas. -/
def goodT (t : Str) : Bool := decide (pCode t = 0) && decide ((rd t).1.body = t)
end Go.Vc
namespace Go.Proofs.YtapdkkijoflcpaaGreatDoor
open Go.Vc
theorem ok_impl_textAt : ∀ (m : Nat) {v : Value} {f : Fm} {lv : Nat} {w : World}, 2 * f.size + (if f.own < lv then 1 else 0) ≤ m → FmS w v f → f.good → f.size ≤ 1099511627776 → lv ≤ 3 → Ret Tryz.prog f_impl_textAt #[v, .int .i64 (lv : Int)] w (sv (f.txt lv))
  | 0, v, f, lv, w, hm, _, _, _, _ => by have := f.size_pos; omega
  | m + 1, v, f, lv, w, hm, hs, hg, hn, hlv => by
    apply c_impl_textAt; unfold S_impl_textAt
    have hbl := body_len f
    have htl := fun lv => txt_len lv f
    refine iRet (ok_impl_levelOf hs hn) fun w1 h1 => ?_
    have hs1 := hs.ext h1
    refine iLt ?_
    refine iCndP (fun h => ?_) (fun h => ?_)
    · have h : f.own < lv := by omega
      rw [if_pos h] at hm
      refine iRet (ok_impl_textAt m (lv := 0) (by rw [if_neg (by omega)]; omega) hs1 hg hn (by decide)) fun w2 h2 => ?_
      have := htl 0
      refine iCat (a := [40]) (by simp only [List.length_singleton]; omega) ?_
      refine iCat (b := [41]) (by simp only [List.length_append, List.length_singleton]; omega) ?_
      rw [← txt_out h]
      exact ⟨by first | trivial | rfl, h1.trans h2⟩
    · have h : lv ≤ f.own := by omega
      rw [txt_own h]
      rw [if_neg (by omega)] at hm
      have hk := kind_fst hs
      refine iFld (j := 0) hs1 rfl f.size_pos (by decide) hk.1 ?_
      -- any part of the formula, at any level
      have sub : ∀ {g : Fm} {u : Value} {w' : World} {l : Nat}, g.size < f.size → FmS w' u g → g.good → l ≤ 3 → Ret Tryz.prog f_impl_textAt #[u, .int .i64 (l : Int)] w' (sv (g.txt l)) := fun {g u w' l} h1 h2 h3 h4 =>
        ok_impl_textAt m (by split <;> omega) h2 h3 (by omega) h4
      cases f with
      | var x =>
        refine iEq (iCndT rfl ?_)
        refine iFld (j := 0) hs1 rfl (Fm.size_pos _) (by decide) hk.2 ?_
        refine iFld (j := 0) hs1 rfl (Fm.size_pos _) (by decide) hk.2 ?_
        have hx : x < 6 := hg
        refine iAdd (by show _ ≤ (x : Int) + 1 ∧ (x : Int) + 1 ≤ _; omega) ?_
        refine iTxSub (l := [112, 113, 114, 115, 116, 117]) (i := x) (j := x + 1) (by omega) (by show x + 1 ≤ 6; omega) ?_
        intro w3 h3
        rw [letter_at hx]
        exact ⟨by first | trivial | rfl, h1.trans h3⟩
      | fls =>
        refine iEq (iCndF rfl (iEq (iCndT rfl ?_)))
        exact ⟨by first | trivial | rfl, h1⟩
      | and a b =>
        refine iEq (iCndF rfl (iEq (iCndF rfl (iEq (iCndT rfl ?_)))))
        simp only [Fm.size] at hn
        have ha := txt_len 2 a
        have hb := txt_len 3 b
        refine iCall ((ok_impl_first hs1 (g := a) (gs := [b]) rfl (by simp only [Fm.size]; omega)).mono ?_)
        rintro u w4 ⟨h4, hu⟩
        refine iRet (sub (l := 2) (by simp only [Fm.size]; omega) hu hg.1 (by decide)) fun w5 h5 => ?_
        refine iCat (b := [38]) (by simp only [List.length_singleton]; omega) ?_
        have hs5 := (hs1.ext h4).ext h5
        refine iCall ((ok_impl_second hs5 (g := a) (h := b) rfl (by simp only [Fm.size]; omega)).mono ?_)
        rintro u' w6 ⟨h6, hu'⟩
        refine iRet (sub (l := 3) (by simp only [Fm.size]; omega) hu' hg.2 (by decide)) fun w7 h7 => ?_
        refine iCat (by simp only [List.length_append, List.length_singleton]; omega) ?_
        refine ⟨?_, (((h1.trans h4).trans h5).trans h6).trans h7⟩
        simp [Fm.body, Fm.txt]
      | or a b =>
        refine iEq (iCndF rfl (iEq (iCndF rfl (iEq (iCndF rfl (iEq (iCndT rfl ?_)))))))
        simp only [Fm.size] at hn
        have ha := txt_len 1 a
        have hb := txt_len 2 b
        refine iCall ((ok_impl_first hs1 (g := a) (gs := [b]) rfl (by simp only [Fm.size]; omega)).mono ?_)
        rintro u w4 ⟨h4, hu⟩
        refine iRet (sub (l := 1) (by simp only [Fm.size]; omega) hu hg.1 (by decide)) fun w5 h5 => ?_
        refine iCat (b := [124]) (by simp only [List.length_singleton]; omega) ?_
        have hs5 := (hs1.ext h4).ext h5
        refine iCall ((ok_impl_second hs5 (g := a) (h := b) rfl (by simp only [Fm.size]; omega)).mono ?_)
        rintro u' w6 ⟨h6, hu'⟩
        refine iRet (sub (l := 2) (by simp only [Fm.size]; omega) hu' hg.2 (by decide)) fun w7 h7 => ?_
        refine iCat (by simp only [List.length_append, List.length_singleton]; omega) ?_
        refine ⟨?_, (((h1.trans h4).trans h5).trans h6).trans h7⟩
        simp [Fm.body, Fm.txt]
      | box a =>
        refine iEq (iCndF rfl (iEq (iCndF rfl (iEq (iCndF rfl (iEq (iCndF rfl (iEq (iCndT rfl ?_)))))))))
        simp only [Fm.size] at hn
        have ha := txt_len 3 a
        refine iCall ((ok_impl_first hs1 (g := a) (gs := []) rfl (by simp only [Fm.size]; omega)).mono ?_)
        rintro u w4 ⟨h4, hu⟩
        refine iRet (sub (l := 3) (by simp only [Fm.size]; omega) hu hg (by decide)) fun w5 h5 => ?_
        refine iCat (a := [91, 93]) (by simp only [List.length_cons, List.length_nil]; omega) ?_
        exact ⟨by first | trivial | rfl, (h1.trans h4).trans h5⟩
      | dia a =>
        refine iEq (iCndF rfl (iEq (iCndF rfl (iEq (iCndF rfl (iEq (iCndF rfl (iEq (iCndF rfl (iEq (iCndT rfl ?_)))))))))))
        simp only [Fm.size] at hn
        have ha := txt_len 3 a
        refine iCall ((ok_impl_first hs1 (g := a) (gs := []) rfl (by simp only [Fm.size]; omega)).mono ?_)
        rintro u w4 ⟨h4, hu⟩
        refine iRet (sub (l := 3) (by simp only [Fm.size]; omega) hu hg (by decide)) fun w5 h5 => ?_
        refine iCat (a := [60, 62]) (by simp only [List.length_cons, List.length_nil]; omega) ?_
        exact ⟨by first | trivial | rfl, (h1.trans h4).trans h5⟩
      | imp a b =>
        refine iEq (iCndF rfl (iEq (iCndF rfl (iEq (iCndF rfl (iEq (iCndF rfl (iEq (iCndF rfl (iEq (iCndF rfl ?_)))))))))))
        refine iRet (ok_impl_isNegation hs1 hn) fun w16 h16 => ?_
        have hs16 := hs1.ext h16
        have h16' := h1.trans h16
        simp only [Fm.size] at hn
        refine iNot ?_
        have hbd : (Fm.imp a b).body = if b = .fls then (if a = .fls then [84] else 126 :: par (decide (a.own < 3)) a.body) else par (decide (a.own < 1)) a.body ++ 62 :: b.body := by rw [Fm.body]
        rw [hbd]
        by_cases hb : b = .fls
        · rw [if_pos hb]
          refine iCndF (by simp [Fm.isNeg, hb]) ?_
          refine iCall ((ok_impl_first hs16 (g := a) (gs := [b]) rfl (by simp only [Fm.size]; omega)).mono ?_)
          rintro u w21 ⟨h21, hu⟩
          refine iRet (ok_impl_isFalsum hu) fun w22 h22 => ?_
          have hs22 := (hs16.ext h21).ext h22
          have h22' := (h16'.trans h21).trans h22
          refine iCndP (fun ha => ?_) (fun ha => ?_)
          · rw [if_pos ha]
            exact ⟨by first | trivial | rfl, h22'⟩
          · rw [if_neg ha]
            have hal := txt_len 3 a
            refine iCall ((ok_impl_first hs22 (g := a) (gs := [b]) rfl (by simp only [Fm.size]; omega)).mono ?_)
            rintro u' w23 ⟨h23, hu'⟩
            refine iRet (sub (l := 3) (by simp only [Fm.size]; omega) hu' hg.1 (by decide)) fun w24 h24 => ?_
            refine iCat (a := [126]) (by simp only [List.length_singleton]; omega) ?_
            exact ⟨by first | trivial | rfl, (h22'.trans h23).trans h24⟩
        · rw [if_neg hb]
          refine iCndT (by simp [Fm.isNeg, hb]) ?_
          have ha1 := txt_len 1 a
          have hb0 := txt_len 0 b
          refine iCall ((ok_impl_first hs16 (g := a) (gs := [b]) rfl (by simp only [Fm.size]; omega)).mono ?_)
          rintro u w17 ⟨h17, hu⟩
          refine iRet (sub (l := 1) (by simp only [Fm.size]; omega) hu hg.1 (by decide)) fun w18 h18 => ?_
          refine iCat (b := [62]) (by simp only [List.length_singleton]; omega) ?_
          have hs18 := (hs16.ext h17).ext h18
          refine iCall ((ok_impl_second hs18 (g := a) (h := b) rfl (by simp only [Fm.size]; omega)).mono ?_)
          rintro u' w19 ⟨h19, hu'⟩
          refine iRet (sub (l := 0) (by simp only [Fm.size]; omega) hu' hg.2 (by decide)) fun w20 h20 => ?_
          refine iCat (by simp only [List.length_append, List.length_singleton]; omega) ?_
          refine ⟨?_, (((h16'.trans h17).trans h18).trans h19).trans h20⟩
          simp [Fm.txt, par]
theorem ok_impl_text {v : Value} {f : Fm} {w : World} (hs : FmS w v f) (hg : f.good) (hn : f.size ≤ 1099511627776) : Ret Tryz.prog f_impl_text #[v] w (sv f.body) := by
  apply c_impl_text; unfold S_impl_text
  refine iRet (ok_impl_textAt _ (lv := 0) (Nat.le_refl _) hs hg hn (by decide)) fun w1 h1 => ?_
  rw [txt_own (Nat.zero_le _)]
  exact ⟨by first | trivial | rfl, h1⟩
theorem FmW.some {lo : Nat} {w : World} {v : Value} {f : Fm} (h : FmW lo w v f) : ∃ g c, lo ≤ g ∧ g < w.heap.size ∧ v = .slice (some ⟨g, 0, none⟩) f.size c := by
  obtain ⟨_, ⟨_, h0⟩ | ⟨g, cap, cur, hv, hg, hh, _⟩⟩ := h
  · have := f.size_pos; omega
  · exact ⟨g, cap, hg, heap_lt hh, hv⟩
theorem ok_impl_ParseFormula (t : Str) (w : World) : Cal Tryz.prog f_impl_ParseFormula #[sv t] w fun r w' => Ext w w' ∧ ∃ v, r = .tuple #[v, .int .i64 (pAt t : Int), .int .i64 (pCode t)] ∧ (pCode t = 0 → FmW w.heap.size w' v (rd t).1) ∧ (¬ pCode t = 0 → v = .slice none 0 0) := by
  apply c_impl_ParseFormula; unfold S_impl_ParseFormula
  refine iLenT ?_
  refine iLt ?_
  refine iCndP (fun h => ?_) (fun h => ?_)
  · have e1 : pCode t = 3 := by unfold pCode; rw [if_pos (by omega)]
    have e2 : pAt t = 0 := by unfold pAt; rw [if_pos (by omega)]
    rw [e1, e2]
    exact ⟨Ext.refl _, _, rfl, (fun h => by cases h), fun _ => rfl⟩
  · have e1 : pCode t = if rdOk t then (if 40 < (rd t).1.size then 3 else 0) else 6 := by unfold pCode; rw [if_neg (by omega)]
    have e2 : pAt t = if rdOk t then 0 else rdAt t := by unfold pAt; rw [if_neg (by omega)]
    refine iBuild (cs := #[sv t, .int .i64 0, .bool false]) (by simp [Instr.fill, Value.cells]) ?_
    refine iNew fun b w1 hb h1 hB => ?_
    refine iCall ((ok_impl_reader_imply (by omega) (RdS.new hB)).mono ?_)
    rintro v w2 ⟨h2, hc2, hv2⟩
    rw [← rd_rdL] at h2 hv2
    have hX2 : Ext w w2 := h1.thenCh hc2 fun c hc => by omega
    have hB2 := h2.place
    have hrl := rd_len t
    refine iJnB (!rdOk t) w2 (fun J hJ => ?_) (fun w4 h4 => ?_)
    · unfold rdOk at hJ
      ((with_reducible refine iNil ?_; refine iFa ?_); refine iLdB (by assumption) (by first | rfl | simp) ?_)
      cases hbad : (rd t).2.2
      · rw [hbad] at hJ
        refine iCndF rfl ?_
        ((with_reducible refine iNil ?_; refine iFa ?_); refine iLdB (by assumption) (by first | rfl | simp) ?_)
        refine iLenT ?_
        ((with_reducible refine iLt ?_))
        have : decide (((t.length - (rd t).2.1.length : Nat) : Int) < (t.length : Nat)) = !(!false && decide ((rd t).2.1 = [])) := by
          by_cases he : (rd t).2.1 = []
          · rw [he]; simp
          · have : 1 ≤ (rd t).2.1.length := by
              rcases Nat.eq_zero_or_pos (rd t).2.1.length with h0 | h0
              · exact absurd (List.length_eq_zero_iff.1 h0) he
              · exact h0
            simp [he]; omega
        rw [this]
        exact hJ w2 (Ext.refl _)
      · rw [hbad] at hJ
        exact iCndT rfl (hJ w2 (Ext.refl _))
    · intro _
      simp only [gx]
      have hB4 := hB2.ext h4
      cases hok : rdOk t
      · refine iCndT rfl ?_
        rw [e1, e2, hok]
        ((with_reducible refine iNil ?_; refine iFa ?_); refine iLdB (by assumption) (by first | rfl | simp) ?_)
        intro w5 h5
        exact ⟨(hX2.trans h4).trans h5, _, rfl, (fun h => by cases h), fun _ => rfl⟩
      · refine iCndF rfl ?_
        have hv4 := OwK.ext hv2 h4
        rw [e1, e2, hok]
        refine iLenK hv4.sl ?_
        refine iLt ?_
        refine iCndP (fun h' => ?_) (fun h' => ?_)
        · rw [if_pos rfl, if_pos (show 40 < (rd t).1.size by omega)]
          exact ⟨hX2.trans h4, _, rfl, (fun h => by cases h), fun _ => rfl⟩
        · rw [if_pos rfl, if_neg (show ¬ 40 < (rd t).1.size by omega)]
          exact ⟨hX2.trans h4, _, rfl, fun _ => hv4.mono h1.size, fun h => absurd rfl h⟩
theorem ok_impl_parsed (t : Str) (w : World) : Cal Tryz.prog f_impl_parsed #[sv t] w fun v w' => Ext w w' ∧ (pCode t = 0 → FmW w.heap.size w' v (rd t).1) ∧ (¬ pCode t = 0 → v = .slice none 0 0) := by
  apply c_impl_parsed; unfold S_impl_parsed
  refine iCall ((ok_impl_ParseFormula t w).mono ?_)
  rintro r w1 ⟨h1, v, rfl, hv, hn⟩
  refine iE30 ?_
  refine iE31 ?_
  refine iE32 ?_
  exact ⟨h1, hv, hn⟩
theorem ok_impl_isText (t : Str) (w : World) : Ret Tryz.prog f_impl_isText #[sv t] w (.bool (goodT t)) := by
  apply c_impl_isText; unfold S_impl_isText
  refine iCall ((ok_impl_parsed t w).mono ?_)
  rintro v w1 ⟨h1, hv, hn⟩
  refine iJnB (goodT t) w1 (fun J hJ => ?_) (fun w3 h3 => fun _ => ⟨by first | trivial | rfl, h1.trans h3⟩)
  unfold goodT at hJ
  by_cases hc : pCode t = 0
  · rw [decide_eq_true hc, Bool.true_and] at hJ
    have hs := (hv hc).sl
    obtain ⟨g, c, -, -, he⟩ := FmW.some (hv hc)
    subst he
    refine ⟨trivial, rfl, ?_⟩
    refine iCndT rfl ?_
    refine iRet (ok_impl_text hs (rd_good t) (by have := (pCode_size hc).1; omega)) fun w4 h4 => ?_
    exact iEqT (hJ _ h4)
  · rw [decide_eq_false hc, Bool.false_and] at hJ
    rw [hn hc]
    exact ⟨trivial, rfl, iCndF rfl (hJ _ (Ext.refl _))⟩
end Go.Proofs.YtapdkkijoflcpaaGreatDoor

/- Contracts: the text of a formula and formulas read from texts, in the reference. Conditions: none. -/
namespace Go.Proofs.YtapdkkijoflcpaaGreatDoor
open Go.Vc
theorem ok_spec_l02Left {v : Value} {f g : Fm} {gs : List Fm} {w : World} (hs : FmS w v f) (hk : f.kids = g :: gs) (hn : f.size ≤ 1099511627776) : Cal Tryz.prog f_spec_l02Left #[v] w fun u w' => Ext w w' ∧ FmS w' u g := by
  apply c_spec_l02Left; unfold S_spec_l02Left
  have hsz := f.size_kids
  rw [hk] at hsz
  simp only [sizeL, List.map_cons, List.sum_cons] at hsz
  refine iRet (ok_spec_l02Part (i := 1) hs (drop_one hk) hn) fun w1 h1 => ?_
  refine iSlK (i := 1) (j := 1 + g.size) (hs.ext h1) (by omega) (by omega) fun u hu => ⟨h1, ?_⟩
  rw [drop_one hk, Nat.add_sub_cancel_left, ← g.cells_len, List.take_left] at hu
  exact hu
theorem ok_spec_l02Right {v : Value} {f g h : Fm} {w : World} (hs : FmS w v f) (hk : f.kids = [g, h]) (hn : f.size ≤ 1099511627776) : Cal Tryz.prog f_spec_l02Right #[v] w fun u w' => Ext w w' ∧ FmS w' u h := by
  apply c_spec_l02Right; unfold S_spec_l02Right
  obtain ⟨hd, hsz⟩ := drop_two hk
  refine iRet (ok_spec_l02Part (i := 1) hs (drop_one hk) hn) fun w1 h1 => ?_
  refine iSlKFrom (i := 1 + g.size) (hs.ext h1) (by omega) fun u hu => ⟨h1, ?_⟩
  rw [hd, List.append_nil, hsz, Nat.add_sub_cancel_left] at hu
  exact hu
theorem fm_rest {w : World} {v : Value} {f g : Fm} (hs : SlK 2 w v (f.size - 1) (f.cells.drop (1 * 2))) (hk : f.kids = [g]) : FmS w v g := by
  rw [drop_one hk] at hs
  have := f.size_kids
  rw [hk] at this
  simp only [sizeL, List.map_cons, List.map_nil, List.sum_cons, List.sum_nil] at this
  rw [this, Nat.add_sub_cancel_left] at hs
  simpa [cellsL] using hs
theorem nodeCells {f : Fm} {i : Nat} (hi : i < f.size) : ∃ a b : Int, f.cells[i * 2]? = some (.int .i64 a) ∧ f.cells[i * 2 + 1]? = some (.int .i64 b) := by
  suffices H : ∀ (n : Nat) (fs : List Fm), sizeL fs ≤ n → ∀ i, i < sizeL fs → ∃ a b : Int, (cellsL fs)[i * 2]? = some (.int .i64 a) ∧ (cellsL fs)[i * 2 + 1]? = some (.int .i64 b) by
    have := H (sizeL [f]) [f] (Nat.le_refl _) i (by simpa [sizeL] using hi)
    simpa [cellsL] using this
  intro n
  induction n with
  | zero => intro fs h i hi; omega
  | succ n ih =>
    intro fs h i hi
    cases fs with
    | nil => simp [sizeL] at hi
    | cons g gs =>
      have e : cellsL (g :: gs) = nd g.kind g.sym ++ cellsL (g.kids ++ gs) := by
        rw [cellsL_app]
        simp only [cellsL, List.flatMap_cons]
        rw [g.cells_kids]
        simp [cellsL]
      have hsz : sizeL (g :: gs) = 1 + sizeL (g.kids ++ gs) := by rw [sizeL_app]; have := g.size_kids; simp only [sizeL, List.map_cons, List.sum_cons] at this ⊢; omega
      rw [e]
      cases i with
      | zero => exact ⟨_, _, rfl, rfl⟩
      | succ i =>
        obtain ⟨a, b, h1, h2⟩ := ih (g.kids ++ gs) (by omega) i (by omega)
        refine ⟨a, b, ?_, ?_⟩
        · rw [show (i + 1) * 2 = i * 2 + 1 + 1 by omega]; simpa [nd] using h1
        · rw [show (i + 1) * 2 + 1 = i * 2 + 1 + 1 + 1 by omega]; simpa [nd] using h2
theorem iLdK {sz : Nat} {v : Value} {n : Nat} {xs : List Value} {cs : Array Value} {z : Int} {j : Nat} {k : IntKind} {w : World} {K : Value → Prop} (hs : SlK sz w v n xs) (hz : z = (j : Int)) (h1 : j < n) (hc : cs.size = sz) (hx : ∀ i, i < sz → xs[j * sz + i]? = cs[i]?) (h : K (.agg cs)) : xIa sz v (.int k z) fun p => xLdA w sz p K := by
  subst hz
  refine iIaK hs h1 fun b o hcell => ?_
  refine ⟨_, cs, rfl, hc, fun i hi => ?_, h⟩
  rw [addr_add, hcell i hi, hx i hi]
theorem ok_spec_l02Equal {v0 v1 : Value} {f g : Fm} {w : World} (h0 : FmS w v0 f) (h1 : FmS w v1 g) (hn : f.size ≤ 1099511627776) : Ret Tryz.prog f_spec_l02Equal #[v0, v1] w (.bool (decide (f = g))) := by
  apply c_spec_l02Equal; unfold S_spec_l02Equal
  refine iLenK h0 ?_
  refine iLenK h1 ?_
  refine iNe ?_
  refine iCndP (fun h => ?_) (fun h => ?_)
  · rw [decide_eq_false (show ¬ f = g from fun e => h (by rw [e]))]
    exact ⟨by first | trivial | rfl, Ext.refl _⟩
  · have hl : f.size = g.size := by omega
    refine iLp (fun i : Nat => [.int .i64 (i : Int)]) (fun i w' => i ≤ f.size ∧ Ext w w' ∧ ∀ j, j < i * 2 → f.cells[j]? = g.cells[j]?) (fun i => f.size - i) 0 rfl ⟨Nat.zero_le _, Ext.refl _, fun j hj => by omega⟩ ?_
    rintro i w2 Kn ⟨hi, h2, he⟩ hKn
    intro _
    simp only [gx]
    refine iLenK (h0.ext h2) ?_
    refine iLt ?_
    refine iCndP (fun h3 => ?_) (fun h3 => ?_)
    · obtain ⟨a, b, ha, hb⟩ := nodeCells (f := f) (i := i) (by omega)
      obtain ⟨c, d, hc, hd⟩ := nodeCells (f := g) (i := i) (by omega)
      refine iLdK (cs := #[.int .i64 a, .int .i64 b]) (h0.ext h2) rfl (by omega) rfl (fun j hj => by rcases j with _ | _ | j; exact ha; exact hb; omega) ?_
      refine iLdK (cs := #[.int .i64 c, .int .i64 d]) (h1.ext h2) rfl (by omega) rfl (fun j hj => by rcases j with _ | _ | j; exact hc; exact hd; omega) ?_
      refine iNeNode (t0 := 2) (t1 := 2) (by kernel_rfl) (by kernel_rfl) (by kernel_rfl) (by kernel_rfl) (by kernel_rfl) (by kernel_rfl) ?_
      intro w3 h23
      refine iCndP (fun h4 => ?_) (fun h4 => ?_)
      · rw [decide_eq_false (show ¬ f = g from fun e => h4 (by
          subst e
          rw [ha] at hc; rw [hb] at hd
          simp only [Option.some.injEq, Value.int.injEq, true_and] at hc hd
          exact ⟨hc, hd⟩))]
        exact ⟨by first | trivial | rfl, h2.trans h23⟩
      · refine iAdd (by omega) ?_
        have h4 := Classical.not_not.1 h4
        refine hKn (i + 1) _ ⟨by omega, h2.trans h23, fun j hj => ?_⟩ (by omega)
        by_cases h5 : j < i * 2
        · exact he j h5
        · rcases (show j = i * 2 ∨ j = i * 2 + 1 by omega) with rfl | rfl
          · rw [ha, hc, h4.1]
          · rw [hb, hd, h4.2]
    · rw [decide_eq_true (show f = g from cells_inj (List.ext_getElem? fun j => by
        by_cases hj : j < i * 2
        · exact he j hj
        · rw [List.getElem?_eq_none (by rw [f.cells_len]; omega), List.getElem?_eq_none (by rw [g.cells_len]; omega)]))]
      exact ⟨by first | trivial | rfl, h2⟩
theorem ok_spec_l02Write : ∀ (m : Nat) {v : Value} {f : Fm} {lv : Nat} {w : World}, f.size ≤ m → FmS w v f → f.good → f.size ≤ 1099511627776 → Ret Tryz.prog f_spec_l02Write #[v, .int .i64 (lv : Int)] w (sv (f.txt lv))
  | 0, v, f, lv, w, hm, _, _, _ => by have := f.size_pos; omega
  | m + 1, v, f, lv, w, hm, hs, hg, hn => by
    apply c_spec_l02Write; unfold S_spec_l02Write
    have hbl := body_len f
    have hk := kind_fst hs
    refine iFld (j := 0) hs rfl f.size_pos (by decide) hk.1 ?_
    refine iEq ?_
    have sub : ∀ {g : Fm} {u : Value} {w' : World} {l : Nat}, g.size < f.size → FmS w' u g → g.good → Ret Tryz.prog f_spec_l02Write #[u, .int .i64 (l : Int)] w' (sv (g.txt l)) := fun {g u w' l} h1 h2 h3 =>
      ok_spec_l02Write m (by omega) h2 h3 (by omega)
    refine iJnX (fun xs w' => xs = [.int .i64 (f.own : Int), sv f.body] ∧ Ext w w') (fun J hJ => ?_) ?_
    rotate_left
    · rintro xs w2 ⟨rfl, h2⟩
      intro _
      simp only [gx]
      refine iLt ?_
      refine iCndP (fun h => ?_) (fun h => ?_)
      · refine iCat (a := [40]) (by simp only [List.length_singleton]; omega) ?_
        refine iCat (b := [41]) (by simp only [List.length_append, List.length_singleton]; omega) ?_
        rw [txt_par (show f.own < lv by omega)]
        exact ⟨by simp, h2⟩
      · rw [txt_own (show lv ≤ f.own by omega)]
        exact ⟨by first | trivial | rfl, h2⟩
    · -- a join whose values are handed on
      have pass : ∀ {F : (List Value → World → Prop) → Prop} {J' : List Value → World → Prop}, (∀ xs w', xs = [.int .i64 (f.own : Int), sv f.body] ∧ Ext w w' → J' xs w') → (∀ J, (∀ xs w', xs = [.int .i64 (f.own : Int), sv f.body] ∧ Ext w w' → J xs w') → F J) → jn F fun xs w' => ∀ _ : Nat → Value, J' [gx xs 0, gx xs 1] w' := fun {F J'} hJ' h =>
        iJnX (fun xs w' => xs = [.int .i64 (f.own : Int), sv f.body] ∧ Ext w w') h fun xs w' ⟨e, hE⟩ _ => by subst e; exact hJ' _ _ ⟨rfl, hE⟩
      cases f with
      | var x =>
        refine iCndT rfl ?_
        refine iFld (j := 0) hs rfl (Fm.size_pos _) (by decide) hk.2 ?_
        refine iFld (j := 0) hs rfl (Fm.size_pos _) (by decide) hk.2 ?_
        have hx : x < 6 := hg
        refine iAdd (by show _ ≤ (x : Int) + 1 ∧ (x : Int) + 1 ≤ _; omega) ?_
        refine iTxSub (l := [112, 113, 114, 115, 116, 117]) (i := x) (j := x + 1) (by omega) (by show x + 1 ≤ 6; omega) ?_
        intro w3 h3
        rw [letter_at hx]
        exact hJ _ _ ⟨rfl, h3⟩
      | fls =>
        refine iCndF rfl (iEq (pass hJ fun J hJ => iCndT rfl ?_))
        exact hJ _ _ ⟨rfl, Ext.refl _⟩
      | box a =>
        refine iCndF rfl (iEq (pass hJ fun J hJ => iCndF rfl (iEq (pass hJ fun J hJ => iCndT rfl ?_))))
        simp only [Fm.size] at hn
        have ha := txt_len 3 a
        refine iSlKFrom (i := 1) hs (Fm.size_pos _) fun u hu => ?_
        refine iRet (sub (l := 3) (by simp only [Fm.size]; omega) (fm_rest hu rfl) hg) fun w5 h5 => ?_
        refine iCat (a := [91, 93]) (by simp only [List.length_cons, List.length_nil]; omega) ?_
        exact hJ _ _ ⟨rfl, h5⟩
      | dia a =>
        refine iCndF rfl (iEq (pass hJ fun J hJ => iCndF rfl (iEq (pass hJ fun J hJ => iCndF rfl (iEq (pass hJ fun J hJ => iCndT rfl ?_))))))
        simp only [Fm.size] at hn
        have ha := txt_len 3 a
        refine iSlKFrom (i := 1) hs (Fm.size_pos _) fun u hu => ?_
        refine iRet (sub (l := 3) (by simp only [Fm.size]; omega) (fm_rest hu rfl) hg) fun w5 h5 => ?_
        refine iCat (a := [60, 62]) (by simp only [List.length_cons, List.length_nil]; omega) ?_
        exact hJ _ _ ⟨rfl, h5⟩
      | and a b =>
        refine iCndF rfl (iEq (pass hJ fun J hJ => iCndF rfl (iEq (pass hJ fun J hJ => iCndF rfl (iEq (pass hJ fun J hJ => iCndF rfl (iEq (pass hJ fun J hJ => iCndT rfl ?_))))))))
        simp only [Fm.size] at hn
        have ha := txt_len 2 a
        have hb := txt_len 3 b
        refine iCall ((ok_spec_l02Left hs (g := a) (gs := [b]) rfl (by simp only [Fm.size]; omega)).mono ?_)
        rintro u w4 ⟨h4, hu⟩
        refine iRet (sub (l := 2) (by simp only [Fm.size]; omega) hu hg.1) fun w5 h5 => ?_
        refine iCat (b := [38]) (by simp only [List.length_singleton]; omega) ?_
        have hs5 := (hs.ext h4).ext h5
        refine iCall ((ok_spec_l02Right hs5 (g := a) (h := b) rfl (by simp only [Fm.size]; omega)).mono ?_)
        rintro u' w6 ⟨h6, hu'⟩
        refine iRet (sub (l := 3) (by simp only [Fm.size]; omega) hu' hg.2) fun w7 h7 => ?_
        refine iCat (by simp only [List.length_append, List.length_singleton]; omega) ?_
        refine hJ _ _ ⟨?_, ((h4.trans h5).trans h6).trans h7⟩
        simp [Fm.body, Fm.txt, Fm.own]
      | or a b =>
        refine iCndF rfl (iEq (pass hJ fun J hJ => iCndF rfl (iEq (pass hJ fun J hJ => iCndF rfl (iEq (pass hJ fun J hJ => iCndF rfl (iEq (pass hJ fun J hJ => iCndF rfl (iEq (pass hJ fun J hJ => iCndT rfl ?_))))))))))
        simp only [Fm.size] at hn
        have ha := txt_len 1 a
        have hb := txt_len 2 b
        refine iCall ((ok_spec_l02Left hs (g := a) (gs := [b]) rfl (by simp only [Fm.size]; omega)).mono ?_)
        rintro u w4 ⟨h4, hu⟩
        refine iRet (sub (l := 1) (by simp only [Fm.size]; omega) hu hg.1) fun w5 h5 => ?_
        refine iCat (b := [124]) (by simp only [List.length_singleton]; omega) ?_
        have hs5 := (hs.ext h4).ext h5
        refine iCall ((ok_spec_l02Right hs5 (g := a) (h := b) rfl (by simp only [Fm.size]; omega)).mono ?_)
        rintro u' w6 ⟨h6, hu'⟩
        refine iRet (sub (l := 2) (by simp only [Fm.size]; omega) hu' hg.2) fun w7 h7 => ?_
        refine iCat (by simp only [List.length_append, List.length_singleton]; omega) ?_
        refine hJ _ _ ⟨?_, ((h4.trans h5).trans h6).trans h7⟩
        simp [Fm.body, Fm.txt, Fm.own]
      | imp a b =>
        refine iCndF rfl (iEq (pass hJ fun J hJ => iCndF rfl (iEq (pass hJ fun J hJ => iCndF rfl (iEq (pass hJ fun J hJ => iCndF rfl (iEq (pass hJ fun J hJ => iCndF rfl (iEq (pass hJ fun J hJ => iCndF rfl (iEq (pass hJ fun J hJ => iCndT rfl ?_))))))))))))
        have hbd : (Fm.imp a b).body = if b = .fls then (if a = .fls then [84] else 126 :: par (decide (a.own < 3)) a.body) else par (decide (a.own < 1)) a.body ++ 62 :: b.body := by rw [Fm.body]
        have how : (Fm.imp a b).own = if b = .fls then 3 else 0 := by rw [Fm.own]
        refine iCall ((ok_spec_l02True w).mono ?_)
        rintro vt w26 ⟨h26, hvt⟩
        refine iRet (ok_spec_l02Equal (hs.ext h26) hvt.sl (by omega)) fun w27 h27 => ?_
        have h27' := h26.trans h27
        have hs27 := hs.ext h27'
        have hsz : (Fm.imp a b).size = 1 + a.size + b.size := rfl
        refine pass hJ fun J hJ => ?_
        refine iCndP (fun h => ?_) (fun h => ?_)
        · cases h
          exact hJ _ _ ⟨by simp [Fm.body, Fm.own], h27'⟩
        · refine iCall ((ok_spec_l02Right hs27 (g := a) (h := b) rfl (by omega)).mono ?_)
          rintro u w30 ⟨h30, hu⟩
          have h30' := h27'.trans h30
          have hs30 := hs.ext h30'
          refine iFld (j := 0) hu rfl b.size_pos (by decide) (kind_fst hu).1 ?_
          refine iEq ?_
          refine pass hJ fun J hJ => ?_
          refine iCndP (fun hb => ?_) (fun hb => ?_)
          · have hb : b = .fls := by cases b <;> first | rfl | (simp [Fm.kind] at hb)
            have ha : ¬ a = .fls := fun e => h (by rw [e, hb])
            have hal := txt_len 3 a
            refine iCall ((ok_spec_l02Left hs30 (g := a) (gs := [b]) rfl (by omega)).mono ?_)
            rintro u' w33 ⟨h33, hu'⟩
            refine iRet (sub (l := 3) (by omega) hu' hg.1) fun w34 h34 => ?_
            refine iCat (a := [126]) (by simp only [List.length_singleton]; omega) ?_
            refine hJ _ _ ⟨?_, (h30'.trans h33).trans h34⟩
            rw [hbd, how, if_pos hb, if_pos hb, if_neg ha]
            rfl
          · have hb : ¬ b = .fls := fun e => hb (by rw [e]; rfl)
            have ha1 := txt_len 1 a
            have hb0 := txt_len 0 b
            refine iCall ((ok_spec_l02Left hs30 (g := a) (gs := [b]) rfl (by omega)).mono ?_)
            rintro u' w35 ⟨h35, hu'⟩
            refine iRet (sub (l := 1) (by omega) hu' hg.1) fun w36 h36 => ?_
            refine iCat (b := [62]) (by simp only [List.length_singleton]; omega) ?_
            have hs36 := (hs30.ext h35).ext h36
            refine iCall ((ok_spec_l02Right hs36 (g := a) (h := b) rfl (by omega)).mono ?_)
            rintro u'' w37 ⟨h37, hu''⟩
            refine iRet (sub (l := 0) (by omega) hu'' hg.2) fun w38 h38 => ?_
            refine iCat (by simp only [List.length_append, List.length_singleton]; omega) ?_
            refine hJ _ _ ⟨?_, (((h30'.trans h35).trans h36).trans h37).trans h38⟩
            rw [hbd, how, if_neg hb, if_neg hb]
            simp [Fm.txt, par]
theorem ok_spec_l02Text {v : Value} {f : Fm} {w : World} (hs : FmS w v f) (hg : f.good) (hn : f.size ≤ 1099511627776) : Ret Tryz.prog f_spec_l02Text #[v] w (sv f.body) := by
  apply c_spec_l02Text; unfold S_spec_l02Text
  refine iRet (ok_spec_l02Write _ (lv := 0) (Nat.le_refl _) hs hg hn) fun w1 h1 => ?_
  rw [txt_own (Nat.zero_le _)]
  exact ⟨by first | trivial | rfl, h1⟩
theorem ok_spec_ParseFormula (t : Str) (w : World) : Cal Tryz.prog f_spec_ParseFormula #[sv t] w fun r w' => Ext w w' ∧ ∃ v, r = .tuple #[v, .int .i64 (pAt t : Int), .int .i64 (pCode t)] ∧ (pCode t = 0 → FmW w.heap.size w' v (rd t).1) ∧ (¬ pCode t = 0 → v = .slice none 0 0) := by
  apply c_spec_ParseFormula; unfold S_spec_ParseFormula
  refine iLenT ?_
  refine iLt ?_
  refine iCndP (fun h => ?_) (fun h => ?_)
  · have e1 : pCode t = 3 := by unfold pCode; rw [if_pos (by omega)]
    have e2 : pAt t = 0 := by unfold pAt; rw [if_pos (by omega)]
    rw [e1, e2]
    exact ⟨Ext.refl _, _, rfl, (fun h => by cases h), fun _ => rfl⟩
  · have e1 : pCode t = if rdOk t then (if 40 < (rd t).1.size then 3 else 0) else 6 := by unfold pCode; rw [if_neg (by omega)]
    have e2 : pAt t = if rdOk t then 0 else rdAt t := by unfold pAt; rw [if_neg (by omega)]
    refine iCall ((ok_spec_l02Read (by omega) w).mono ?_)
    rintro r w1 ⟨h1, v, rfl, hv, -⟩
    refine iE20 ?_
    refine iE21 ?_
    cases hok : rdOk t
    · rw [if_neg (by decide)]
      refine iLe ?_
      refine iCndT (by simp) ?_
      rw [e1, e2, hok]
      exact ⟨h1, _, rfl, (fun h => by cases h), fun _ => rfl⟩
    · rw [if_pos rfl]
      refine iLe ?_
      refine iCndF (by decide) ?_
      rw [e1, e2, hok, if_pos rfl]
      refine iLenK (hv hok).sl ?_
      refine iLt ?_
      refine iCndP (fun h' => ?_) (fun h' => ?_)
      · rw [if_pos (show 40 < (rd t).1.size by omega)]
        exact ⟨h1, _, rfl, (fun h => by cases h), fun _ => rfl⟩
      · rw [if_neg (show ¬ 40 < (rd t).1.size by omega)]
        exact ⟨h1, _, rfl, fun _ => hv hok, fun h => absurd rfl h⟩
theorem ok_spec_l02Good (t : Str) (w : World) : Cal Tryz.prog f_spec_l02Good #[sv t] w fun r w' => Ext w w' ∧ ∃ v, r = .tuple #[v, .bool (goodT t)] ∧ (pCode t = 0 → FmW w.heap.size w' v (rd t).1) := by
  apply c_spec_l02Good; unfold S_spec_l02Good
  refine iCall ((ok_spec_ParseFormula t w).mono ?_)
  rintro r w1 ⟨h1, v, rfl, hv, -⟩
  refine iE30 ?_
  refine iE31 ?_
  refine iE32 ?_
  refine iJnX (fun xs w' => xs = [v, .bool (goodT t)] ∧ Ext w1 w') (fun J hJ => ?_) ?_
  · refine iEq ?_
    unfold goodT at hJ
    refine iCndP (fun hc => ?_) (fun hc => ?_)
    · rw [decide_eq_true hc, Bool.true_and] at hJ
      refine iRet (ok_spec_l02Text (hv hc).sl (rd_good t) (by have := (pCode_size hc).1; omega)) fun w4 h4 => ?_
      exact iEqT (hJ _ _ ⟨rfl, h4⟩)
    · rw [decide_eq_false hc, Bool.false_and] at hJ
      exact hJ _ _ ⟨rfl, Ext.refl _⟩
  · rintro xs w3 ⟨rfl, h3⟩
    intro _
    exact ⟨h1.trans h3, v, rfl, fun hc => (hv hc).ext h3⟩
end Go.Proofs.YtapdkkijoflcpaaGreatDoor

/- Contracts: rows of items (three cells each), in the laws' helpers, the program and the reference. Conditions: none. -/
namespace Go.Vc
structure Itm where
  nm : Str
  fm : Str
  cl : Int
instance : Inhabited Itm := ⟨⟨[], [], 0⟩⟩
def Itm.cs (x : Itm) : List Value := [sv x.nm, sv x.fm, .int .i64 x.cl]
abbrev Itm.val (x : Itm) : Value := .agg #[sv x.nm, sv x.fm, .int .i64 x.cl]
def cellsI (L : List Itm) : List Value := L.flatMap Itm.cs
theorem cellsI_len : ∀ L : List Itm, (cellsI L).length = L.length * 3
  | [] => rfl
  | x :: L => by have := cellsI_len L; simp only [cellsI, List.flatMap_cons, List.length_append, List.length_cons, Itm.cs, List.length_nil] at this ⊢; omega
theorem cellsI_app (L M : List Itm) : cellsI (L ++ M) = cellsI L ++ cellsI M := by simp [cellsI]
theorem cellsI_at : ∀ {L : List Itm} {j : Nat}, j < L.length → (cellsI L)[j * 3 + 0]? = some (sv (gt L j).nm) ∧ (cellsI L)[j * 3 + 1]? = some (sv (gt L j).fm) ∧ (cellsI L)[j * 3 + 2]? = some (.int .i64 (gt L j).cl)
  | [], _, h => by simp at h
  | x :: L, 0, _ => ⟨rfl, rfl, rfl⟩
  | x :: L, j + 1, h => by
    have := cellsI_at (L := L) (j := j) (by simpa using h)
    have e : ∀ f, (cellsI (x :: L))[(j + 1) * 3 + f]? = (cellsI L)[j * 3 + f]? := fun f => by
      rw [show cellsI (x :: L) = x.cs ++ cellsI L by simp [cellsI], List.getElem?_append_right (by simp [Itm.cs]; omega)]
      congr 1
      simp [Itm.cs]; omega
    rw [e, e, e]
    exact this
theorem cellsI_cell (L : List Itm) : ∀ u ∈ cellsI L, isCell u = true := by
  intro u hu
  obtain ⟨x, _, hx⟩ := List.mem_flatMap.1 hu
  simp only [Itm.cs, List.mem_cons, List.not_mem_nil, or_false] at hx
  rcases hx with rfl | rfl | rfl <;> rfl
/-- Items to be read. -/
abbrev SlIt (w : World) (v : Value) (L : List Itm) : Prop := SlK 3 w v L.length (cellsI L)
theorem iItm {w : World} {v : Value} {L : List Itm} {z : Int} {j : Nat} {k : IntKind} {K : Value → Prop} (hs : SlIt w v L) (hz : z = (j : Int)) (hj : j < L.length) (h : K (gt L j).val) : xIa 3 v (.int k z) fun p => xLdA w 3 p K := by
  have h3 := cellsI_at hj
  subst hz
  refine iIaK hs hj fun b o hcell => ?_
  refine ⟨_, _, rfl, rfl, fun i hi => ?_, h⟩
  rw [addr_add, hcell i hi]
  rcases i with _ | _ | _ | i
  · exact h3.1
  · exact h3.2.1
  · exact h3.2.2
  · omega
theorem iNm {w : World} {v : Value} {L : List Itm} {z : Int} {j : Nat} {k : IntKind} {K : Value → Prop} (hs : SlIt w v L) (hz : z = (j : Int)) (hj : j < L.length) (h : K (sv (gt L j).nm)) : xIa 3 v (.int k z) fun p => xFa 0 p fun q => xLd w q K :=
  iFld hs hz hj (by decide) (cellsI_at hj).1 h
theorem iFm {w : World} {v : Value} {L : List Itm} {z : Int} {j : Nat} {k : IntKind} {K : Value → Prop} (hs : SlIt w v L) (hz : z = (j : Int)) (hj : j < L.length) (h : K (sv (gt L j).fm)) : xIa 3 v (.int k z) fun p => xFa 1 p fun q => xLd w q K :=
  iFld hs hz hj (by decide) (cellsI_at hj).2.1 h
/-- A struct of three cells, in a block of its own. -/
theorem iNew3 {w : World} {e : TypeId} {a b c : Value} {K : Value → World → Prop} (h : ∀ q w', q = w.heap.size ∧ w'.heap.size = q + 1 → Ext w w' → Blk e w' q [a, b, c] → K (.pointer (some ⟨q, 0, none⟩)) w') : xNew (Value.cells (.agg #[a, b, c])) e w K :=
  iNew fun q w' h1 h2 h3 => h q w' h1 h2 (by simpa [Value.cells] using h3)
theorem iLd3 {w : World} {e : TypeId} {q : Nat} {a b c : Value} {K : Value → Prop} (hB : Blk e w q [a, b, c]) (h : K (.agg #[a, b, c])) : xLdA w 3 (.pointer (some ⟨q, 0, none⟩)) K := iLdA hB rfl (by simpa using h)
theorem iSt3 {P : Program} {w : World} {e : TypeId} {q : Nat} {cs : List Value} {a b c : Value} {K : World → Prop} (hB : Blk e w q cs) (hl : cs.length = 3) (ha : isCell a = true) (hb : isCell b = true) (hc : isCell c = true)
    (h : ∀ w', Blk e w' q [a, b, c] → Ch (fun d => d = q) w w' → K w') : xStA P w 3 (.pointer (some ⟨q, 0, none⟩)) (.agg #[a, b, c]) K := by
  obtain ⟨w', h1, h2, h3⟩ := storeCells_run (P := P) [a, b, c] 0 w cs hB (by simp [hl]) (fun v hv => by simp at hv; rcases hv with rfl | rfl | rfl <;> assumption)
  refine ⟨_, w', rfl, rfl, ?_, h w' ?_ (h2.ch rfl)⟩
  · simpa [Value.cells] using h1
  · rw [List.take_zero, List.nil_append, List.drop_of_length_le (by simp [hl]), List.append_nil] at h3; exact h3
theorem iStU {w : World} {e : TypeId} {b i : Nat} {cs : List Value} {v : Value} {K : World → Prop} (hB : Blk e w b cs) (hi : i < cs.length) (hv : isCell v = true) (h : ∀ w', Blk e w' b (cs.set i v) → Upd b w w' → K w') : xSt w (.pointer (some ⟨b, i, none⟩)) v K :=
  iStB hB hi hv fun h2 => h _ h2 (Upd.setCell w b i v)
/-! ### What is asked of items -/
end Go.Vc
namespace Go.Proofs.YtapdkkijoflcpaaGreatDoor
open Go.Vc
end Go.Proofs.YtapdkkijoflcpaaGreatDoor

/- Contracts: items asked and searched, rows of texts asked, in the program and the reference. Conditions: none. -/
namespace Go.Vc
theorem cellsI_set2 : ∀ {L : List Itm} {j : Nat} (z : Int), j < L.length → (cellsI L).set (j * 3 + 2) (.int .i64 z) = cellsI (L.set j { gt L j with cl := z })
  | [], _, _, h => by simp at h
  | x :: L, 0, z, _ => rfl
  | x :: L, j + 1, z, h => by
    have := cellsI_set2 (L := L) (j := j) z (by simpa using h)
    rw [show cellsI (x :: L) = x.cs ++ cellsI L by simp [cellsI], List.set_append_right _ _ (by simp [Itm.cs]; omega), show (j + 1) * 3 + 2 - x.cs.length = j * 3 + 2 by simp [Itm.cs]; omega, this]
    rfl
/-- In order by their names. -/
def IncI (L : List Itm) : Prop := ∀ i j, i < j → j < L.length → ltS (gt L i).nm (gt L j).nm = true
def hasI (L : List Itm) (n : Str) : Bool := L.any fun x => decide (x.nm = n)
theorem hasI_at {L : List Itm} {n : Str} {i : Nat} (hi : i < L.length) (h : (gt L i).nm = n) : hasI L n = true := by
  unfold hasI
  rw [List.any_eq_true]
  exact ⟨L[i], List.getElem_mem _, by rw [← gt_eq hi]; exact decide_eq_true h⟩
theorem hasI_no {L : List Itm} {n : Str} (h : ∀ i, i < L.length → ¬ (gt L i).nm = n) : hasI L n = false := by
  unfold hasI
  rw [List.any_eq_false]
  intro x hx
  obtain ⟨i, hi, rfl⟩ := List.getElem_of_mem hx
  rw [← gt_eq hi]
  simpa using h i hi
theorem cmp_iff : ∀ a b : Str, (Lib.compareBytes a b < 0 ↔ ltS a b = true) ∧ (Lib.compareBytes a b = 0 ↔ a = b) ∧ (-1 ≤ Lib.compareBytes a b ∧ Lib.compareBytes a b ≤ 1)
  | [], [] => by simp [Lib.compareBytes, ltS, Op.bytesLess]
  | [], _ :: _ => by simp [Lib.compareBytes, ltS, Op.bytesLess]
  | _ :: _, [] => by simp [Lib.compareBytes, ltS, Op.bytesLess]
  | x :: a, y :: b => by
    have ih := cmp_iff a b
    simp only [Lib.compareBytes, ltS, Op.bytesLess, Bool.or_eq_true, decide_eq_true_eq, Bool.and_eq_true, beq_iff_eq, List.cons.injEq] at ih ⊢
    by_cases h1 : x < y
    · rw [if_pos h1]
      refine ⟨by simp [h1], ?_, by decide⟩
      have : ¬ x = y := fun e => by subst e; exact absurd h1 (UInt8.lt_irrefl _)
      simp [this]
    · rw [if_neg h1]
      by_cases h2 : y < x
      · rw [if_pos h2]
        have : ¬ x = y := fun e => by subst e; exact absurd h2 (UInt8.lt_irrefl _)
        simp [h1, this]
      · rw [if_neg h2]
        have : x = y := by
          rcases Classical.em (x = y) with e | e
          · exact e
          · rcases UInt8.lt_or_lt_of_ne e with h | h
            · exact absurd h h1
            · exact absurd h h2
        subst this
        simp only [h1, false_or, true_and]
        exact ih
end Go.Vc
namespace Go.Proofs.YtapdkkijoflcpaaGreatDoor
open Go.Vc
theorem ok_strings_Compare (a b : Str) (w : World) : Ret Tryz.prog f_strings_Compare #[sv a, sv b] w (.int .i64 (Lib.compareBytes a b)) := by
  apply c_strings_Compare; unfold S_strings_Compare
  refine iRet (v := .int .i64 (Lib.compareBytes a b)) ?_ fun w1 h1 => ⟨by first | trivial | rfl, h1⟩
  refine ⟨⟨_, Tryz.func127, by kernel_rfl, by kernel_rfl⟩, ?_⟩
  refine (Any.bytealg_CompareString lays213 ⟨a.toArray⟩ ⟨b.toArray⟩ w).mono ?_
  rintro e w' ⟨rfl, rfl⟩
  exact ⟨_, rfl, rfl, Ext.refl _⟩
theorem ok_impl_itemAt_1 (x : Itm) (n : Str) (w : World) : Ret Tryz.prog f_impl_itemAt_1 #[x.val, sv n] w (.int .i64 (Lib.compareBytes x.nm n)) := by
  apply c_impl_itemAt_1; unfold S_impl_itemAt_1
  refine iNew3 fun q w1 hq h1 hB => ?_
  refine iFa ?_
  refine iLdB hB rfl ?_
  exact iRet (ok_strings_Compare _ _ w1) fun w2 h2 => ⟨by first | trivial | rfl, h1.trans h2⟩
/-- What a search for a name answers: a place, and whether it is there. -/
def Found (L : List Itm) (n : Str) (i : Nat) (y : Bool) : Prop := (i ≤ L.length ∧ (IncI L → (∀ k, k < i → ltS (gt L k).nm n = true) ∧ (i < L.length → ltS (gt L i).nm n = false))) ∧ (y = true → i < L.length ∧ (gt L i).nm = n) ∧ (IncI L → y = hasI L n)
theorem ok_BinarySearch {v : Value} {L : List Itm} {n : Str} {w : World} (hs : SlIt w v L) (hL : L.length ≤ 1099511627776) : Cal Tryz.prog f_slices_BinarySearchFunc_Simpl_Item_impl_Item_string #[v, sv n, .func (.func f_impl_itemAt_1) #[] #[]] w fun r w' => Ext w w' ∧ ∃ i : Nat, ∃ y : Bool, r = .tuple #[.int .i64 (i : Int), .bool y] ∧ Found L n i y := by
  apply c_slices_BinarySearchFunc_Simpl_Item_impl_Item_string; unfold S_slices_BinarySearchFunc_Simpl_Item_impl_Item_string
  refine iLenK hs ?_
  refine iLp (fun s : Nat × Nat => [.int .i64 (s.1 : Int), .int .i64 (s.2 : Int)]) (fun s w' => s.1 ≤ s.2 ∧ s.2 ≤ L.length ∧ Ext w w' ∧ (IncI L → (∀ k, k < s.1 → ltS (gt L k).nm n = true) ∧ ∀ k, s.2 ≤ k → k < L.length → ltS (gt L k).nm n = false)) (fun s => s.2 - s.1) (0, L.length) rfl ⟨Nat.zero_le _, Nat.le_refl _, Ext.refl _, fun _ => ⟨fun k hk => absurd hk (Nat.not_lt_zero k), fun k h1 h2 => absurd h2 (Nat.not_lt.2 h1)⟩⟩ ?_
  rintro ⟨lo, hi⟩ w2 Kn ⟨hlh, hhi, h2, hinv⟩ hKn
  have hlh : lo ≤ hi := hlh
  have hhi : hi ≤ L.length := hhi
  have hinv : IncI L → (∀ k, k < lo → ltS (gt L k).nm n = true) ∧ ∀ k, hi ≤ k → k < L.length → ltS (gt L k).nm n = false := hinv
  have hs2 := hs.ext h2
  intro _
  simp only [gx]
  refine iLt ?_
  refine iCndP (fun h => ?_) (fun h => ?_)
  · refine iAdd (by omega) ?_
    refine iConvU (by omega) ?_
    rw [show (lo : Int) + hi = ((lo + hi : Nat) : Int) by omega]
    refine iShrUT (j := 1) (by omega) ?_
    refine iConv64 (by omega) ?_
    have hm1 : lo ≤ (lo + hi) / 2 ^ 1 := by omega
    have hm2 : (lo + hi) / 2 ^ 1 < hi := by omega
    generalize (lo + hi) / 2 ^ 1 = m at hm1 hm2
    refine iItm hs2 rfl (by omega) ?_
    refine iRet (ok_impl_itemAt_1 _ _ w2) fun w3 h23 => ?_
    refine iLt ?_
    have hc := cmp_iff (gt L m).nm n
    refine iCndP (fun h3 => ?_) (fun h3 => ?_)
    · refine iAdd (by omega) ?_
      refine hKn (m + 1, hi) _ ⟨by show m + 1 ≤ hi; omega, hhi, h2.trans h23, fun hI => ⟨fun k hk => ?_, (hinv hI).2⟩⟩ (by show hi - (m + 1) < hi - lo; omega)
      have hk : k < m + 1 := hk
      by_cases hkm : k = m
      · subst hkm; exact hc.1.1 h3
      · exact ltS_trans (hI k m (by omega) (by omega)) (hc.1.1 h3)
    · have hnl : ltS (gt L m).nm n = false := by
        rw [Bool.eq_false_iff]; intro e; exact h3 (hc.1.2 e)
      refine hKn (lo, m) _ ⟨hm1, by show m ≤ L.length; omega, h2.trans h23, fun hI => ⟨(hinv hI).1, fun k hk hkl => ?_⟩⟩ (by show m - lo < hi - lo; omega)
      have hk : m ≤ k := hk
      by_cases hkm : k = m
      · subst hkm; exact hnl
      · exact ordrS.tr hnl (ltS_asymm (hI m k (by omega) hkl))
  · have hle : lo = hi := by omega
    subst hle
    refine iJnX (fun xs w' => Ext w2 w' ∧ ∃ y : Bool, xs = [.int .i64 (lo : Int), .bool y] ∧ y = (decide (lo < L.length) && decide ((gt L lo).nm = n))) (fun J hJ => ?_) ?_
    · refine iLt ?_
      refine iCndP (fun h3 => ?_) (fun h3 => ?_)
      · refine iItm hs2 rfl (by omega) ?_
        refine iRet (ok_impl_itemAt_1 _ _ w2) fun w3 h23 => ?_
        refine iEq ?_
        refine hJ _ _ ⟨h23, _, rfl, ?_⟩
        rw [decide_eq_true (show lo < L.length by omega), Bool.true_and]
        exact decide_eq_decide.2 (cmp_iff (gt L lo).nm n).2.1
      · exact hJ _ _ ⟨Ext.refl _, false, rfl, by rw [decide_eq_false (show ¬ lo < L.length by omega), Bool.false_and]⟩
    · rintro xs w5 ⟨h5, y, rfl, hy⟩
      intro _
      refine ⟨h2.trans h5, lo, y, rfl, ⟨hhi, fun hI => ⟨(hinv hI).1, fun hl => (hinv hI).2 lo (Nat.le_refl _) hl⟩⟩, fun e => ?_, fun hI => ?_⟩
      · rw [e] at hy
        have := hy.symm
        rw [Bool.and_eq_true, decide_eq_true_eq, decide_eq_true_eq] at this
        exact this
      · obtain ⟨g1, g2⟩ := hinv hI
        rw [hy]
        rcases Nat.lt_or_ge lo L.length with h3 | h3
        · rw [decide_eq_true h3, Bool.true_and]
          by_cases h4 : (gt L lo).nm = n
          · rw [decide_eq_true h4, hasI_at h3 h4]
          · rw [decide_eq_false h4, hasI_no fun i hi e => ?_]
            rcases Nat.lt_trichotomy i lo with h5 | h5 | h5
            · have := g1 i h5; rw [e, ltS_irrefl] at this; cases this
            · subst h5; exact h4 e
            · have k1 := g2 lo (Nat.le_refl _) h3
              have k2 := hI lo i h5 hi
              rw [e] at k2; rw [k1] at k2; cases k2
        · rw [decide_eq_false (Nat.not_lt.2 h3), Bool.false_and, hasI_no fun i hi e => ?_]
          have := g1 i (by omega); rw [e, ltS_irrefl] at this; cases this
theorem ok_impl_itemAt {v : Value} {L : List Itm} {n : Str} {w : World} (hs : SlIt w v L) (hL : L.length ≤ 1099511627776) : Cal Tryz.prog f_impl_itemAt #[v, sv n] w fun r w' => Ext w w' ∧ ∃ i : Nat, ∃ y : Bool, r = .tuple #[.int .i64 (i : Int), .bool y] ∧ Found L n i y := by
  apply c_impl_itemAt; unfold S_impl_itemAt
  refine iCall ((ok_BinarySearch hs hL).mono ?_)
  rintro r w1 ⟨h1, i, y, rfl, hf⟩
  refine iE20 ?_
  refine iE21 ?_
  exact ⟨h1, i, y, rfl, hf⟩
end Go.Proofs.YtapdkkijoflcpaaGreatDoor

/- Contracts of the laws' own functions on lists of int64 and on frames. Conditions: none. -/
namespace Go.Proofs.YtapdkkijoflcpaaGreatDoor
open Go.Vc


end Go.Proofs.YtapdkkijoflcpaaGreatDoor

/- Contracts: texts that use a name (Users), in the program and the reference; the law on it. Conditions: none. -/
namespace Go.Vc
theorem iIaG {w : World} {v : Value} {L : List Str} {z : Int} {j : Nat} {k : IntKind} {K : Value → Prop} (hs : SlT w v L) (hz : z = (j : Int)) (hj : j < L.length) (h : K (sv (gt L j))) : xIa 1 v (.int k z) fun p => xLd w p K := by
  subst hz
  exact iIaT hs hj fun p hp => iLd hp (by rw [← gt_eq hj]; exact h)
end Go.Vc
namespace Go.Proofs.YtapdkkijoflcpaaGreatDoor
open Go.Vc
theorem ok_slices_ContainsT {v : Value} {L : List Str} {t : Str} {w : World} (hs : SlT w v L) : Ret Tryz.prog f_slices_Contains_Sstring_string #[v, sv t] w (.bool (decide (t ∈ L))) := by
  apply c_slices_Contains_Sstring_string; unfold S_slices_Contains_Sstring_string
  have hln := hs.len
  rw [strs_len] at hln
  refine iCall (Cal.mono (R := fun r w' => Ext w w' ∧ ∃ z : Int, r = .int .i64 z ∧ (decide (0 ≤ z) = decide (t ∈ L))) ?_ ?_)
  · apply c_slices_Index_Sstring_string; unfold S_slices_Index_Sstring_string
    refine iLenStr hs ?_
    refine iLp (fun i : Nat => [.int .i64 (i : Int)]) (fun i w' => i ≤ L.length ∧ Ext w w' ∧ ∀ j, j < i → ¬ t = gt L j) (fun i => L.length - i) 0 rfl ⟨Nat.zero_le _, Ext.refl _, fun j hj => by omega⟩ ?_
    rintro i w2 Kn ⟨hi, h2, hno⟩ hKn
    intro _
    simp only [gx]
    refine iLt ?_
    refine iCndP (fun h => ?_) (fun h => ?_)
    · refine iIaG (hs.ext h2) rfl (by omega) ?_
      refine iEqT ?_
      refine iCndP (fun h3 => ?_) (fun h3 => ?_)
      · refine ⟨h2, _, rfl, ?_⟩
        rw [decide_eq_true (show t ∈ L by rw [h3, gt_eq (show i < L.length by omega)]; exact List.getElem_mem _)]
        simp
      · refine iAdd (by omega) ?_
        refine hKn (i + 1) _ ⟨by omega, h2, fun j hj => ?_⟩ (by omega)
        by_cases hji : j = i
        · subst hji; exact h3
        · exact hno j (by omega)
    · refine ⟨h2, -1, rfl, ?_⟩
      rw [decide_eq_false (show ¬ t ∈ L from fun hm => by
        obtain ⟨j, hj, e⟩ := List.getElem_of_mem hm
        exact hno j (by omega) (by rw [gt_eq hj]; exact e.symm))]
      rfl
  · rintro r w1 ⟨h1, z, rfl, hz⟩
    refine iLe ?_
    rw [hz]
    exact ⟨by first | trivial | rfl, h1⟩
theorem ok_spec_l35Place {v : Value} {L : List Itm} {n : Str} {w : World} (hs : SlIt w v L) : Cal Tryz.prog f_spec_l35Place #[v, sv n] w fun r w' => Ext w w' ∧ ∃ i : Nat, ∃ y : Bool, r = .tuple #[.int .i64 (i : Int), .bool y] ∧ Found L n i y := by
  apply c_spec_l35Place; unfold S_spec_l35Place
  have hln := hs.len
  refine iLp (fun i : Nat => [.int .i64 (i : Int)]) (fun i w' => i ≤ L.length ∧ Ext w w' ∧ ∀ j, j < i → ltS (gt L j).nm n = true) (fun i => L.length - i) 0 rfl ⟨Nat.zero_le _, Ext.refl _, fun j hj => by omega⟩ ?_
  rintro i w2 Kn ⟨hi, h2, hlt⟩ hKn
  have hs2 := hs.ext h2
  intro _
  simp only [gx]
  refine iJnB (decide (i < L.length) && ltS (gt L i).nm n) w2 (fun J hJ => ?_) (fun w4 h4 => ?_)
  · refine iLenK hs2 ?_
    refine iLt ?_
    refine iCndP (fun h => ?_) (fun h => ?_)
    · rw [decide_eq_true (show i < L.length by omega), Bool.true_and] at hJ
      refine iNm hs2 rfl (by omega) ?_
      exact iLtT (hJ _ (Ext.refl _))
    · rw [decide_eq_false (show ¬ i < L.length by omega), Bool.false_and] at hJ
      exact hJ _ (Ext.refl _)
  intro _
  simp only [gx]
  have hs4 := hs2.ext h4
  have h4' := h2.trans h4
  cases hc : decide (i < L.length) && ltS (gt L i).nm n
  rotate_left
  · rw [Bool.and_eq_true, decide_eq_true_eq] at hc
    refine iCndT rfl ?_
    refine iAdd (by omega) ?_
    refine hKn (i + 1) _ ⟨by omega, h4', fun j hj => ?_⟩ (by omega)
    by_cases hji : j = i
    · subst hji; exact hc.2
    · exact hlt j (by omega)
  refine iCndF rfl ?_
  refine iJnX (fun xs w' => Ext w4 w' ∧ ∃ y : Bool, xs = [.int .i64 (i : Int), .bool y] ∧ y = (decide (i < L.length) && decide ((gt L i).nm = n))) (fun J hJ => ?_) ?_
  · refine iLenK hs4 ?_
    refine iLt ?_
    refine iCndP (fun h3 => ?_) (fun h3 => ?_)
    · refine iNm hs4 rfl (by omega) ?_
      refine iEqT ?_
      exact fun w7 h7 => hJ _ _ ⟨h7, _, rfl, by rw [decide_eq_true (show i < L.length by omega), Bool.true_and]⟩
    · exact fun w8 h8 => hJ _ _ ⟨h8, false, rfl, by rw [decide_eq_false (show ¬ i < L.length by omega), Bool.false_and]⟩
  · rintro xs w6 ⟨h6, y, rfl, hy⟩
    intro _
    refine ⟨h4'.trans h6, i, y, rfl, ⟨hi, fun _ => ⟨hlt, fun hl => by rw [decide_eq_true hl, Bool.true_and] at hc; exact hc⟩⟩, fun e => ?_, fun hI => ?_⟩
    · rw [e] at hy
      have := hy.symm
      rw [Bool.and_eq_true, decide_eq_true_eq, decide_eq_true_eq] at this
      exact this
    · rw [hy]
      rcases Nat.lt_or_ge i L.length with h3 | h3
      · rw [decide_eq_true h3, Bool.true_and] at hc ⊢
        by_cases h5 : (gt L i).nm = n
        · rw [decide_eq_true h5, hasI_at h3 h5]
        · rw [decide_eq_false h5, hasI_no fun j hj e => ?_]
          rcases Nat.lt_trichotomy j i with h7 | h7 | h7
          · have := hlt j h7; rw [e, ltS_irrefl] at this; cases this
          · subst h7; exact h5 e
          · have k2 := hI i j h7 hj
            rw [e] at k2; rw [hc] at k2; cases k2
      · rw [decide_eq_false (Nat.not_lt.2 h3), Bool.false_and, hasI_no fun j hj e => ?_]
        have := hlt j (by omega); rw [e, ltS_irrefl] at this; cases this
end Go.Proofs.YtapdkkijoflcpaaGreatDoor

/- Plain maths: a text reads on when '(p)' in it is replaced by the text of a formula in parentheses. No program in sight. Conditions: none. -/
namespace Go.Vc
end Go.Vc

/- Contracts: expressions with their references replaced by items' formulas, in the program and the reference. Conditions: none. -/
namespace Go.Vc
theorem hasI_ex {L : List Itm} {n : Str} (h : hasI L n = true) : ∃ i, i < L.length ∧ (gt L i).nm = n := by
  unfold hasI at h
  obtain ⟨x, hx, hn⟩ := List.any_eq_true.1 h
  obtain ⟨i, hi, rfl⟩ := List.getElem_of_mem hx
  exact ⟨i, hi, by rw [gt_eq hi]; exact of_decide_eq_true hn⟩
end Go.Vc
namespace Go.Proofs.YtapdkkijoflcpaaGreatDoor
open Go.Vc
abbrev ItW (lo : Nat) (w : World) (v : Value) (L : List Itm) : Prop := OwK 3 lo 38 w v L.length (cellsI L)
theorem ok_impl_treeOf {t : Str} (ht : t.length ≤ 4194304) (w : World) : Cal Tryz.prog f_impl_treeOf #[sv t] w fun v w' => Ext w w' ∧ FmW w.heap.size w' v (rd t).1 := by
  apply c_impl_treeOf; unfold S_impl_treeOf
  refine iBuild (cs := #[sv t, .int .i64 0, .bool false]) (by simp [Instr.fill, Value.cells]) ?_
  refine iNew fun b w1 hb h1 hB => ?_
  refine iCall ((ok_impl_reader_imply ht (RdS.new hB)).mono ?_)
  rintro v w2 ⟨_, hc2, hv2⟩
  rw [← rd_rdL] at hv2
  exact ⟨h1.thenCh hc2 fun c hc => by omega, hv2.mono h1.size⟩
/-- A row of formulas. -/
def FmsS (w : World) (vs : List Value) (fs : List Fm) : Prop := vs.length = fs.length ∧ ∀ i, i < fs.length → ∃ v, vs[i]? = some v ∧ FmS w v (fs.getD i .fls)
theorem FmsS.ext {w w' : World} {vs : List Value} {fs : List Fm} (h : FmsS w vs fs) (x : Ext w w') : FmsS w' vs fs := ⟨h.1, fun i hi => by obtain ⟨v, h1, h2⟩ := h.2 i hi; exact ⟨v, h1, h2.ext x⟩⟩
end Go.Proofs.YtapdkkijoflcpaaGreatDoor

/- Plain maths: what holds in all intuitionistic models; two contraction-free searches decide it. No program in sight. Conditions: none. -/
namespace Go.Vc
/-- Without the modal signs. -/
def Fm.plain : Fm → Bool
  | .var _ => true
  | .fls => true
  | .and a b => a.plain && b.plain
  | .or a b => a.plain && b.plain
  | .imp a b => a.plain && b.plain
  | .box _ => false
  | .dia _ => false
/-! ### Models -/
structure KM where
  W : Type
  le : W → W → Prop
  refl : ∀ w, le w w
  trans : ∀ a b c, le a b → le b c → le a c
  v : W → Nat → Prop
  mono : ∀ a b p, le a b → v a p → v b p
def KM.f (M : KM) : Fm → M.W → Prop
  | .var p, w => M.v w p
  | .fls, _ => False
  | .and a b, w => M.f a w ∧ M.f b w
  | .or a b, w => M.f a w ∨ M.f b w
  | .imp a b, w => ∀ u, M.le w u → M.f a u → M.f b u
  | .box _, _ => True
  | .dia _, _ => True
theorem KM.up (M : KM) : ∀ (a : Fm) (w u : M.W), M.le w u → M.f a w → M.f a u
  | .var p, _, _, h, k => M.mono _ _ p h k
  | .fls, _, _, _, k => k
  | .and a b, w, u, h, k => ⟨M.up a w u h k.1, M.up b w u h k.2⟩
  | .or a b, w, u, h, k => k.imp (M.up a w u h) (M.up b w u h)
  | .imp _ _, _, _, h, k => fun x hx => k x (M.trans _ _ _ h hx)
  | .box _, _, _, _, _ => trivial
  | .dia _, _, _, _, _ => trivial
abbrev KM.fs (M : KM) (G : List Fm) (w : M.W) : Prop := ∀ a ∈ G, M.f a w
def Vld (G : List Fm) (c : Fm) : Prop := ∀ (M : KM) (w : M.W), M.fs G w → M.f c w
theorem Vld.congr {G G' : List Fm} {c : Fm} (h : ∀ (M : KM) (w : M.W), M.fs G w ↔ M.fs G' w) : Vld G c ↔ Vld G' c :=
  ⟨fun k M w hw => k M w ((h M w).2 hw), fun k M w hw => k M w ((h M w).1 hw)⟩
theorem Vld.two {G G1 G2 : List Fm} {c : Fm} (h : ∀ (M : KM) (w : M.W), M.fs G w ↔ M.fs G1 w ∨ M.fs G2 w) : Vld G c ↔ Vld G1 c ∧ Vld G2 c :=
  ⟨fun k => ⟨fun M w hw => k M w ((h M w).2 (.inl hw)), fun M w hw => k M w ((h M w).2 (.inr hw))⟩, fun k M w hw => ((h M w).1 hw).elim (k.1 M w) (k.2 M w)⟩
theorem fs_split (M : KM) (w : M.W) {G rest : List Fm} {a : Fm} (hG : ∀ x, x ∈ G ↔ x = a ∨ x ∈ rest) : M.fs G w ↔ M.f a w ∧ M.fs rest w :=
  ⟨fun h => ⟨h a ((hG a).2 (.inl rfl)), fun x hx => h x ((hG x).2 (.inr hx))⟩, fun h x hx => ((hG x).1 hx).elim (fun e => e ▸ h.1) (h.2 x)⟩
/-! ### What the rules for the left side do -/
theorem f_and {M : KM} {w : M.W} (a b : Fm) : M.f (.and a b) w ↔ M.f a w ∧ M.f b w := Iff.rfl
theorem f_or {M : KM} {w : M.W} (a b : Fm) : M.f (.or a b) w ↔ M.f a w ∨ M.f b w := Iff.rfl
theorem f_imp_and {M : KM} {w : M.W} (a b c : Fm) : M.f (.imp (.and a b) c) w ↔ M.f (.imp a (.imp b c)) w :=
  ⟨fun h u hu ha x hx hb => h x (M.trans _ _ _ hu hx) ⟨M.up a u x hx ha, hb⟩, fun h u hu hab => h u hu hab.1 u (M.refl u) hab.2⟩
theorem f_imp_or {M : KM} {w : M.W} (a b c : Fm) : M.f (.imp (.or a b) c) w ↔ M.f (.imp a c) w ∧ M.f (.imp b c) w :=
  ⟨fun h => ⟨fun u hu ha => h u hu (.inl ha), fun u hu hb => h u hu (.inr hb)⟩, fun h u hu hab => hab.elim (h.1 u hu) (h.2 u hu)⟩
theorem f_imp_fls {M : KM} {w : M.W} (b : Fm) : M.f (.imp .fls b) w := fun _ _ h => h.elim
theorem f_imp_mp {M : KM} {w : M.W} {a b : Fm} (h : M.f a w) : M.f (.imp a b) w ↔ M.f b w :=
  ⟨fun k => k w (M.refl w) h, fun k u hu _ => M.up b w u hu k⟩
theorem f_imp_right {M : KM} {w : M.W} {a b : Fm} (h : M.f b w) : M.f (.imp a b) w := fun u hu _ => M.up b w u hu h
/-- The right side. -/
theorem Vld.and {G : List Fm} {a b : Fm} : Vld G (.and a b) ↔ Vld G a ∧ Vld G b :=
  ⟨fun h => ⟨fun M w hw => (h M w hw).1, fun M w hw => (h M w hw).2⟩, fun h M w hw => ⟨h.1 M w hw, h.2 M w hw⟩⟩
theorem Vld.imp {G G' : List Fm} {a b : Fm} (hG : ∀ x, x ∈ G' ↔ x = a ∨ x ∈ G) : Vld G (.imp a b) ↔ Vld G' b := by
  constructor
  · intro h M w hw
    have h1 := (fs_split M w hG).1 hw
    exact h M w h1.2 w (M.refl w) h1.1
  · intro h M w hw u hu ha
    exact h M u ((fs_split M u hG).2 ⟨ha, fun x hx => M.up x w u hu (hw x hx)⟩)
/-! ### A model of many, with a root below -/
section
variable {ι : Type} (M : ι → KM) (r : (i : ι) → (M i).W) (at0 : Nat → Prop) (hat : ∀ i p, at0 p → (M i).v (r i) p)
/-- The worlds: a root, and those of all models; the root lies below the chosen worlds. -/
def glue : KM where
  W := Option ((i : ι) × (M i).W)
  le := fun a b => (a = none ∧ (b = none ∨ ∃ i y, b = some ⟨i, y⟩ ∧ (M i).le (r i) y)) ∨ ∃ i x y, a = some ⟨i, x⟩ ∧ b = some ⟨i, y⟩ ∧ (M i).le x y
  refl := fun w => by
    cases w with
    | none => exact .inl ⟨rfl, .inl rfl⟩
    | some p => exact .inr ⟨p.1, p.2, p.2, rfl, rfl, (M p.1).refl _⟩
  trans := fun a b c h k => by
    rcases h with ⟨rfl, h⟩ | ⟨i, x, y, rfl, rfl, h⟩
    · rcases h with rfl | ⟨i, y, rfl, h⟩
      · exact k
      · rcases k with ⟨k, _⟩ | ⟨j, x', y', e, rfl, k⟩
        · cases k
        · injection e with e
          injection e with e1 e2
          subst e1
          have e2 := eq_of_heq e2
          subst e2
          exact .inl ⟨rfl, .inr ⟨i, y', rfl, (M i).trans _ _ _ h k⟩⟩
    · rcases k with ⟨k, _⟩ | ⟨j, x', y', e, rfl, k⟩
      · cases k
      · injection e with e
        injection e with e1 e2
        subst e1
        have e2 := eq_of_heq e2
        subst e2
        exact .inr ⟨i, x, y', rfl, rfl, (M i).trans _ _ _ h k⟩
  v := fun w p => match w with
    | none => at0 p
    | some ⟨i, x⟩ => (M i).v x p
  mono := fun a b p h k => by
    rcases h with ⟨rfl, h⟩ | ⟨i, x, y, rfl, rfl, h⟩
    · rcases h with rfl | ⟨i, y, rfl, h⟩
      · exact k
      · exact (M i).mono _ _ p h (hat i p k)
    · exact (M i).mono _ _ p h k
theorem glue_f : ∀ (a : Fm) (i : ι) (x : (M i).W), (glue M r at0 hat).f a (some ⟨i, x⟩) ↔ (M i).f a x
  | .var _, _, _ => Iff.rfl
  | .fls, _, _ => Iff.rfl
  | .and a b, i, x => and_congr (glue_f a i x) (glue_f b i x)
  | .or a b, i, x => or_congr (glue_f a i x) (glue_f b i x)
  | .imp a b, i, x => by
    constructor
    · intro h u hu ha
      exact (glue_f b i u).1 (h (some ⟨i, u⟩) (.inr ⟨i, x, u, rfl, rfl, hu⟩) ((glue_f a i u).2 ha))
    · intro h u hu ha
      rcases hu with ⟨e, _⟩ | ⟨j, x', y, e, rfl, hu⟩
      · cases e
      · injection e with e
        injection e with e1 e2
        subst e1
        have e2 := eq_of_heq e2
        subst e2
        exact (glue_f b i y).2 (h y hu ((glue_f a i y).1 ha))
  | .box _, _, _ => Iff.rfl
  | .dia _, _, _ => Iff.rfl
/-- What the root does not force is not forced where a chosen world does not. -/
theorem glue_root {a : Fm} {i : ι} (h : ¬ (M i).f a (r i)) : ¬ (glue M r at0 hat).f a none := fun k =>
  h ((glue_f M r at0 hat a i (r i)).1 ((glue M r at0 hat).up a none _ (.inl ⟨rfl, .inr ⟨i, r i, rfl, (M i).refl _⟩⟩) k))
end
theorem not_vld {G : List Fm} {c : Fm} (h : ¬ Vld G c) : ∃ p : (M : KM) × M.W, p.1.fs G p.2 ∧ ¬ p.1.f c p.2 := by
  apply Classical.byContradiction
  intro k
  exact h fun M w hw => Classical.byContradiction fun hc => k ⟨⟨M, w⟩, hw, hc⟩
/-- A sequent in which no rule that loses nothing can be used, and no other one helps, does not hold. -/
theorem stuck {G : List Fm} {c : Fm} (hs : ∀ a ∈ G, (∃ p, a = .var p) ∨ ∃ x y, a = .imp x y ∧ ((∃ p, x = .var p ∧ Fm.var p ∉ G) ∨ ¬ Vld G x))
    (hc : (∃ p, c = .var p ∧ c ∉ G) ∨ c = .fls ∨ ∃ a b, c = .or a b ∧ ¬ Vld G a ∧ ¬ Vld G b) : ¬ Vld G c := by
  let ι := { x : Fm // ¬ Vld G x }
  let pm : ι → (M : KM) × M.W := fun i => Classical.choose (not_vld i.2)
  have hpm : ∀ i : ι, (pm i).1.fs G (pm i).2 ∧ ¬ (pm i).1.f i.1 (pm i).2 := fun i => Classical.choose_spec (not_vld i.2)
  let at0 : Nat → Prop := fun p => Fm.var p ∈ G
  have hat : ∀ (i : ι) (p : Nat), at0 p → (pm i).1.v (pm i).2 p := fun i p hp => (hpm i).1 _ hp
  let N := glue (fun i => (pm i).1) (fun i => (pm i).2) at0 hat
  have hno : ∀ x, ¬ Vld G x → ¬ N.f x none := fun x hx => glue_root (fun i => (pm i).1) (fun i => (pm i).2) at0 hat (i := ⟨x, hx⟩) (hpm ⟨x, hx⟩).2
  have hroot : N.fs G none := by
    intro a ha
    rcases hs a ha with ⟨p, rfl⟩ | ⟨x, y, rfl, hx⟩
    · exact ha
    · have hxn : ¬ N.f x none := by
        rcases hx with ⟨p, rfl, hp⟩ | hx
        · exact hp
        · exact hno x hx
      intro u hu hxu
      rcases hu with ⟨_, hu⟩ | ⟨i, x', y', e, _⟩
      · rcases hu with rfl | ⟨i, z, rfl, hz⟩
        · exact absurd hxu hxn
        · refine (glue_f (fun i => (pm i).1) (fun i => (pm i).2) at0 hat y i z).2 ?_
          exact (hpm i).1 _ ha z hz ((glue_f (fun i => (pm i).1) (fun i => (pm i).2) at0 hat x i z).1 hxu)
      · cases e
  intro hv
  have h1 := hv N none hroot
  rcases hc with ⟨p, rfl, hp⟩ | rfl | ⟨a, b, rfl, ha, hb⟩
  · exact hp h1
  · exact h1
  · exact h1.elim (hno a ha) (hno b hb)
/-! ### The rule for (x > y) > z on the left side -/
section
variable {G rest : List Fm} {x y z c : Fm} (hG : ∀ a, a ∈ G ↔ a = .imp (.imp x y) z ∨ a ∈ rest)
 include hG
theorem nest_fs {M : KM} {w : M.W} (h : M.fs rest w) (hyz : M.f (.imp y z) w) (hx : M.f x w) : M.fs G w :=
  (fs_split M w hG).2 ⟨fun u hu hxy => hyz u hu (hxy u (M.refl u) (M.up x w u hu hx)), h⟩
theorem nest_back {M : KM} {w : M.W} (h : M.fs G w) : M.fs rest w ∧ M.f (.imp y z) w := by
  obtain ⟨h1, h2⟩ := (fs_split M w hG).1 h
  exact ⟨h2, fun u hu hy => h1 u hu (f_imp_right hy)⟩
/-- The first premise, in both forms. -/
theorem nest_one {G1 : List Fm} (h1 : ∀ a, a ∈ G1 ↔ a = .imp y z ∨ a ∈ rest) : Vld G1 (.imp x y) ↔ Vld G (.imp x y) := by
  constructor
  · intro h M w hw
    have := nest_back hG hw
    exact h M w ((fs_split M w h1).2 ⟨this.2, this.1⟩)
  · intro h M w hw u hu hx
    have h2 := (fs_split M w h1).1 hw
    exact h M u (nest_fs hG (fun a ha => M.up a w u hu (h2.2 a ha)) (M.up _ w u hu h2.1) hx) u (M.refl u) hx
theorem nest_two {G2 : List Fm} (h2 : ∀ a, a ∈ G2 ↔ a = .imp y z ∨ a = x ∨ a ∈ rest) : Vld G2 y ↔ Vld G (.imp x y) := by
  rw [← nest_one hG (G1 := .imp y z :: rest) (fun a => by simp)]
  exact (Vld.imp (fun a => by rw [h2 a, List.mem_cons]; exact or_left_comm)).symm
/-- The second premise, if the first one holds. -/
theorem nest_three {G3 : List Fm} (h3 : ∀ a, a ∈ G3 ↔ a = z ∨ a ∈ rest) (h : Vld G (.imp x y)) : Vld G3 c ↔ Vld G c := by
  constructor
  · intro k M w hw
    have h1 := (fs_split M w hG).1 hw
    exact k M w ((fs_split M w h3).2 ⟨(f_imp_mp (h M w hw)).1 h1.1, h1.2⟩)
  · intro k M w hw
    have h1 := (fs_split M w h3).1 hw
    exact k M w ((fs_split M w hG).2 ⟨f_imp_right h1.1, h1.2⟩)
end
/-! ### The other rules for the left side -/
section
variable {G rest : List Fm} {a b x y c : Fm}
theorem l_drop {M : KM} {w : M.W} (hG : ∀ u, u ∈ G ↔ u = a ∨ u ∈ rest) (h : M.fs rest w → M.f a w) : M.fs G w ↔ M.fs rest w := by
  rw [fs_split M w hG]; exact ⟨fun h => h.2, fun k => ⟨h k, k⟩⟩
theorem r_useless_or (hG : ∀ u, u ∈ G ↔ u = .or a b ∨ u ∈ rest) (h : a ∈ rest ∨ b ∈ rest) : Vld rest c ↔ Vld G c :=
  (Vld.congr fun _ _ => l_drop hG fun k => h.imp (k a) (k b)).symm
theorem r_useless_fls (hG : ∀ u, u ∈ G ↔ u = .imp .fls b ∨ u ∈ rest) : Vld rest c ↔ Vld G c :=
  (Vld.congr fun _ _ => l_drop hG fun _ => f_imp_fls b).symm
theorem r_useless_imp (hG : ∀ u, u ∈ G ↔ u = .imp a b ∨ u ∈ rest) (h : b ∈ rest) : Vld rest c ↔ Vld G c :=
  (Vld.congr fun _ _ => l_drop hG fun k => f_imp_right (k b h)).symm
theorem r_and {G1 : List Fm} (hG : ∀ u, u ∈ G ↔ u = .and a b ∨ u ∈ rest) (h1 : ∀ u, u ∈ G1 ↔ u = a ∨ u = b ∨ u ∈ rest) : Vld G1 c ↔ Vld G c := by
  refine Vld.congr fun M w => ?_
  rw [fs_split M w hG, fs_split M w (rest := b :: rest) (a := a) (fun u => by rw [h1 u, List.mem_cons]), fs_split M w (G := b :: rest) (a := b) (fun u => List.mem_cons), f_and, and_assoc]
theorem r_or {G1 G2 : List Fm} (hG : ∀ u, u ∈ G ↔ u = .or a b ∨ u ∈ rest) (h1 : ∀ u, u ∈ G1 ↔ u = a ∨ u ∈ rest) (h2 : ∀ u, u ∈ G2 ↔ u = b ∨ u ∈ rest) : Vld G c ↔ Vld G1 c ∧ Vld G2 c := by
  refine Vld.two fun M w => ?_
  rw [fs_split M w hG, fs_split M w h1, fs_split M w h2, f_or]
  exact or_and_right
theorem r_imp_and {G1 : List Fm} (hG : ∀ u, u ∈ G ↔ u = .imp (.and a b) y ∨ u ∈ rest) (h1 : ∀ u, u ∈ G1 ↔ u = .imp a (.imp b y) ∨ u ∈ rest) : Vld G1 c ↔ Vld G c := by
  refine Vld.congr fun M w => ?_
  rw [fs_split M w hG, fs_split M w h1, f_imp_and]
theorem r_imp_or {G1 : List Fm} (hG : ∀ u, u ∈ G ↔ u = .imp (.or a b) y ∨ u ∈ rest) (h1 : ∀ u, u ∈ G1 ↔ u = .imp a y ∨ u = .imp b y ∨ u ∈ rest) : Vld G1 c ↔ Vld G c := by
  refine Vld.congr fun M w => ?_
  rw [fs_split M w hG, fs_split M w (rest := .imp b y :: rest) (a := .imp a y) (fun u => by rw [h1 u, List.mem_cons]), fs_split M w (G := .imp b y :: rest) (a := .imp b y) (fun u => List.mem_cons), f_imp_or, and_assoc]
theorem r_imp_mp {G1 : List Fm} (hG : ∀ u, u ∈ G ↔ u = .imp x y ∨ u ∈ rest) (h1 : ∀ u, u ∈ G1 ↔ u = y ∨ u ∈ rest) (hx : x ∈ rest) : Vld G1 c ↔ Vld G c := by
  refine Vld.congr fun M w => ?_
  rw [fs_split M w hG, fs_split M w h1]
  exact ⟨fun h => ⟨f_imp_right h.1, h.2⟩, fun h => ⟨(f_imp_mp (h.2 x hx)).1 h.1, h.2⟩⟩
end
theorem Vld.mem {G : List Fm} {c : Fm} (h : c ∈ G) : Vld G c := fun _ _ hw => hw c h
theorem Vld.fls {G : List Fm} {c : Fm} (h : Fm.fls ∈ G) : Vld G c := fun _ _ hw => (hw _ h).elim
/-! ### A measure that each premise makes smaller -/
def Fm.wt : Fm → Nat
  | .var _ => 1
  | .fls => 1
  | .and a b => a.wt + b.wt + 2
  | .or a b => a.wt + b.wt + 1
  | .imp a b => a.wt + b.wt + 1
  | .box _ => 1
  | .dia _ => 1
theorem Fm.wt_pos (a : Fm) : 1 ≤ a.wt := by cases a <;> simp only [Fm.wt] <;> omega
end Go.Vc
