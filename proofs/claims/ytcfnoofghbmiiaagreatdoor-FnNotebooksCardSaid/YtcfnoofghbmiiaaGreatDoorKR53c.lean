/- The proof of FnNotebooksCard, part 3 of 7. Conditions: none. -/
import Derived.Test.YtcfnoofghbmiiaaGreatDoorKR53b
import Derived.Laws.Concat
import Derived.Laws.Strings
import Derived.Laws.RangeString
import Derived.Laws.RangeAny
import Derived.Lib.OthersKept
import Derived.Laws.StructEq
import Derived.Lib.AppendZerosOnto
import Derived.Lib.Overlaps
import Derived.Test.YtcfnoofghbmiiaaGreatDoorRows
import Derived.Shelf.Strings.Search2
import Derived.Shelf.Strconv.Itoa3
import Derived.Lib.Builder
import Derived.Lib.AppendStr
import Derived.Lib.UnsafeStr
import Derived.Lib.IndexLaws
import Derived.WalkKit
import Derived.Laws.Externs
namespace Go.Vc
open Go.RowKit (Below)
abbrev Str := List UInt8
theorem RT (a b : Str) : (a == b) = decide (a = b) := by rw [Bool.eq_iff_iff, beq_iff_eq, decide_eq_true_eq]
abbrev sv (l : Str) : Value := .string ⟨l.toArray⟩
theorem iX (l : Str) : (⟨l.toArray⟩ : ByteArray).size = l.length := by simp [ByteArray.size]
section
variable {P : Program} {w : World}
theorem iLenT {l : Str} {K : Value → Prop} (h : K (.int .i64 (l.length : Nat))) : xLenT (sv l) K := ⟨_, rfl, by rw [iX]; exact h⟩
theorem iIs {l : Str} {j : Nat} {k : IntKind} {K : Value → Prop} (hj : j < l.length) (h : K (.int .u8 (((l.getD j 0).toNat : Nat) : Int))) : xIs (sv l) (.int k (j : Int)) K := by
  refine ⟨_, k, _, l[j], rfl, rfl, by omega, ?_, ?_⟩
  · rw [Int.toNat_natCast]
    show (⟨l.toArray⟩ : ByteArray)[j]? = _
    have : j < (⟨l.toArray⟩ : ByteArray).size := by rw [iX]; exact hj
    rw [getElem?_pos (⟨l.toArray⟩ : ByteArray) j this]
    rfl
  · have : l.getD j 0 = l[j] := by simp [List.getD_eq_getElem?_getD, hj]
    rw [← this]; exact h
theorem B0 (l : Str) (i j : Nat) : (⟨l.toArray⟩ : ByteArray).extract i j = ⟨((l.drop i).take (j - i)).toArray⟩ := by
  apply ByteArray.ext
  rw [ByteArray.data_extract]
  apply Array.ext'
  simp [List.extract_eq_take_drop]
theorem sF {l : Str} {i : Nat} {k : IntKind} {K : Value → Prop} (hi : i ≤ l.length) (h : K (sv (l.drop i))) : xSlS (sv l) (some (.int k (i : Int))) none K := by
  refine ⟨_, i, l.length, rfl, by rw [iX]; rfl, ⟨k, rfl⟩, hi, by rw [iX]; exact Nat.le_refl _, ?_⟩
  rw [B0, List.take_of_length_le (by simp)]; exact h
theorem iTxTo {l : Str} {j : Nat} {k : IntKind} {K : Value → Prop} (hj : j ≤ l.length) (h : K (sv (l.take j))) : xSlS (sv l) none (some (.int k (j : Int))) K := by
  refine ⟨_, 0, j, rfl, ⟨k, rfl⟩, rfl, Nat.zero_le _, by rw [iX]; exact hj, ?_⟩
  rw [B0]; exact h
theorem zL {l : Str} {i j : Nat} {k k' : IntKind} {K : Value → Prop} (hi : i ≤ j) (hj : j ≤ l.length) (h : K (sv ((l.drop i).take (j - i)))) : xSlS (sv l) (some (.int k (i : Int))) (some (.int k' (j : Int))) K := by
  refine ⟨_, i, j, rfl, ⟨k', rfl⟩, ⟨k, rfl⟩, hi, by rw [iX]; exact hj, ?_⟩
  rw [B0]; exact h
theorem iCat {a b : Str} {K : Value → Prop} (hb : a.length + b.length ≤ 9223372036854775807) (h : K (sv (a ++ b))) : xStr .add (sv a) (sv b) K := by
  refine ⟨_, _, _, rfl, rfl, ?_, h⟩
  have : ¬ ((((⟨a.toArray⟩ : ByteArray).size + (⟨b.toArray⟩ : ByteArray).size : Nat) : Int) > IntKind.i64.max) := by
    rw [iX, iX]; show ¬ (_ > (9223372036854775807 : Int)); omega
  simp only [Op.stringOp, if_neg this, ByteArray.mk_append_mk]
  rfl
theorem iEqT {a b : Str} {K : Value → Prop} (h : K (.bool (decide (a = b)))) : xStr .eql (sv a) (sv b) K := by
  refine ⟨_, _, _, rfl, rfl, ?_, h⟩
  simp only [Op.stringOp, ByteArray.toList_mk]
  show Sem.pure _ = Sem.pure _
  congr 2
  exact RT a b
theorem iNeT {a b : Str} {K : Value → Prop} (h : K (.bool (decide (¬ a = b)))) : xStr .neq (sv a) (sv b) K := by
  refine ⟨_, _, _, rfl, rfl, ?_, h⟩
  simp only [Op.stringOp, ByteArray.toList_mk]
  show Sem.pure _ = Sem.pure _
  rw [decide_not]
  congr 2
  rw [RT]
abbrev ltS (a b : Str) : Bool := Op.bytesLess a b
theorem iLtT {a b : Str} {K : Value → Prop} (h : K (.bool (ltS a b))) : xStr .lss (sv a) (sv b) K := by
  refine ⟨_, _, _, rfl, rfl, ?_, h⟩
  simp only [Op.stringOp, ByteArray.toList_mk]
  rfl
theorem iGeT {a b : Str} {K : Value → Prop} (h : K (.bool !(ltS a b))) : xStr .geq (sv a) (sv b) K := by
  refine ⟨_, _, _, rfl, rfl, ?_, h⟩
  simp only [Op.stringOp, ByteArray.toList_mk]
  rfl
end
/-! ### Parts of a slice -/
section
variable {w : World}
theorem iSlTo {v : Value} {xs : List Value} {j : Nat} {k : IntKind} {K : Value → Prop} (hs : Sl w v xs) (hj : j ≤ xs.length) (h : ∀ v', Sl w v' (xs.take j) → K v') : xSl 1 v none (some (.int k (j : Int))) K := by
  obtain ⟨a, c, rfl, h2, h3, h4⟩ := hs
  refine ⟨a, xs.length, c, 0, j, rfl, ⟨k, rfl⟩, rfl, Nat.zero_le _, by omega, ?_⟩
  have hl : (xs.take j).length = j := by rw [List.length_take]; omega
  refine h _ ⟨_, c - 0, by rw [hl, Nat.sub_zero], by rw [hl]; omega, by omega, ?_⟩
  cases j with
  | zero => exact .inl rfl
  | succ j =>
    rcases h4 with rfl | ⟨b, o, rfl, hc⟩
    · simp at hj
    · refine .inr ⟨b, o, ?_, fun i hi => ?_⟩
      · split
        · rfl
        · simp [Addr.add]
      · rw [hl] at hi
        rw [hc i (by omega), List.getElem?_take, if_pos hi]
theorem WQ {v : Value} {xs : List Value} {j : Nat} {k : IntKind} {K : Value → Prop} (hs : Sl w v xs) (hj : j ≤ xs.length) (h : ∀ v', Sl w v' (xs.drop j) → K v') : xSl 1 v (some (.int k (j : Int))) none K := by
  obtain ⟨a, c, rfl, h2, h3, h4⟩ := hs
  refine ⟨a, xs.length, c, j, xs.length, rfl, rfl, ⟨k, rfl⟩, hj, h2, ?_⟩
  have hl : (xs.drop j).length = xs.length - j := by rw [List.length_drop]
  refine h _ ⟨_, c - j, by rw [hl], by rw [hl]; omega, by omega, ?_⟩
  rcases h4 with rfl | ⟨b, o, rfl, hc⟩
  · simp
  · by_cases hn : xs.drop j = []
    · exact .inl hn
    · have hjl : j < xs.length := by
        rcases Nat.lt_or_ge j xs.length with h' | h'
        · exact h'
        · exact absurd (List.drop_eq_nil_of_le h') hn
      refine .inr ⟨b, o + j, ?_, fun i hi => ?_⟩
      · rw [if_neg (by omega)]
        simp only [Option.map_some, Nat.mul_one, Addr.add]
        split
        · rename_i e; simp [e]
        · rfl
      · rw [hl] at hi
        rw [show o + j + i = o + (j + i) by omega, hc (j + i) (by omega), List.getElem?_drop]
end
theorem iJnX {F : (List Value → World → Prop) → Prop} {K : List Value → World → Prop} (C : List Value → World → Prop) (h : ∀ J : List Value → World → Prop, (∀ xs w, C xs w → J xs w) → F J) (hK : ∀ xs w, C xs w → K xs w) : jn F K := h K hK
/-! ### The order of strings -/
theorem bS : ∀ a : Str, ltS a a = false
  | [] => rfl
  | x :: a => by simp [ltS, Op.bytesLess]; exact bS a
theorem mG : ∀ {a b c : Str}, ltS a b = true → ltS b c = true → ltS a c = true
  | _, [], _, h, _ => by cases ‹Str› <;> simp [ltS, Op.bytesLess] at h
  | _, _ :: _, [], _, h => by simp [ltS, Op.bytesLess] at h
  | [], _ :: _, _ :: _, _, _ => by simp [ltS, Op.bytesLess]
  | x :: a, y :: b, z :: c, h, k => by
    simp only [ltS, Op.bytesLess, Bool.or_eq_true, decide_eq_true_eq, Bool.and_eq_true, beq_iff_eq] at h k ⊢
    rcases h with h | ⟨rfl, h⟩
    · rcases k with k | ⟨rfl, k⟩
      · exact .inl (UInt8.lt_trans h k)
      · exact .inl h
    · rcases k with k | ⟨rfl, k⟩
      · exact .inl k
      · exact .inr ⟨rfl, mG h k⟩
theorem pT : ∀ a b : Str, ltS a b = true ∨ a = b ∨ ltS b a = true
  | [], [] => .inr (.inl rfl)
  | [], _ :: _ => .inl rfl
  | _ :: _, [] => .inr (.inr rfl)
  | x :: a, y :: b => by
    simp only [ltS, Op.bytesLess, Bool.or_eq_true, decide_eq_true_eq, Bool.and_eq_true, beq_iff_eq, List.cons.injEq]
    rcases UInt8.lt_or_lt_of_ne (a := x) (b := y) with h
    by_cases e : x = y
    · subst e
      rcases pT a b with h1 | h1 | h1
      · exact .inl (.inr ⟨rfl, h1⟩)
      · exact .inr (.inl ⟨rfl, h1⟩)
      · exact .inr (.inr (.inr ⟨rfl, h1⟩))
    · rcases h e with h1 | h1
      · exact .inl (.inl h1)
      · exact .inr (.inr (.inl h1))
theorem FB {a b : Str} (h : ltS a b = true) : ltS b a = false := by
  cases hb : ltS b a
  · rfl
  · have := mG h hb; rw [bS] at this; cases this
/-! ### A range over a string -/
def It (w : World) (k : Nat) (l : Str) (pos : Nat) : Prop := w.heap[k]? = some (.stringIter ⟨l.toArray⟩ pos)
theorem It.ext {w w' : World} {k : Nat} {l : Str} {pos : Nat} (h : It w k l pos) (he : Ext w w') : It w' k l pos := by
  unfold It at *
  rw [Below.block he k (cS h)]; exact h
theorem It.ch {S : Nat → Prop} {w w' : World} {k : Nat} {l : Str} {pos : Nat} (h : It w k l pos) (hc : Ch S w w') (hn : ¬ S k) : It w' k l pos := by
  unfold It at *
  rw [hc.block k (cS h) hn]; exact h
theorem GY (s : ByteArray) (i : Nat) (h : 128 ≤ (s.get! (i + 0)).toNat) : 128 ≤ (Utf8.decode s i).1 ∧ 1 ≤ (Utf8.decode s i).2 := by
  simp only [Utf8.decode]
  repeat' split
  all_goals simp_all [Utf8.runeError]
  all_goals omega
section
variable {P : Program} {w : World}
theorem U1 {t : TypeId} {l : Str} {K : Value → World → Prop} (ht : P.underlying t = some .string)
    (h : ∀ b w', b = w.heap.size ∧ w'.heap.size = b + 1 → Ext w w' → It w' b l 0 → K (.pointer (some ⟨b, 0, none⟩)) w') : xOp P (Instr.range t (sv l)) w K := by
  refine ⟨_, _, run_range_string w t _ ht, h _ _ ⟨rfl, by simp [World.iter]⟩ (Ext.alloc w _) ?_⟩
  exact heap_alloc_new w _
theorem T5 {k : Nat} {l : Str} {pos : Nat} {ty : TypeId} {K : Value → World → Prop} (hI : It w k l pos) (hp : l.length ≤ pos) (h : K (.tuple #[.bool false]) w) : xOp P (Instr.next (.pointer (some ⟨k, 0, none⟩)) true ty) w K :=
  ⟨_, _, Lib.run_next_end_at w k _ pos ty hI (by rw [iX]; omega), h⟩
theorem UB {k : Nat} {l : Str} {pos : Nat} {ty : TypeId} {K : Value → World → Prop} (hI : It w k l pos) (hp : pos < l.length)
    (h : ∀ (c d : Nat) w', 1 ≤ d → ((l.getD pos 0).toNat < 128 → c = (l.getD pos 0).toNat ∧ d = 1) → (128 ≤ (l.getD pos 0).toNat → 128 ≤ c) → c ≤ 2147483647 → Upd k w w' → It w' k l (pos + d) → K (.tuple #[.bool true, .int .i64 (pos : Int), .int .i32 (c : Int)]) w') :
    xOp P (Instr.next (.pointer (some ⟨k, 0, none⟩)) true ty) w K := by
  have hs : pos < (⟨l.toArray⟩ : ByteArray).size := by rw [iX]; exact hp
  have e0 : (⟨l.toArray⟩ : ByteArray).get! (pos + 0) = l.getD pos 0 := by
    show (⟨l.toArray⟩ : ByteArray).get! pos = _
    have : (⟨l.toArray⟩ : ByteArray).get! pos = l.toArray[pos]! := by simp [ByteArray.get!]
    rw [this]
    simp [List.getD_eq_getElem?_getD, hp]
  have e1 : (⟨l.toArray⟩ : ByteArray)[pos]'hs = l.getD pos 0 := by
    have : (⟨l.toArray⟩ : ByteArray)[pos]'hs = l.toArray[pos] := rfl
    rw [this]
    simp [List.getD_eq_getElem?_getD, hp]
  refine ⟨_, _, Lib.run_next_any_at w k _ pos ty hI hs, ?_⟩
  refine h _ _ _ ?_ (fun ha => ?_) (fun hb => ?_) (decode_le _ _) ⟨rfl, rfl, rfl, Lib.iterAt_size _ _ _ _, fun c hc => Lib.iterAt_other _ _ _ _ _ hc⟩ (Lib.iterAt_heap w k _ pos _ hI)
  · rcases Nat.lt_or_ge (l.getD pos 0).toNat 128 with h1 | h1
    · rw [decode_ascii _ _ hs (by rw [e1]; exact h1)]; exact Nat.le_refl _
    · exact (GY _ _ (by rw [e0]; exact h1)).2
  · rw [decode_ascii _ _ hs (by rw [e1]; exact ha), e1]; exact ⟨rfl, rfl⟩
  · exact (GY _ _ (by rw [e0]; exact hb)).1
end
/-! ### Slices of elements of k cells -/
def SlK (k : Nat) (w : World) (v : Value) (n : Nat) (xs : List Value) : Prop :=
  xs.length = n * k ∧ ∃ a c, v = .slice a n c ∧ n ≤ c ∧ c ≤ 9223372036854775807 ∧ (n = 0 ∨ ∃ b o, a = some ⟨b, o, none⟩ ∧ ∀ i, i < n * k → w.cell? ⟨b, o + i, none⟩ = xs[i]?)
theorem SlK.ext {k : Nat} {w w' : World} {v : Value} {n : Nat} {xs : List Value} (h : SlK k w v n xs) (he : Ext w w') : SlK k w' v n xs := by
  obtain ⟨h0, a, c, h1, h2, h3, h4⟩ := h
  refine ⟨h0, a, c, h1, h2, h3, h4.imp id fun ⟨b, o, ha, hc⟩ => ⟨b, o, ha, fun i hi => ?_⟩⟩
  have := hc i hi
  rw [List.getElem?_eq_getElem (by omega)] at this ⊢
  exact he.cell this
theorem SlK.len {k : Nat} {w : World} {v : Value} {n : Nat} {xs : List Value} (h : SlK k w v n xs) : n ≤ 9223372036854775807 := let ⟨_, _, _, _, h2, h3, _⟩ := h; Nat.le_trans h2 h3
theorem iLenK {k : Nat} {w : World} {v : Value} {n : Nat} {xs : List Value} {K : Value → Prop} (hs : SlK k w v n xs) (h : K (.int .i64 (n : Nat))) : xLenS v K := by
  obtain ⟨_, a, c, rfl, _⟩ := hs; exact ⟨_, _, _, rfl, h⟩
theorem bE (b o i : Nat) : (⟨b, o, none⟩ : Addr).add i = ⟨b, o + i, none⟩ := by
  simp only [Addr.add]; split
  · rename_i e; simp [e]
  · rfl
theorem iIaK {sz : Nat} {w : World} {v : Value} {n : Nat} {xs : List Value} {j : Nat} {k : IntKind} {K : Value → Prop} (hs : SlK sz w v n xs) (h1 : j < n)
    (h : ∀ b o, (∀ i, i < sz → w.cell? ⟨b, o + i, none⟩ = xs[j * sz + i]?) → K (.pointer (some ⟨b, o, none⟩))) : xIa sz v (.int k (j : Int)) K := by
  obtain ⟨h0, a, c, rfl, h2, h3, h4⟩ := hs
  rcases h4 with rfl | ⟨b, o, rfl, hc⟩
  · omega
  · refine ⟨_, _, _, _, _, rfl, rfl, by omega, by omega, ?_⟩
    rw [Int.toNat_natCast, bE]
    refine h b (o + j * sz) fun i hi => ?_
    rw [Nat.add_assoc]
    refine hc _ ?_
    have : (j + 1) * sz ≤ n * sz := Nat.mul_le_mul_right _ h1
    rw [Nat.add_mul, Nat.one_mul] at this
    omega
def OwK (k lo : Nat) (e : TypeId) (w : World) (v : Value) (n : Nat) (xs : List Value) : Prop := w.ownsRow lo e k v n xs
theorem OwK.sl {k lo : Nat} {e : TypeId} {w : World} {v : Value} {n : Nat} {xs : List Value} (h : OwK k lo e w v n xs) : SlK k w v n xs := by
  obtain ⟨h0, h | ⟨g, cap, cur, hv, _, hh, h1, h2, h3, h4⟩⟩ := h
  · obtain ⟨rfl, rfl⟩ := h
    exact ⟨h0, none, 0, rfl, Nat.le_refl _, by omega, .inl rfl⟩
  · refine ⟨h0, _, cap, hv, h1, h2, .inr ⟨g, 0, rfl, fun i hi => ?_⟩⟩
    simp only [Nat.zero_add, World.cell?, hh]
    rw [← h4]
    simp only [Option.isSome_none, Bool.false_eq_true, if_false, List.getElem?_take]
    rw [if_pos hi]; simp
theorem OwK.ext {k lo : Nat} {e : TypeId} {w w' : World} {v : Value} {n : Nat} {xs : List Value} (h : OwK k lo e w v n xs) (he : Ext w w') : OwK k lo e w' v n xs := by
  obtain ⟨h0, h | ⟨g, cap, cur, hv, hg, hh, h1⟩⟩ := h
  · exact ⟨h0, .inl h⟩
  · exact ⟨h0, .inr ⟨g, cap, cur, hv, hg, by rw [Below.block he g (cS hh)]; exact hh, h1⟩⟩
theorem OwK.mono {k lo lo' : Nat} {e : TypeId} {w : World} {v : Value} {n : Nat} {xs : List Value} (h : OwK k lo e w v n xs) (hl : lo' ≤ lo) : OwK k lo' e w v n xs := by
  obtain ⟨h0, h | ⟨g, cap, cur, hv, hg, hh, h1⟩⟩ := h
  · exact ⟨h0, .inl h⟩
  · exact ⟨h0, .inr ⟨g, cap, cur, hv, Nat.le_trans hl hg, hh, h1⟩⟩
theorem OwK.nil (k lo : Nat) (e : TypeId) (w : World) : OwK k lo e w (.slice none 0 0) 0 [] := World.ownsRow_nil w lo e k
theorem OwK.blk {k lo : Nat} {e : TypeId} {w : World} {v : Value} {n : Nat} {xs : List Value} (h : OwK k lo e w v n xs) : ∀ c, v.ownBlock = some c → lo ≤ c ∧ c < w.heap.size := World.ownsRow.lt h
theorem OwK.len {k lo : Nat} {e : TypeId} {w : World} {v : Value} {n : Nat} {xs : List Value} (h : OwK k lo e w v n xs) : xs.length = n * k := h.1
theorem OwK.ch {S : Nat → Prop} {k lo : Nat} {e : TypeId} {w w' : World} {v : Value} {n : Nat} {xs : List Value} (h : OwK k lo e w v n xs) (hc : Ch S w w') (hn : ∀ c, v.ownBlock = some c → ¬ S c) : OwK k lo e w' v n xs := by
  obtain ⟨h0, h | ⟨g, cap, cur, hv, hg, hh, h1⟩⟩ := h
  · exact ⟨h0, .inl h⟩
  · exact ⟨h0, .inr ⟨g, cap, cur, hv, hg, by rw [hc.block g (cS hh) (hn g (by rw [hv]; rfl))]; exact hh, h1⟩⟩
theorem OwK.cell {k lo : Nat} {e : TypeId} {w : World} {v : Value} {n : Nat} {xs : List Value} (h : OwK k lo e w v n xs) : aC v = true := by
  obtain ⟨_, h | ⟨g, cap, cur, hv, _⟩⟩ := h
  · rw [h.1]; rfl
  · rw [hv]; rfl
theorem OwK.ty {k lo : Nat} {e : TypeId} {w : World} {v : Value} {n : Nat} {xs : List Value} (h : OwK k lo e w v n xs) {c : Nat} (hc : v.ownBlock = some c) : ∃ cur, w.heap[c]? = some (.cells cur e (0, 0)) := by
  obtain ⟨_, h | ⟨g, cap, cur, hv, hg, hh, h1⟩⟩ := h
  · rw [h.1] at hc; cases hc
  · rw [hv] at hc
    cases hc
    exact ⟨cur, hh⟩
theorem OwK.ne_blk {k lo : Nat} {e e' : TypeId} {w : World} {v : Value} {n : Nat} {xs cs : List Value} {b : Nat} (h : OwK k lo e w v n xs) (hb : Blk e' w b cs) (hne : e ≠ e') : v.ownBlock ≠ some b := by
  intro hc
  obtain ⟨cur, h1⟩ := h.ty hc
  unfold Blk at hb
  rw [h1] at hb
  injection hb with hb
  injection hb with _ hb _
  exact hne hb
theorem OwK.ofBlk {k lo : Nat} {e : TypeId} {w : World} {b n : Nat} {cs : List Value} (h : Blk e w b cs) (hl : lo ≤ b) (hn : cs.length = n * k) (hm : n ≤ 9223372036854775807) : OwK k lo e w (.slice (some ⟨b, 0, none⟩) n n) n cs :=
  ⟨hn, .inr ⟨b, n, cs.toArray, rfl, hl, h, Nat.le_refl _, hm, by simpa using hn, by rw [← hn]; simp⟩⟩
theorem Ow.toK {lo : Nat} {e : TypeId} {w : World} {v : Value} {xs : List Value} (h : Ow lo e w v xs) : OwK 1 lo e w v xs.length xs := h
theorem OwK.toOw {lo : Nat} {e : TypeId} {w : World} {v : Value} {n : Nat} {xs : List Value} (h : OwK 1 lo e w v n xs) : Ow lo e w v xs := by
  have : n = xs.length := by have := h.1; omega
  subst this; exact h
section
variable {P : Program} {w : World}
theorem iAppK {lo k : Nat} {t ty e : TypeId} {z v x : Value} {bytes n m : Nat} {xs ys : List Value} {K : Value → World → Prop} (ht : P.underlying t = some (.slice e)) (hi : (P.info? e).map (fun i => (i.zero, i.size, i.bytes)) = some (some z, k, bytes)) (hz : z.cells.size = k) (hk : 0 < k)
    (hown : OwK k lo e w v n xs) (hs : SlK k w x m ys) (hy : ∀ u ∈ ys, aC u = true) (hb : (n + m) * bytes ≤ 140737488355328) (hm : n + m ≤ 9223372036854775807) (hlo : lo ≤ w.heap.size)
    (h : ∀ v' w', OwK k lo e w' v' (n + m) (xs ++ ys) → w.grownBy w' v.ownBlock → (v'.ownBlock = v.ownBlock ∨ ∃ c, v'.ownBlock = some c ∧ w.heap.size ≤ c) → K v' w') : xOp P (Builtin.append_ #[t, t] ty #[v, x]) w K := by
  obtain ⟨i, hi, h3⟩ := Option.map_eq_some_iff.1 hi
  simp only [Prod.mk.injEq] at h3
  obtain ⟨hz0, hsz, hby⟩ := h3
  obtain ⟨hyl, a, c, rfl, hlc, hcm, hcells⟩ := hs
  have key : ∀ ad : Addr, a = some ad → (∀ j u, ys[j]? = some u → w.cell? (ad.add j) = some u) → xOp P (Builtin.append_ #[t, t] ty #[v, .slice a m c]) w K := by
    rintro ad rfl hnews
    obtain ⟨v', w', h4, h5, h6, _, h7⟩ := run_append_own_at (P := P) (w := w) lo t ty e i z k bytes ht hi hz0 hsz hby hz hk v n xs hown ad m c ys hyl hnews (fun u hu => dU (hy u hu)) (by simpa [maxLen] using hm) hb hlo
    exact ⟨v', w', h4, h v' w' h5 h6 (h7.imp id fun e => ⟨_, e, Nat.le_refl _⟩)⟩
  rcases hcells with rfl | ⟨b, o, rfl, hc⟩
  · have : ys = [] := List.length_eq_zero_iff.1 (by omega)
    subst this
    cases a with
    | some ad => exact key ad rfl (fun j u hu => by simp at hu)
    | none =>
      refine ⟨v, w, ?_, h v w (by simpa using hown) (K0 w _) (.inl rfl)⟩
      rcases hown.2 with ⟨rfl, hn⟩ | ⟨g, cap, cur, rfl, _, _, hnc, _⟩
      · simp [Builtin.append_, run_underlying ht, sizeOf, typeInfo, hi, Builtin.lenOf, Builtin.firstCells]
      · simp [Builtin.append_, run_underlying ht, sizeOf, typeInfo, hi, Builtin.lenOf, Builtin.firstCells, hnc, storeCells]
  · refine key ⟨b, o, none⟩ rfl fun j u hu => ?_
    have hj : j < ys.length := (List.getElem?_eq_some_iff.1 hu).1
    rw [bE, hc j (by omega), hu]
end
/-! ### Literals of slices; what a call may turn -/
theorem iBs2 {w : World} {e : TypeId} {a b z : Value} {K : Value → World → Prop} (hz : aC z = true) (ha : aC a = true) (hb : aC b = true) (h : ∀ c w', c = w.heap.size ∧ w'.heap.size = c + 1 → Ext w w' → Blk e w' c [a, b] → K (.slice (some ⟨c, 0, none⟩) 2 2) w') :
    xBs e (Value.cells z) 1 2 [(0, a), (1, b)] w K := by
  refine ⟨#[a, b], ?_, h _ _ ⟨rfl, by simp⟩ (Ext.alloc w _) (Blk.new w #[a, b] e)⟩
  rw [aM hz]
  simp [Instr.fill, aM ha, aM hb, show Array.range 2 = #[0, 1] from rfl]
theorem iBs3 {w : World} {e : TypeId} {a b d z : Value} {K : Value → World → Prop} (hz : aC z = true) (ha : aC a = true) (hb : aC b = true) (hd : aC d = true) (h : ∀ c w', c = w.heap.size ∧ w'.heap.size = c + 1 → Ext w w' → Blk e w' c [a, b, d] → K (.slice (some ⟨c, 0, none⟩) 3 3) w') :
    xBs e (Value.cells z) 1 3 [(0, a), (1, b), (2, d)] w K := by
  refine ⟨#[a, b, d], ?_, h _ _ ⟨rfl, by simp⟩ (Ext.alloc w _) (Blk.new w #[a, b, d] e)⟩
  rw [aM hz]
  simp [Instr.fill, aM ha, aM hb, aM hd, show Array.range 3 = #[0, 1, 2] from rfl]
theorem iBsA {w : World} {e : TypeId} {z0 z1 x y : Value} {K : Value → World → Prop}     (h : ∀ b w', b = w.heap.size ∧ w'.heap.size = b + 1 → Ext w w' → Blk e w' b [x, y] → K (.slice (some ⟨b, 0, none⟩) 1 1) w') :
    xBs e (Value.cells (.agg #[z0, z1])) 2 1 [(0, .agg #[x, y])] w K := by
  refine ⟨#[x, y], ?_, h _ _ ⟨rfl, by simp⟩ (Ext.alloc w _) (Blk.new w #[x, y] e)⟩
  simp [Instr.fill, Value.cells, show Array.range 2 = #[0, 1] from rfl]
theorem iBsA0 {w : World} {e : TypeId} {z0 z1 : Value} {K : Value → World → Prop}
    (h : ∀ v w', w'.heap.size = w.heap.size + 1 → Ext w w' → OwK 2 w.heap.size e w' v 0 [] → K v w') : xBs e (Value.cells (.agg #[z0, z1])) 2 0 [] w K := by
  refine ⟨_, rfl, h _ _ (by simp) (Ext.alloc w _) ?_⟩
  exact ⟨rfl, .inr ⟨w.heap.size, 0, _, rfl, Nat.le_refl _, heap_alloc_new w _, Nat.le_refl _, by simp [maxLen], by simp [show Array.range 0 = #[] from rfl], rfl⟩⟩
theorem aB {b : Nat} {w w' w'' : World} (h : Ch (fun c => c = b) w w') (k : Ch (fun c => c = b) w' w'') : Ch (fun c => c = b) w w'' := h.trans k fun _ h => .inl h
theorem aO {b : Nat} {w w' w'' : World} (h : Ch (fun c => c = b) w w') (k : Ext w' w'') : Ch (fun c => c = b) w w'' := h.trans (k.ch (S := fun _ => False)) fun _ h => h.elim
end Go.Vc

namespace Go.Vc
inductive Fm : Type
  | var (v : Nat) : Fm
  | fls : Fm
  | and (a b : Fm) : Fm
  | or (a b : Fm) : Fm
  | imp (a b : Fm) : Fm
  | box (a : Fm) : Fm
  | dia (a : Fm) : Fm
abbrev nd (k s : Nat) : List Value := [.int .i64 (k : Int), .int .i64 (s : Int)]
def Fm.cells : Fm → List Value
  | .var v => nd 0 v
  | .fls => nd 1 0
  | .and a b => nd 2 0 ++ a.cells ++ b.cells
  | .or a b => nd 3 0 ++ a.cells ++ b.cells
  | .imp a b => nd 4 0 ++ a.cells ++ b.cells
  | .box a => nd 5 0 ++ a.cells
  | .dia a => nd 6 0 ++ a.cells
def Fm.size : Fm → Nat
  | .var _ => 1
  | .fls => 1
  | .and a b => 1 + a.size + b.size
  | .or a b => 1 + a.size + b.size
  | .imp a b => 1 + a.size + b.size
  | .box a => 1 + a.size
  | .dia a => 1 + a.size
theorem Fm.size_pos (a : Fm) : 1 ≤ a.size := by cases a <;> simp only [Fm.size] <;> omega
theorem Fm.cells_len : ∀ a : Fm, a.cells.length = a.size * 2
  | .var _ => rfl
  | .fls => rfl
  | .and a b => by have := a.cells_len; have := b.cells_len; simp only [Fm.cells, Fm.size, nd, List.length_append, List.length_cons, List.length_nil]; omega
  | .or a b => by have := a.cells_len; have := b.cells_len; simp only [Fm.cells, Fm.size, nd, List.length_append, List.length_cons, List.length_nil]; omega
  | .imp a b => by have := a.cells_len; have := b.cells_len; simp only [Fm.cells, Fm.size, nd, List.length_append, List.length_cons, List.length_nil]; omega
  | .box a => by have := a.cells_len; simp only [Fm.cells, Fm.size, nd, List.length_append, List.length_cons, List.length_nil]; omega
  | .dia a => by have := a.cells_len; simp only [Fm.cells, Fm.size, nd, List.length_append, List.length_cons, List.length_nil]; omega
theorem Fm.cells_cell : ∀ (a : Fm), ∀ u ∈ a.cells, aC u = true
  | .var _ => by simp [Fm.cells, nd, aC]
  | .fls => by simp [Fm.cells, nd, aC]
  | .and a b => by have h1 := a.cells_cell; have h2 := b.cells_cell; intro u hu; simp only [Fm.cells, nd, List.mem_append, List.mem_cons, List.not_mem_nil, or_false] at hu; rcases hu with ((rfl | rfl) | h) | h <;> first | rfl | exact h1 _ h | exact h2 _ h
  | .or a b => by have h1 := a.cells_cell; have h2 := b.cells_cell; intro u hu; simp only [Fm.cells, nd, List.mem_append, List.mem_cons, List.not_mem_nil, or_false] at hu; rcases hu with ((rfl | rfl) | h) | h <;> first | rfl | exact h1 _ h | exact h2 _ h
  | .imp a b => by have h1 := a.cells_cell; have h2 := b.cells_cell; intro u hu; simp only [Fm.cells, nd, List.mem_append, List.mem_cons, List.not_mem_nil, or_false] at hu; rcases hu with ((rfl | rfl) | h) | h <;> first | rfl | exact h1 _ h | exact h2 _ h
  | .box a => by have h1 := a.cells_cell; intro u hu; simp only [Fm.cells, nd, List.mem_append, List.mem_cons, List.not_mem_nil, or_false] at hu; rcases hu with (rfl | rfl) | h <;> first | rfl | exact h1 _ h
  | .dia a => by have h1 := a.cells_cell; intro u hu; simp only [Fm.cells, nd, List.mem_append, List.mem_cons, List.not_mem_nil, or_false] at hu; rcases hu with (rfl | rfl) | h <;> first | rfl | exact h1 _ h

/-! ### The reader -/
abbrev RSt := Str × Bool
def tk (c : UInt8) (s : RSt) : Bool := !s.2 && decide (s.1.head? = some c)
def nx (s : RSt) : RSt := (s.1.tail, false)
def ndd (c : UInt8) (s : RSt) : RSt := if tk c s then nx s else (s.1, true)
def prs : Nat → Nat → Fm → RSt → Fm × RSt
  | 0, _, a, s => (a, s)
  | n + 1, 0, _, s =>
    if tk 62 (prs n 1 .fls s).2 then (.imp (prs n 1 .fls s).1 (prs n 0 .fls (nx (prs n 1 .fls s).2)).1, (prs n 0 .fls (nx (prs n 1 .fls s).2)).2)
    else prs n 1 .fls s
  | n + 1, 1, _, s => prs n 4 (prs n 2 .fls s).1 (prs n 2 .fls s).2
  | n + 1, 2, _, s => prs n 5 (prs n 3 .fls s).1 (prs n 3 .fls s).2
  | n + 1, 3, _, s =>
    if tk 126 s then (.imp (prs n 3 .fls (nx s)).1 .fls, (prs n 3 .fls (nx s)).2)
    else if tk 91 s then (.box (prs n 3 .fls (ndd 93 (nx s))).1, (prs n 3 .fls (ndd 93 (nx s))).2)
    else if tk 60 s then (.dia (prs n 3 .fls (ndd 62 (nx s))).1, (prs n 3 .fls (ndd 62 (nx s))).2)
    else if tk 70 s then (.fls, nx s)
    else if tk 84 s then (.imp .fls .fls, nx s)
    else if tk 40 s then ((prs n 0 .fls (nx s)).1, ndd 41 (prs n 0 .fls (nx s)).2)
    else if tk 112 s then (.var 0, nx s)
    else if tk 113 s then (.var 1, nx s)
    else if tk 114 s then (.var 2, nx s)
    else if tk 115 s then (.var 3, nx s)
    else if tk 116 s then (.var 4, nx s)
    else if tk 117 s then (.var 5, nx s)
    else (.fls, (s.1, true))
  | n + 1, 4, a, s => if tk 124 s then prs n 4 (.or a (prs n 2 .fls (nx s)).1) (prs n 2 .fls (nx s)).2 else (a, s)
  | n + 1, _, a, s => if tk 38 s then prs n 5 (.and a (prs n 3 .fls (nx s)).1) (prs n 3 .fls (nx s)).2 else (a, s)
theorem LQ {c d : UInt8} {s : RSt} (h : tk c s = true) (hne : c ≠ d) : tk d s = false := by
  simp only [tk, Bool.and_eq_true, decide_eq_true_eq, Bool.not_eq_true'] at h
  simp only [tk, h.1, h.2, Bool.not_false, Bool.true_and, decide_eq_false_iff_not, Option.some.injEq]
  exact hne
theorem XC {c : UInt8} {s : RSt} (h : tk c s = true) : s.2 = false := by
  simp only [tk, Bool.and_eq_true, Bool.not_eq_true'] at h; exact h.1
theorem WC {c : UInt8} {s : RSt} (h : tk c s = true) : s.1 = c :: (nx s).1 := by
  simp only [tk, Bool.and_eq_true, decide_eq_true_eq] at h
  obtain ⟨l, b⟩ := s
  cases l with
  | nil => simp at h
  | cons x t => simp at h; simp [nx, h.2]
theorem aZ {c : UInt8} {s : RSt} (h : tk c s = true) : (nx s).1.length + 1 = s.1.length := by rw [WC h]; simp [nx]
theorem kI (c : UInt8) (s : RSt) : (ndd c s).1.length ≤ s.1.length := by
  unfold ndd; split
  · simp [nx]
  · exact Nat.le_refl _
theorem prs_0 (n : Nat) (a : Fm) (s : RSt) : prs (n + 1) 0 a s = if tk 62 (prs n 1 .fls s).2 then (.imp (prs n 1 .fls s).1 (prs n 0 .fls (nx (prs n 1 .fls s).2)).1, (prs n 0 .fls (nx (prs n 1 .fls s).2)).2) else prs n 1 .fls s := by rw [prs]
theorem prs_1 (n : Nat) (a : Fm) (s : RSt) : prs (n + 1) 1 a s = prs n 4 (prs n 2 .fls s).1 (prs n 2 .fls s).2 := by rw [prs]
theorem prs_2 (n : Nat) (a : Fm) (s : RSt) : prs (n + 1) 2 a s = prs n 5 (prs n 3 .fls s).1 (prs n 3 .fls s).2 := by rw [prs]
theorem prs_4 (n : Nat) (a : Fm) (s : RSt) : prs (n + 1) 4 a s = if tk 124 s then prs n 4 (.or a (prs n 2 .fls (nx s)).1) (prs n 2 .fls (nx s)).2 else (a, s) := by rw [prs]
theorem prs_5 (n k : Nat) (a : Fm) (s : RSt) : prs (n + 1) (k + 5) a s = if tk 38 s then prs n 5 (.and a (prs n 3 .fls (nx s)).1) (prs n 3 .fls (nx s)).2 else (a, s) := by rw [prs] <;> omega
def vl (v : Nat) : UInt8 := UInt8.ofNat (112 + v)
theorem prs_3 {Q : Fm × RSt → Prop} {n : Nat} {a : Fm} {s : RSt} (h1 : tk 126 s = true → Q (.imp (prs n 3 .fls (nx s)).1 .fls, (prs n 3 .fls (nx s)).2))
    (h2 : tk 91 s = true → Q (.box (prs n 3 .fls (ndd 93 (nx s))).1, (prs n 3 .fls (ndd 93 (nx s))).2)) (h3 : tk 60 s = true → Q (.dia (prs n 3 .fls (ndd 62 (nx s))).1, (prs n 3 .fls (ndd 62 (nx s))).2))
    (h4 : tk 70 s = true → Q (.fls, nx s)) (h5 : tk 84 s = true → Q (.imp .fls .fls, nx s)) (h6 : tk 40 s = true → Q ((prs n 0 .fls (nx s)).1, ndd 41 (prs n 0 .fls (nx s)).2))
    (h7 : ∀ v, v < 6 → tk (vl v) s = true → Q (.var v, nx s)) (h8 : tk 126 s = false → tk 91 s = false → tk 60 s = false → tk 70 s = false → tk 84 s = false → tk 40 s = false → (∀ v, v < 6 → tk (vl v) s = false) → Q (.fls, (s.1, true))) : Q (prs (n + 1) 3 a s) := by
  rw [prs]
  by_cases c1 : tk 126 s = true
  · rw [if_pos c1]; exact h1 c1
  rw [if_neg c1]
  by_cases c2 : tk 91 s = true
  · rw [if_pos c2]; exact h2 c2
  rw [if_neg c2]
  by_cases c3 : tk 60 s = true
  · rw [if_pos c3]; exact h3 c3
  rw [if_neg c3]
  by_cases c4 : tk 70 s = true
  · rw [if_pos c4]; exact h4 c4
  rw [if_neg c4]
  by_cases c5 : tk 84 s = true
  · rw [if_pos c5]; exact h5 c5
  rw [if_neg c5]
  by_cases c6 : tk 40 s = true
  · rw [if_pos c6]; exact h6 c6
  rw [if_neg c6]
  by_cases d0 : tk 112 s = true
  · rw [if_pos d0]; exact h7 0 (by omega) d0
  rw [if_neg d0]
  by_cases d1 : tk 113 s = true
  · rw [if_pos d1]; exact h7 1 (by omega) d1
  rw [if_neg d1]
  by_cases d2 : tk 114 s = true
  · rw [if_pos d2]; exact h7 2 (by omega) d2
  rw [if_neg d2]
  by_cases d3 : tk 115 s = true
  · rw [if_pos d3]; exact h7 3 (by omega) d3
  rw [if_neg d3]
  by_cases d4 : tk 116 s = true
  · rw [if_pos d4]; exact h7 4 (by omega) d4
  rw [if_neg d4]
  by_cases d5 : tk 117 s = true
  · rw [if_pos d5]; exact h7 5 (by omega) d5
  rw [if_neg d5]
  refine h8 (Bool.eq_false_iff.2 c1) (Bool.eq_false_iff.2 c2) (Bool.eq_false_iff.2 c3) (Bool.eq_false_iff.2 c4) (Bool.eq_false_iff.2 c5) (Bool.eq_false_iff.2 c6) fun v hv => ?_
  have : v = 0 ∨ v = 1 ∨ v = 2 ∨ v = 3 ∨ v = 4 ∨ v = 5 := by omega
  rcases this with rfl | rfl | rfl | rfl | rfl | rfl
  · exact Bool.eq_false_iff.2 d0
  · exact Bool.eq_false_iff.2 d1
  · exact Bool.eq_false_iff.2 d2
  · exact Bool.eq_false_iff.2 d3
  · exact Bool.eq_false_iff.2 d4
  · exact Bool.eq_false_iff.2 d5
theorem cN : ∀ (n lv : Nat) (a : Fm) (s : RSt), (prs n lv a s).1.size + 3 * (prs n lv a s).2.1.length ≤ a.size + 3 * s.1.length
  | 0, _, _, _ => Nat.le_refl _
  | n + 1, 0, a, s => by
    have hp := a.size_pos
    have h1 := cN n 1 .fls s
    have h2 := cN n 0 .fls (nx (prs n 1 .fls s).2)
    have e : Fm.fls.size = 1 := rfl
    rw [prs_0]
    by_cases h : tk 62 (prs n 1 .fls s).2 = true
    · rw [if_pos h]
      have := aZ h
      show 1 + _ + _ + 3 * (prs n 0 .fls (nx (prs n 1 .fls s).2)).2.1.length ≤ _
      omega
    · rw [if_neg h]; omega
  | n + 1, 1, a, s => by
    have hp := a.size_pos
    have h1 := cN n 2 .fls s
    have h2 := cN n 4 (prs n 2 .fls s).1 (prs n 2 .fls s).2
    have e : Fm.fls.size = 1 := rfl
    rw [prs_1]; omega
  | n + 1, 2, a, s => by
    have hp := a.size_pos
    have h1 := cN n 3 .fls s
    have h2 := cN n 5 (prs n 3 .fls s).1 (prs n 3 .fls s).2
    have e : Fm.fls.size = 1 := rfl
    rw [prs_2]; omega
  | n + 1, 3, a, s => by
    have hp := a.size_pos
    have e : Fm.fls.size = 1 := rfl
    refine prs_3 (Q := fun r => r.1.size + 3 * r.2.1.length ≤ a.size + 3 * s.1.length) (fun h => ?_) (fun h => ?_) (fun h => ?_) (fun h => ?_) (fun h => ?_) (fun h => ?_) (fun v _ h => ?_) (fun _ _ _ _ _ _ _ => ?_)
    · have h1 := cN n 3 .fls (nx s)
      have := aZ h
      show 1 + _ + 1 + 3 * (prs n 3 .fls (nx s)).2.1.length ≤ _
      omega
    · have h1 := cN n 3 .fls (ndd 93 (nx s))
      have := aZ h
      have := kI 93 (nx s)
      show 1 + _ + 3 * (prs n 3 .fls (ndd 93 (nx s))).2.1.length ≤ _
      omega
    · have h1 := cN n 3 .fls (ndd 62 (nx s))
      have := aZ h
      have := kI 62 (nx s)
      show 1 + _ + 3 * (prs n 3 .fls (ndd 62 (nx s))).2.1.length ≤ _
      omega
    · have := aZ h
      show 1 + 3 * (nx s).1.length ≤ _
      omega
    · have := aZ h
      show 1 + 1 + 1 + 3 * (nx s).1.length ≤ _
      omega
    · have h1 := cN n 0 .fls (nx s)
      have := aZ h
      have := kI 41 (prs n 0 .fls (nx s)).2
      show (prs n 0 .fls (nx s)).1.size + 3 * (ndd 41 (prs n 0 .fls (nx s)).2).1.length ≤ _
      omega
    · have := aZ h
      show 1 + 3 * (nx s).1.length ≤ _
      omega
    · show 1 + 3 * s.1.length ≤ _
      omega
  | n + 1, 4, a, s => by
    have h1 := cN n 2 .fls (nx s)
    have h2 := cN n 4 (.or a (prs n 2 .fls (nx s)).1) (prs n 2 .fls (nx s)).2
    have e : Fm.fls.size = 1 := rfl
    have e2 : (Fm.or a (prs n 2 .fls (nx s)).1).size = 1 + a.size + (prs n 2 .fls (nx s)).1.size := rfl
    rw [prs_4]
    by_cases h : tk 124 s = true
    · rw [if_pos h]
      have := aZ h
      omega
    · rw [if_neg h]; exact Nat.le_refl _
  | n + 1, k + 5, a, s => by
    have h1 := cN n 3 .fls (nx s)
    have h2 := cN n 5 (.and a (prs n 3 .fls (nx s)).1) (prs n 3 .fls (nx s)).2
    have e : Fm.fls.size = 1 := rfl
    have e2 : (Fm.and a (prs n 3 .fls (nx s)).1).size = 1 + a.size + (prs n 3 .fls (nx s)).1.size := rfl
    rw [prs_5]
    by_cases h : tk 38 s = true
    · rw [if_pos h]
      have := aZ h
      omega
    · rw [if_neg h]; exact Nat.le_refl _
theorem jZ (s : RSt) : (nx s).1 <:+ s.1 := List.tail_suffix _
theorem NC (c : UInt8) (s : RSt) : (ndd c s).1 <:+ s.1 := by
  unfold ndd; split
  · exact jZ s
  · exact List.suffix_refl _
theorem bI : ∀ (n lv : Nat) (a : Fm) (s : RSt), (prs n lv a s).2.1 <:+ s.1
  | 0, _, _, _ => List.suffix_refl _
  | n + 1, 0, a, s => by
    have h1 := bI n 1 .fls s
    rw [prs_0]
    by_cases h : tk 62 (prs n 1 .fls s).2 = true
    · rw [if_pos h]; exact (bI n 0 .fls _).trans ((jZ _).trans h1)
    · rw [if_neg h]; exact h1
  | n + 1, 1, a, s => by rw [prs_1]; exact (bI n 4 _ _).trans (bI n 2 .fls s)
  | n + 1, 2, a, s => by rw [prs_2]; exact (bI n 5 _ _).trans (bI n 3 .fls s)
  | n + 1, 3, a, s =>
    prs_3 (Q := fun r => r.2.1 <:+ s.1) (fun _ => (bI n 3 .fls _).trans (jZ s)) (fun _ => (bI n 3 .fls _).trans ((NC _ _).trans (jZ s))) (fun _ => (bI n 3 .fls _).trans ((NC _ _).trans (jZ s)))
      (fun _ => jZ s) (fun _ => jZ s) (fun _ => (NC _ _).trans ((bI n 0 .fls _).trans (jZ s))) (fun _ _ _ => jZ s) (fun _ _ _ _ _ _ _ => List.suffix_refl _)
  | n + 1, 4, a, s => by
    rw [prs_4]
    by_cases h : tk 124 s = true
    · rw [if_pos h]; exact (bI n 4 _ _).trans ((bI n 2 .fls _).trans (jZ s))
    · rw [if_neg h]; exact List.suffix_refl _
  | n + 1, k + 5, a, s => by
    rw [prs_5]
    by_cases h : tk 38 s = true
    · rw [if_pos h]; exact (bI n 5 _ _).trans ((bI n 3 .fls _).trans (jZ s))
    · rw [if_neg h]; exact List.suffix_refl _
def Fm.good : Fm → Prop
  | .var v => v < 6
  | .fls => True
  | .and a b => a.good ∧ b.good
  | .or a b => a.good ∧ b.good
  | .imp a b => a.good ∧ b.good
  | .box a => a.good
  | .dia a => a.good
theorem cF : ∀ (n lv : Nat) (a : Fm) (s : RSt), a.good → (prs n lv a s).1.good
  | 0, _, _, _, h => h
  | n + 1, 0, a, s, _ => by
    have h1 := cF n 1 .fls s trivial
    rw [prs_0]
    by_cases h : tk 62 (prs n 1 .fls s).2 = true
    · rw [if_pos h]; exact ⟨h1, cF n 0 .fls _ trivial⟩
    · rw [if_neg h]; exact h1
  | n + 1, 1, a, s, _ => by rw [prs_1]; exact cF n 4 _ _ (cF n 2 .fls s trivial)
  | n + 1, 2, a, s, _ => by rw [prs_2]; exact cF n 5 _ _ (cF n 3 .fls s trivial)
  | n + 1, 3, a, s, _ =>
    prs_3 (Q := fun r => r.1.good) (fun _ => ⟨cF n 3 .fls _ trivial, trivial⟩) (fun _ => cF n 3 .fls _ trivial) (fun _ => cF n 3 .fls _ trivial) (fun _ => trivial) (fun _ => ⟨trivial, trivial⟩)
      (fun _ => cF n 0 .fls _ trivial) (fun _ hv _ => hv) (fun _ _ _ _ _ _ _ => trivial)
  | n + 1, 4, a, s, hg => by
    rw [prs_4]
    by_cases h : tk 124 s = true
    · rw [if_pos h]; exact cF n 4 _ _ ⟨hg, cF n 2 .fls _ trivial⟩
    · rw [if_neg h]; exact hg
  | n + 1, k + 5, a, s, hg => by
    rw [prs_5]
    by_cases h : tk 38 s = true
    · rw [if_pos h]; exact cF n 5 _ _ ⟨hg, cF n 3 .fls _ trivial⟩
    · rw [if_neg h]; exact hg
def fl (lv : Nat) : Nat := match lv with
  | 0 => 4
  | 1 => 3
  | 2 => 2
  | _ => 1
theorem c0 : ∀ (n lv : Nat) (a : Fm) (s : RSt), 8 * s.1.length + fl lv ≤ n → prs (n + 1) lv a s = prs n lv a s
  | 0, lv, _, s, h => by
    exfalso
    have : 1 ≤ fl lv := by unfold fl; split <;> omega
    omega
  | n + 1, 0, a, s, h => by
    have hf : fl 0 = 4 := rfl
    have hf1 : fl 1 = 3 := rfl
    have e1 := c0 n 1 .fls s (by omega)
    have hs := (bI n 1 .fls s).length_le
    rw [prs_0 (n + 1) a s, prs_0 n a s, e1]
    by_cases hk : tk 62 (prs n 1 .fls s).2 = true
    · rw [if_pos hk, if_pos hk]
      have := aZ hk
      rw [c0 n 0 .fls _ (by omega)]
    · rw [if_neg hk, if_neg hk]
  | n + 1, 1, a, s, h => by
    have hf : fl 1 = 3 := rfl
    have hf1 : fl 2 = 2 := rfl
    have hf2 : fl 4 = 1 := rfl
    have e1 := c0 n 2 .fls s (by omega)
    have hs := (bI n 2 .fls s).length_le
    rw [prs_1 (n + 1) a s, prs_1 n a s, e1, c0 n 4 _ _ (by omega)]
  | n + 1, 2, a, s, h => by
    have hf : fl 2 = 2 := rfl
    have hf1 : fl 3 = 1 := rfl
    have hf2 : fl 5 = 1 := rfl
    have e1 := c0 n 3 .fls s (by omega)
    have hs := (bI n 3 .fls s).length_le
    rw [prs_2 (n + 1) a s, prs_2 n a s, e1, c0 n 5 _ _ (by omega)]
  | n + 1, 3, a, s, h => by
    have hf : fl 3 = 1 := rfl
    have hf0 : fl 0 = 4 := rfl
    have key : ∀ c, tk c s = true → prs (n + 1) 3 .fls (nx s) = prs n 3 .fls (nx s) ∧ prs (n + 1) 0 .fls (nx s) = prs n 0 .fls (nx s) ∧ ∀ d, prs (n + 1) 3 .fls (ndd d (nx s)) = prs n 3 .fls (ndd d (nx s)) := fun c hc => by
      have := aZ hc
      refine ⟨c0 n 3 .fls _ (by omega), c0 n 0 .fls _ (by omega), fun d => c0 n 3 .fls _ ?_⟩
      have := kI d (nx s)
      omega
    have no : ∀ {c d : UInt8}, tk c s = true → c ≠ d → tk d s = false := fun h h' => LQ h h'
    refine prs_3 (n := n + 1) (Q := fun r => r = prs (n + 1) 3 a s) (fun h => ?_) (fun h => ?_) (fun h => ?_) (fun h => ?_) (fun h => ?_) (fun h => ?_) (fun v hv h => ?_) (fun h1 h2 h3 h4 h5 h6 h7 => ?_)
    · rw [(key _ h).1, prs, if_pos h]
    · rw [(key _ h).2.2, prs, no (d := 126) h (by decide), h]; rfl
    · rw [(key _ h).2.2, prs, no (d := 126) h (by decide), no (d := 91) h (by decide), h]; rfl
    · rw [prs, no (d := 126) h (by decide), no (d := 91) h (by decide), no (d := 60) h (by decide), h]; rfl
    · rw [prs, no (d := 126) h (by decide), no (d := 91) h (by decide), no (d := 60) h (by decide), no (d := 70) h (by decide), h]; rfl
    · rw [(key _ h).2.1, prs, no (d := 126) h (by decide), no (d := 91) h (by decide), no (d := 60) h (by decide), no (d := 70) h (by decide), no (d := 84) h (by decide), h]; rfl
    · have hv : v = 0 ∨ v = 1 ∨ v = 2 ∨ v = 3 ∨ v = 4 ∨ v = 5 := by omega
      have e : ∀ d : UInt8, vl v ≠ d → tk d s = false := fun d hd => no h hd
      rw [prs]
      rcases hv with rfl | rfl | rfl | rfl | rfl | rfl
      · rw [e 126 (by decide), e 91 (by decide), e 60 (by decide), e 70 (by decide), e 84 (by decide), e 40 (by decide), show tk 112 s = true from h]; rfl
      · rw [e 126 (by decide), e 91 (by decide), e 60 (by decide), e 70 (by decide), e 84 (by decide), e 40 (by decide), e 112 (by decide), show tk 113 s = true from h]; rfl
      · rw [e 126 (by decide), e 91 (by decide), e 60 (by decide), e 70 (by decide), e 84 (by decide), e 40 (by decide), e 112 (by decide), e 113 (by decide), show tk 114 s = true from h]; rfl
      · rw [e 126 (by decide), e 91 (by decide), e 60 (by decide), e 70 (by decide), e 84 (by decide), e 40 (by decide), e 112 (by decide), e 113 (by decide), e 114 (by decide), show tk 115 s = true from h]; rfl
      · rw [e 126 (by decide), e 91 (by decide), e 60 (by decide), e 70 (by decide), e 84 (by decide), e 40 (by decide), e 112 (by decide), e 113 (by decide), e 114 (by decide), e 115 (by decide), show tk 116 s = true from h]; rfl
      · rw [e 126 (by decide), e 91 (by decide), e 60 (by decide), e 70 (by decide), e 84 (by decide), e 40 (by decide), e 112 (by decide), e 113 (by decide), e 114 (by decide), e 115 (by decide), e 116 (by decide), show tk 117 s = true from h]; rfl
    · rw [prs, h1, h2, h3, h4, h5, h6, show tk 112 s = false from h7 0 (by omega), show tk 113 s = false from h7 1 (by omega), show tk 114 s = false from h7 2 (by omega), show tk 115 s = false from h7 3 (by omega), show tk 116 s = false from h7 4 (by omega), show tk 117 s = false from h7 5 (by omega)]; rfl
  | n + 1, 4, a, s, h => by
    have hf : fl 4 = 1 := rfl
    have hf1 : fl 2 = 2 := rfl
    rw [prs_4 (n + 1) a s, prs_4 n a s]
    by_cases hk : tk 124 s = true
    · rw [if_pos hk, if_pos hk]
      have := aZ hk
      have e1 := c0 n 2 .fls (nx s) (by omega)
      have hs := (bI n 2 .fls (nx s)).length_le
      rw [e1, c0 n 4 _ _ (by omega)]
    · rw [if_neg hk, if_neg hk]
  | n + 1, k + 5, a, s, h => by
    have hf : fl (k + 5) = 1 := rfl
    have hf1 : fl 3 = 1 := rfl
    have hf5 : fl 5 = 1 := rfl
    rw [prs_5 (n + 1) k a s, prs_5 n k a s]
    by_cases hk : tk 38 s = true
    · rw [if_pos hk, if_pos hk]
      have := aZ hk
      have e1 := c0 n 3 .fls (nx s) (by omega)
      have hs := (bI n 3 .fls (nx s)).length_le
      rw [e1, c0 n 5 _ _ (by omega)]
    · rw [if_neg hk, if_neg hk]
theorem VD {n m lv : Nat} {a : Fm} {s : RSt} (h : 8 * s.1.length + fl lv ≤ n) (hm : n ≤ m) : prs m lv a s = prs n lv a s := by
  induction hm with
  | refl => rfl
  | step hm ih => rw [c0 _ _ _ _ (Nat.le_trans h hm), ih]
def rd (t : Str) : Fm × RSt := prs (8 * t.length + 4) 0 .fls (t, false)
end Go.Vc

namespace Go.Vc
section
variable {P : Program} {w : World}
theorem iAppZ {k n bytes : Nat} {t ti ty e : TypeId} {z : Value} {K : Value → World → Prop} (ht : P.underlying t = some (.slice e)) (hti : P.underlying ti = some (.int .i64)) (hi : (P.info? e).map (fun i => (i.zero, i.size, i.bytes)) = some (some z, k, bytes)) (hz : z.cells.size = k)
    (h0 : 0 < n) (hb : n * bytes ≤ 140737488355328) (hm : n ≤ 9223372036854775807)
    (h : ∀ b c w' cs, n ≤ c → c ≤ 9223372036854775807 → cs.length = c * k → Ext w w' → b = w.heap.size → Blk e w' b cs → K (.slice (some ⟨b, 0, none⟩) n c) w') : xOp P (Builtin.append_ #[t, ti] ty #[.slice none 0 0, .int .i64 (n : Int)]) w K := by
  obtain ⟨i, hi', h3⟩ := Option.map_eq_some_iff.1 hi
  clear hi
  simp only [Prod.mk.injEq] at h3
  obtain ⟨hz0, hsz, hby⟩ := h3
  subst hsz
  subst hby
  have hn : n ≠ 0 := by omega
  have hw : IntKind.i64.wrap (n : Int) = (n : Int) := IntWalk.i64_in _ (by omega)
  have h63' : ¬ (9223372036854775807 < (n : Int)) := by omega
  have h48 : ¬ ((281474976710656 : Int) < (n : Int) * (i.bytes : Int)) := by
    have : (n : Int) * (i.bytes : Int) = ((n * i.bytes : Nat) : Int) := by simp
    rw [this]; omega
  have h48' : ¬ (281474976710656 < Builtin.nextslicecap n 0 * i.bytes) := by rw [nextslicecap_zero h0]; omega
  have hneg : ¬ ((n : Int) < 0) := by omega
  have hge := grownCap_ge w n 0 e
  have hcm := grownCap_le_maxLen w n 0 e (by simpa [maxLen] using hm)
  have hrun : (Builtin.append_ #[t, ti] ty #[.slice none 0 0, .int .i64 (n : Int)]).run P w =
      .ok (.slice (some ⟨w.heap.size, 0, none⟩) n (grownCap w n 0 e)) (w.drew.alloc (.cells ((if n * i.size = 0 then #[] else Builtin.zeroCells z.cells n) ++ Builtin.zeroCells z.cells (grownCap w n 0 e - n)) e)) := by
    by_cases hk : n * i.size = 0
    · simp [Builtin.append_, run_underlying ht, run_underlying hti, sizeOf, typeInfo, zeroValue, hi', hz0, asInt, asIntOf, hw, hneg, hn, h63', h48, h48', hk, Question.forced, run_firstCells_none, newRow, grownCap]
    · simp [Builtin.append_, run_underlying ht, run_underlying hti, sizeOf, typeInfo, zeroValue, hi', hz0, asInt, asIntOf, hw, hneg, hn, h63', h48, h48', hk, Question.forced, run_firstCells_none, newRow, grownCap]
  refine ⟨_, _, hrun, ?_⟩
  have hB := Blk.new w.drew ((if n * i.size = 0 then #[] else Builtin.zeroCells z.cells n) ++ Builtin.zeroCells z.cells (grownCap w n 0 e - n)) e
  refine h _ _ _ _ hge (by simpa [maxLen] using hcm) ?_ ((Ext.drew w).trans (Ext.alloc _ _)) rfl hB
  rw [Array.length_toList, Array.size_append, size_zeroCells, hz]
  by_cases hk : n * i.size = 0
  · rw [if_pos hk]
    have : i.size = 0 := by
      rcases Nat.mul_eq_zero.1 hk with h | h
      · omega
      · exact h
    rw [this]; simp
  · rw [if_neg hk, size_zeroCells, hz, ← Nat.add_mul]
    congr 1; omega
theorem iCapL {t ty : TypeId} {e : TypeId} {a : Option Addr} {n c : Nat} {K : Value → Prop} (ht : P.underlying t = some (.slice e)) (h : K (.int .i64 (c : Int))) : xR P w (Builtin.cap_ #[t] ty #[.slice a n c]) K :=
  ⟨_, fun w' _ => by simp [Builtin.cap_, run_underlying ht, goInt], h⟩
theorem lZ (l : List Nat) {i : Nat} (h : i < l.length) : (l.take (i + 1)).sum = (l.take i).sum + l[i] := by
  rw [List.take_succ_eq_append_getElem h, List.sum_append]; simp
theorem i7 (l : List Nat) (i : Nat) : (l.take i).sum ≤ l.sum := by
  have := congrArg List.sum (List.take_append_drop i l)
  rw [List.sum_append] at this; omega
end
end Go.Vc
namespace Go.Proofs.YtcfnoofghbmiiaaGreatDoor
open Go.Vc
abbrev bC : Nat := 2
abbrev uP := dZ
abbrev bB := aF
theorem dI : Tryz.prog.underlying uP = some (.slice bB) := eG
theorem kK : (Tryz.prog.info? bB).map (fun i => (i.zero, i.size, i.bytes)) = some (some (.agg #[.int .i64 0, .int .i64 0]), bC, 16) := eA
abbrev bX : Nat := 1
abbrev GL := NX
abbrev bY := aA
theorem gQ : Tryz.prog.underlying GL = some (.slice bY) := hY
theorem rK : (Tryz.prog.info? bY).map (fun i => (i.zero, i.size, i.bytes)) = some (some (.string ⟨#[]⟩), bX, 16) := hZ
theorem pA (n : Nat) (hn : n ≤ 1099511627776) (w : World) : Cal Tryz.prog eU #[.slice none 0 0, .int .i64 (n : Int)] w fun r w' => Ext w w' ∧ OwK bC w.heap.size bB w' r 0 [] := by
  apply kT; unfold eY
  ((with_reducible refine iLt ?_; refine iJn ?_))
  refine iCndP (fun h => by omega) (fun _ => ?_)
  intro _
  refine iCapL (e := bB) dI ?_
  ((with_reducible refine iLenL ?_); refine iSub (by omega) ?_; refine iSub (by omega) ?_; (with_reducible refine iLt ?_))
  refine iCndP (fun h => ?_) (fun _ => ⟨Ext.refl w, OwK.nil _ _ _ _⟩)
  refine iCapL (e := bB) dI ?_
  refine ⟨none, 0, 0, 0, 0, rfl, ⟨_, rfl⟩, rfl, Nat.le_refl _, Nat.le_refl _, ?_⟩
  have e1 : (n : Int) - (((0 : Nat) : Int) - ((0 : Nat) : Int)) = (n : Int) := by omega
  rw [e1]
  refine iAppZ (k := bC) dI (by kernel_rfl) kK rfl (by omega) (by omega) (by omega) fun b c w' cs hnc hcm hcl hX hb hB => ?_
  ((with_reducible refine iLenL ?_))
  refine ⟨some ⟨b, 0, none⟩, n, c, 0, 0, rfl, ⟨_, rfl⟩, rfl, Nat.le_refl _, Nat.zero_le _, ?_⟩
  rw [if_neg (by omega)]
  refine ⟨hX, ?_⟩
  have e2 : (some (⟨b, 0, none⟩ : Addr)).map (·.add (0 * bC)) = some ⟨b, 0, none⟩ := by simp [Addr.add]
  rw [e2]
  exact ⟨rfl, .inr ⟨b, c, cs.toArray, rfl, by omega, hB, Nat.zero_le _, hcm, by simpa using hcl, by simp⟩⟩
theorem fY {v : Value} {w : World} {vs : List Value} {ps : List (Nat × List Value)} (hs : Sl w v vs) (hl : vs.length = ps.length) (hp : ∀ (i : Nat) (h1 : i < vs.length) (h2 : i < ps.length), SlK bC w vs[i] ps[i].1 ps[i].2) (hc : ∀ p ∈ ps, ∀ u ∈ p.2, aC u = true) (hb : (ps.map Prod.fst).sum ≤ 1099511627776) :
    Cal Tryz.prog eC #[v] w fun r w' => Ext w w' ∧ OwK bC w.heap.size bB w' r (ps.map Prod.fst).sum (ps.flatMap Prod.snd) := by
  apply j5; unfold dW
  have hlen := hs.len
  have hpl : (ps.map Prod.fst).length = ps.length := List.length_map _
  refine iLenS hs ?_
  refine iLp (fun s : Nat × Nat => [.int .i64 (s.1 : Int), .int .i64 (s.2 : Int)]) (fun s w' => s.2 ≤ vs.length ∧ w' = w ∧ s.1 = ((ps.map Prod.fst).take s.2).sum) (fun s => vs.length - s.2) (0, 0) rfl ⟨Nat.zero_le _, rfl, rfl⟩ ?_
  rintro ⟨m, i⟩ w2 Kn ⟨hi, rfl, hm⟩ hKn
  have hi : i ≤ vs.length := hi
  have hm : m = ((ps.map Prod.fst).take i).sum := hm
  have hmle := i7 (ps.map Prod.fst) i
  (intro _; (try simp only [gx]); (with_reducible refine iLt ?_))
  refine iCndP (fun h1 => ?_) (fun h1 => ?_)
  · have hi1 : i < vs.length := by omega
    have hsi := hp i hi1 (by omega)
    have hst := lZ (ps.map Prod.fst) (i := i) (by omega)
    rw [List.getElem_map] at hst
    have hmle1 := i7 (ps.map Prod.fst) (i + 1)
    refine iIa hs (by omega) (by omega) fun p hpc => ?_
    rw [Int.toNat_natCast, List.getElem?_eq_getElem hi1] at hpc
    refine iLd hpc ?_
    refine iLenK hsi ?_
    (refine iAdd (by omega) ?_; (with_reducible refine iLt ?_))
    refine iCndP (fun h2 => by omega) (fun _ => ?_)
    (refine iAdd (by omega) ?_)
    have e1 : (m : Int) + ((ps[i].1 : Nat) : Int) = ((m + ps[i].1 : Nat) : Int) := by omega
    rw [e1]
    exact hKn (m + ps[i].1, i + 1) _ ⟨by show i + 1 ≤ _; omega, rfl, by show m + ps[i].1 = ((ps.map Prod.fst).take (i + 1)).sum; omega⟩ (by show vs.length - (i + 1) < vs.length - i; omega)
  · have e : i = vs.length := by omega
    have hm2 : m = (ps.map Prod.fst).sum := by rw [hm, List.take_of_length_le (by omega)]
    refine iCall ((pA m (by omega) w2).mono ?_)
    rintro r w4 ⟨h4, ho4⟩
    refine iLenS hs ?_
    refine iLp (fun s : Value × Nat => [s.1, .int .i64 (s.2 : Int)]) (fun s w' => s.2 ≤ vs.length ∧ Ext w2 w' ∧ OwK bC w2.heap.size bB w' s.1 ((ps.map Prod.fst).take s.2).sum ((ps.take s.2).flatMap Prod.snd)) (fun s => vs.length - s.2) (r, 0) rfl ⟨Nat.zero_le _, h4, ho4⟩ ?_
    rintro ⟨z, j⟩ w6 Kn6 ⟨hj, h6, ho6⟩ hKn6
    have hj : j ≤ vs.length := hj
    have ho6 : OwK bC w2.heap.size bB w6 z ((ps.map Prod.fst).take j).sum ((ps.take j).flatMap Prod.snd) := ho6
    (intro _; (try simp only [gx]); (with_reducible refine iLt ?_))
    refine iCndP (fun h7 => ?_) (fun h7 => ?_)
    · have hj1 : j < vs.length := by omega
      have hsj := (hp j hj1 (by omega)).ext h6
      have hst := lZ (ps.map Prod.fst) (i := j) (by omega)
      rw [List.getElem_map] at hst
      have hmle1 := i7 (ps.map Prod.fst) (j + 1)
      have hs6 := hs.ext h6
      refine iIa hs6 (by omega) (by omega) fun p hpc => ?_
      rw [Int.toNat_natCast, List.getElem?_eq_getElem hj1] at hpc
      refine iLd hpc ?_
      refine iAppK dI kK rfl (by decide) ho6 hsj (hc _ (List.getElem_mem _)) (by omega) (by omega) h6.size fun v' w8 ho8 hg8 _ => ?_
      (refine iAdd (by omega) ?_)
      have ef : (ps.take (j + 1)).flatMap Prod.snd = (ps.take j).flatMap Prod.snd ++ ps[j].2 := by
        rw [List.take_succ_eq_append_getElem (by omega), List.flatMap_append]; simp
      rw [← hst, ← ef] at ho8
      exact hKn6 (v', j + 1) _ ⟨by show j + 1 ≤ _; omega, h6.grown hg8 (fun c hc => (ho6.blk c hc).1), ho8⟩ (by show vs.length - (j + 1) < vs.length - j; omega)
    · have e : j = vs.length := by omega
      rw [List.take_of_length_le (by omega), List.take_of_length_le (by omega)] at ho6
      exact ⟨h6, ho6⟩
theorem yH (n : Nat) (hn : n ≤ 1099511627776) (w : World) : Cal Tryz.prog gZ #[.slice none 0 0, .int .i64 (n : Int)] w fun r w' => Ext w w' ∧ OwK bX w.heap.size bY w' r 0 [] := by
  apply o9; unfold gW
  ((with_reducible refine iLt ?_; refine iJn ?_))
  refine iCndP (fun h => by omega) (fun _ => ?_)
  intro _
  refine iCapL (e := bY) gQ ?_
  ((with_reducible refine iLenL ?_); refine iSub (by omega) ?_; refine iSub (by omega) ?_; (with_reducible refine iLt ?_))
  refine iCndP (fun h => ?_) (fun _ => ⟨Ext.refl w, OwK.nil _ _ _ _⟩)
  refine iCapL (e := bY) gQ ?_
  refine ⟨none, 0, 0, 0, 0, rfl, ⟨_, rfl⟩, rfl, Nat.le_refl _, Nat.le_refl _, ?_⟩
  have e1 : (n : Int) - (((0 : Nat) : Int) - ((0 : Nat) : Int)) = (n : Int) := by omega
  rw [e1]
  refine iAppZ (k := bX) gQ (by kernel_rfl) rK rfl (by omega) (by omega) (by omega) fun b c w' cs hnc hcm hcl hX hb hB => ?_
  ((with_reducible refine iLenL ?_))
  refine ⟨some ⟨b, 0, none⟩, n, c, 0, 0, rfl, ⟨_, rfl⟩, rfl, Nat.le_refl _, Nat.zero_le _, ?_⟩
  rw [if_neg (by omega)]
  refine ⟨hX, ?_⟩
  have e2 : (some (⟨b, 0, none⟩ : Addr)).map (·.add (0 * bX)) = some ⟨b, 0, none⟩ := by simp [Addr.add]
  rw [e2]
  exact ⟨rfl, .inr ⟨b, c, cs.toArray, rfl, by omega, hB, Nat.zero_le _, hcm, by simpa using hcl, by simp⟩⟩
theorem uA {v : Value} {w : World} {vs : List Value} {ps : List (Nat × List Value)} (hs : Sl w v vs) (hl : vs.length = ps.length) (hp : ∀ (i : Nat) (h1 : i < vs.length) (h2 : i < ps.length), SlK bX w vs[i] ps[i].1 ps[i].2) (hc : ∀ p ∈ ps, ∀ u ∈ p.2, aC u = true) (hb : (ps.map Prod.fst).sum ≤ 1099511627776) :
    Cal Tryz.prog fX #[v] w fun r w' => Ext w w' ∧ OwK bX w.heap.size bY w' r (ps.map Prod.fst).sum (ps.flatMap Prod.snd) := by
  apply nH; unfold f5
  have hlen := hs.len
  have hpl : (ps.map Prod.fst).length = ps.length := List.length_map _
  refine iLenS hs ?_
  refine iLp (fun s : Nat × Nat => [.int .i64 (s.1 : Int), .int .i64 (s.2 : Int)]) (fun s w' => s.2 ≤ vs.length ∧ w' = w ∧ s.1 = ((ps.map Prod.fst).take s.2).sum) (fun s => vs.length - s.2) (0, 0) rfl ⟨Nat.zero_le _, rfl, rfl⟩ ?_
  rintro ⟨m, i⟩ w2 Kn ⟨hi, rfl, hm⟩ hKn
  have hi : i ≤ vs.length := hi
  have hm : m = ((ps.map Prod.fst).take i).sum := hm
  have hmle := i7 (ps.map Prod.fst) i
  (intro _; (try simp only [gx]); (with_reducible refine iLt ?_))
  refine iCndP (fun h1 => ?_) (fun h1 => ?_)
  · have hi1 : i < vs.length := by omega
    have hsi := hp i hi1 (by omega)
    have hst := lZ (ps.map Prod.fst) (i := i) (by omega)
    rw [List.getElem_map] at hst
    have hmle1 := i7 (ps.map Prod.fst) (i + 1)
    refine iIa hs (by omega) (by omega) fun p hpc => ?_
    rw [Int.toNat_natCast, List.getElem?_eq_getElem hi1] at hpc
    refine iLd hpc ?_
    refine iLenK hsi ?_
    (refine iAdd (by omega) ?_; (with_reducible refine iLt ?_))
    refine iCndP (fun h2 => by omega) (fun _ => ?_)
    (refine iAdd (by omega) ?_)
    have e1 : (m : Int) + ((ps[i].1 : Nat) : Int) = ((m + ps[i].1 : Nat) : Int) := by omega
    rw [e1]
    exact hKn (m + ps[i].1, i + 1) _ ⟨by show i + 1 ≤ _; omega, rfl, by show m + ps[i].1 = ((ps.map Prod.fst).take (i + 1)).sum; omega⟩ (by show vs.length - (i + 1) < vs.length - i; omega)
  · have e : i = vs.length := by omega
    have hm2 : m = (ps.map Prod.fst).sum := by rw [hm, List.take_of_length_le (by omega)]
    refine iCall ((yH m (by omega) w2).mono ?_)
    rintro r w4 ⟨h4, ho4⟩
    refine iLenS hs ?_
    refine iLp (fun s : Value × Nat => [s.1, .int .i64 (s.2 : Int)]) (fun s w' => s.2 ≤ vs.length ∧ Ext w2 w' ∧ OwK bX w2.heap.size bY w' s.1 ((ps.map Prod.fst).take s.2).sum ((ps.take s.2).flatMap Prod.snd)) (fun s => vs.length - s.2) (r, 0) rfl ⟨Nat.zero_le _, h4, ho4⟩ ?_
    rintro ⟨z, j⟩ w6 Kn6 ⟨hj, h6, ho6⟩ hKn6
    have hj : j ≤ vs.length := hj
    have ho6 : OwK bX w2.heap.size bY w6 z ((ps.map Prod.fst).take j).sum ((ps.take j).flatMap Prod.snd) := ho6
    (intro _; (try simp only [gx]); (with_reducible refine iLt ?_))
    refine iCndP (fun h7 => ?_) (fun h7 => ?_)
    · have hj1 : j < vs.length := by omega
      have hsj := (hp j hj1 (by omega)).ext h6
      have hst := lZ (ps.map Prod.fst) (i := j) (by omega)
      rw [List.getElem_map] at hst
      have hmle1 := i7 (ps.map Prod.fst) (j + 1)
      have hs6 := hs.ext h6
      refine iIa hs6 (by omega) (by omega) fun p hpc => ?_
      rw [Int.toNat_natCast, List.getElem?_eq_getElem hj1] at hpc
      refine iLd hpc ?_
      refine iAppK gQ rK rfl (by decide) ho6 hsj (hc _ (List.getElem_mem _)) (by omega) (by omega) h6.size fun v' w8 ho8 hg8 _ => ?_
      (refine iAdd (by omega) ?_)
      have ef : (ps.take (j + 1)).flatMap Prod.snd = (ps.take j).flatMap Prod.snd ++ ps[j].2 := by
        rw [List.take_succ_eq_append_getElem (by omega), List.flatMap_append]; simp
      rw [← hst, ← ef] at ho8
      exact hKn6 (v', j + 1) _ ⟨by show j + 1 ≤ _; omega, h6.grown hg8 (fun c hc => (ho6.blk c hc).1), ho8⟩ (by show vs.length - (j + 1) < vs.length - j; omega)
    · have e : j = vs.length := by omega
      rw [List.take_of_length_le (by omega), List.take_of_length_le (by omega)] at ho6
      exact ⟨h6, ho6⟩
end Go.Proofs.YtcfnoofghbmiiaaGreatDoor

namespace Go.Vc
def Fm.eqb : Fm → Fm → Bool
  | .var v, .var u => v == u
  | .fls, .fls => true
  | .and a b, .and c d => eqb a c && eqb b d
  | .or a b, .or c d => eqb a c && eqb b d
  | .imp a b, .imp c d => eqb a c && eqb b d
  | .box a, .box c => eqb a c
  | .dia a, .dia c => eqb a c
  | _, _ => false
theorem Fm.eqb_iff : ∀ a b : Fm, Fm.eqb a b = true ↔ a = b := by
  intro a
  induction a with
  | var v => intro b; cases b <;> simp [Fm.eqb]
  | fls => intro b; cases b <;> simp [Fm.eqb]
  | and x y hx hy => intro b; cases b <;> simp [Fm.eqb, hx, hy]
  | or x y hx hy => intro b; cases b <;> simp [Fm.eqb, hx, hy]
  | imp x y hx hy => intro b; cases b <;> simp [Fm.eqb, hx, hy]
  | box x hx => intro b; cases b <;> simp [Fm.eqb, hx]
  | dia x hx => intro b; cases b <;> simp [Fm.eqb, hx]
instance : DecidableEq Fm := fun a b => decidable_of_iff _ (Fm.eqb_iff a b)
def Fm.own : Fm → Nat
  | .imp _ b => if b = .fls then 3 else 0
  | .or _ _ => 1
  | .and _ _ => 2
  | _ => 3
def par (b : Bool) (s : Str) : Str := if b then 40 :: (s ++ [41]) else s
def Fm.body : Fm → Str
  | .var v => [vl v]
  | .fls => [70]
  | .and a b => par (decide (a.own < 2)) a.body ++ 38 :: par (decide (b.own < 3)) b.body
  | .or a b => par (decide (a.own < 1)) a.body ++ 124 :: par (decide (b.own < 2)) b.body
  | .imp a b => if b = .fls then (if a = .fls then [84] else 126 :: par (decide (a.own < 3)) a.body) else par (decide (a.own < 1)) a.body ++ 62 :: b.body
  | .box a => 91 :: 93 :: par (decide (a.own < 3)) a.body
  | .dia a => 60 :: 62 :: par (decide (a.own < 3)) a.body
def Fm.txt (lv : Nat) (a : Fm) : Str := par (decide (a.own < lv)) a.body
def rdL (lv : Nat) (a : Fm) (s : RSt) : Fm × RSt := prs (8 * s.1.length + fl lv) lv a s
theorem e8 {n lv : Nat} {a : Fm} {s : RSt} (h : 8 * s.1.length + fl lv ≤ n) : prs n lv a s = rdL lv a s := VD (Nat.le_refl _) h
theorem rdL0 (a : Fm) (s : RSt) : rdL 0 a s = if tk 62 (rdL 1 .fls s).2 then (.imp (rdL 1 .fls s).1 (rdL 0 .fls (nx (rdL 1 .fls s).2)).1, (rdL 0 .fls (nx (rdL 1 .fls s).2)).2) else rdL 1 .fls s := by
  have e1 : prs (8 * s.1.length + 3) 1 .fls s = rdL 1 .fls s := e8 (Nat.le_refl _)
  have hs : (rdL 1 .fls s).2.1.length ≤ s.1.length := (bI _ 1 .fls s).length_le
  show prs (8 * s.1.length + 3 + 1) 0 a s = _
  rw [prs, e1]
  split
  · rename_i h
    have := aZ h
    rw [e8 (lv := 0) (by show _ + 4 ≤ _; omega)]
  · rfl
theorem rdL1 (a : Fm) (s : RSt) : rdL 1 a s = rdL 4 (rdL 2 .fls s).1 (rdL 2 .fls s).2 := by
  have e1 : prs (8 * s.1.length + 2) 2 .fls s = rdL 2 .fls s := e8 (Nat.le_refl _)
  have hs : (rdL 2 .fls s).2.1.length ≤ s.1.length := (bI _ 2 .fls s).length_le
  show prs (8 * s.1.length + 2 + 1) 1 a s = _
  rw [prs, e1, e8 (lv := 4) (by show _ + 1 ≤ _; omega)]
theorem rdL2 (a : Fm) (s : RSt) : rdL 2 a s = rdL 5 (rdL 3 .fls s).1 (rdL 3 .fls s).2 := by
  have e1 : prs (8 * s.1.length + 1) 3 .fls s = rdL 3 .fls s := e8 (Nat.le_refl _)
  have hs : (rdL 3 .fls s).2.1.length ≤ s.1.length := (bI _ 3 .fls s).length_le
  show prs (8 * s.1.length + 1 + 1) 2 a s = _
  rw [prs, e1, e8 (lv := 5) (by show _ + 1 ≤ _; omega)]
theorem rdL4 (a : Fm) (s : RSt) : rdL 4 a s = if tk 124 s then rdL 4 (.or a (rdL 2 .fls (nx s)).1) (rdL 2 .fls (nx s)).2 else (a, s) := by
  show prs (8 * s.1.length + 1) 4 a s = _
  rw [prs]
  split
  · rename_i h
    have := aZ h
    have hs : (rdL 2 .fls (nx s)).2.1.length ≤ (nx s).1.length := (bI _ 2 .fls _).length_le
    rw [e8 (lv := 2) (by show _ + 2 ≤ _; omega), e8 (lv := 4) (by show _ + 1 ≤ _; omega)]
  · rfl
theorem rdL5 (a : Fm) (s : RSt) : rdL 5 a s = if tk 38 s then rdL 5 (.and a (rdL 3 .fls (nx s)).1) (rdL 3 .fls (nx s)).2 else (a, s) := by
  show prs (8 * s.1.length + 1) (0 + 5) a s = _
  rw [prs_5]
  split
  · rename_i h
    have := aZ h
    have hs : (rdL 3 .fls (nx s)).2.1.length ≤ (nx s).1.length := (bI _ 3 .fls _).length_le
    rw [e8 (lv := 3) (by show _ + 1 ≤ _; omega), e8 (lv := 5) (by show _ + 1 ≤ _; omega)]
  · rfl
theorem rdL3 {Q : Fm × RSt → Prop} {a : Fm} {s : RSt} (h1 : tk 126 s = true → Q (.imp (rdL 3 .fls (nx s)).1 .fls, (rdL 3 .fls (nx s)).2))
    (h2 : tk 91 s = true → Q (.box (rdL 3 .fls (ndd 93 (nx s))).1, (rdL 3 .fls (ndd 93 (nx s))).2)) (h3 : tk 60 s = true → Q (.dia (rdL 3 .fls (ndd 62 (nx s))).1, (rdL 3 .fls (ndd 62 (nx s))).2))
    (h4 : tk 70 s = true → Q (.fls, nx s)) (h5 : tk 84 s = true → Q (.imp .fls .fls, nx s)) (h6 : tk 40 s = true → Q ((rdL 0 .fls (nx s)).1, ndd 41 (rdL 0 .fls (nx s)).2))
    (h7 : ∀ v, v < 6 → tk (vl v) s = true → Q (.var v, nx s)) (h8 : tk 126 s = false → tk 91 s = false → tk 60 s = false → tk 70 s = false → tk 84 s = false → tk 40 s = false → (∀ v, v < 6 → tk (vl v) s = false) → Q (.fls, (s.1, true))) : Q (rdL 3 a s) := by
  have key : ∀ c, tk c s = true → prs (8 * s.1.length) 3 .fls (nx s) = rdL 3 .fls (nx s) ∧ prs (8 * s.1.length) 0 .fls (nx s) = rdL 0 .fls (nx s) ∧ ∀ d, prs (8 * s.1.length) 3 .fls (ndd d (nx s)) = rdL 3 .fls (ndd d (nx s)) := fun c hc => by
    have := aZ hc
    refine ⟨e8 (by show _ + 1 ≤ _; omega), e8 (by show _ + 4 ≤ _; omega), fun d => e8 ?_⟩
    have := kI d (nx s)
    show _ + 1 ≤ _; omega
  show Q (prs (8 * s.1.length + 1) 3 a s)
  refine prs_3 (fun h => ?_) (fun h => ?_) (fun h => ?_) h4 h5 (fun h => ?_) h7 h8
  · rw [(key _ h).1]; exact h1 h
  · rw [(key _ h).2.2]; exact h2 h
  · rw [(key _ h).2.2]; exact h3 h
  · rw [(key _ h).2.1]; exact h6 h
theorem o7 {a : Fm} (c : UInt8) (l : Str) (r : Fm × RSt) (h1 : c = 126 → (.imp (rdL 3 .fls (l, false)).1 .fls, (rdL 3 .fls (l, false)).2) = r)
    (h2 : c = 91 → (.box (rdL 3 .fls (ndd 93 (l, false))).1, (rdL 3 .fls (ndd 93 (l, false))).2) = r) (h3 : c = 60 → (.dia (rdL 3 .fls (ndd 62 (l, false))).1, (rdL 3 .fls (ndd 62 (l, false))).2) = r)
    (h4 : c = 70 → (.fls, (l, false)) = r) (h5 : c = 84 → (.imp .fls .fls, (l, false)) = r) (h6 : c = 40 → ((rdL 0 .fls (l, false)).1, ndd 41 (rdL 0 .fls (l, false)).2) = r)
    (h7 : ∀ v, v < 6 → c = vl v → (.var v, (l, false)) = r) (h8 : c ≠ 126 → c ≠ 91 → c ≠ 60 → c ≠ 70 → c ≠ 84 → c ≠ 40 → (∀ v, v < 6 → c ≠ vl v) → False) : rdL 3 a (c :: l, false) = r := by
  have e : ∀ d, tk d (c :: l, false) = true ↔ c = d := fun d => by simp [tk]
  have e' : ∀ d, tk d (c :: l, false) = false ↔ c ≠ d := fun d => by simp [tk]
  refine rdL3 (Q := fun x => x = r) (fun h => h1 ((e _).1 h)) (fun h => h2 ((e _).1 h)) (fun h => h3 ((e _).1 h)) (fun h => h4 ((e _).1 h)) (fun h => h5 ((e _).1 h)) (fun h => h6 ((e _).1 h)) (fun v hv h => h7 v hv ((e _).1 h)) fun a1 a2 a3 a4 a5 a6 a7 => (h8 ((e' _).1 a1) ((e' _).1 a2) ((e' _).1 a3) ((e' _).1 a4) ((e' _).1 a5) ((e' _).1 a6) fun v hv => (e' _).1 (a7 v hv)).elim
theorem vl_ne {v : Nat} (hv : v < 6) {d : UInt8} (h : d.toNat < 112) : vl v ≠ d := by
  have : v = 0 ∨ v = 1 ∨ v = 2 ∨ v = 3 ∨ v = 4 ∨ v = 5 := by omega
  intro e
  subst e
  rcases this with rfl | rfl | rfl | rfl | rfl | rfl <;> exact absurd h (by decide)
theorem oY (a : Fm) (l : Str) : rdL 3 a (126 :: l, false) = (.imp (rdL 3 .fls (l, false)).1 .fls, (rdL 3 .fls (l, false)).2) ∧ rdL 3 a (91 :: l, false) = (.box (rdL 3 .fls (ndd 93 (l, false))).1, (rdL 3 .fls (ndd 93 (l, false))).2) ∧
    rdL 3 a (60 :: l, false) = (.dia (rdL 3 .fls (ndd 62 (l, false))).1, (rdL 3 .fls (ndd 62 (l, false))).2) ∧ rdL 3 a (70 :: l, false) = (.fls, (l, false)) ∧ rdL 3 a (84 :: l, false) = (.imp .fls .fls, (l, false)) ∧
    rdL 3 a (40 :: l, false) = ((rdL 0 .fls (l, false)).1, ndd 41 (rdL 0 .fls (l, false)).2) ∧ ∀ v, v < 6 → rdL 3 a (vl v :: l, false) = (.var v, (l, false)) := by
  have no : ∀ {v : Nat} {d : UInt8} {Q : Prop}, v < 6 → d.toNat < 112 → d = vl v → Q := fun hv hd e => absurd e.symm (vl_ne hv hd)
  refine ⟨?_, ?_, ?_, ?_, ?_, ?_, fun v hv => ?_⟩
  · exact o7 _ _ _ (fun _ => rfl) (fun h => absurd h (by decide)) (fun h => absurd h (by decide)) (fun h => absurd h (by decide)) (fun h => absurd h (by decide)) (fun h => absurd h (by decide)) (fun v hv h => by
      have : v = 0 ∨ v = 1 ∨ v = 2 ∨ v = 3 ∨ v = 4 ∨ v = 5 := by omega
      rcases this with rfl | rfl | rfl | rfl | rfl | rfl <;> exact absurd h (by decide)) (fun h _ _ _ _ _ _ => h rfl)
  · exact o7 _ _ _ (fun h => absurd h (by decide)) (fun _ => rfl) (fun h => absurd h (by decide)) (fun h => absurd h (by decide)) (fun h => absurd h (by decide)) (fun h => absurd h (by decide)) (fun v hv h => no hv (by decide) h) (fun _ h _ _ _ _ _ => h rfl)
  · exact o7 _ _ _ (fun h => absurd h (by decide)) (fun h => absurd h (by decide)) (fun _ => rfl) (fun h => absurd h (by decide)) (fun h => absurd h (by decide)) (fun h => absurd h (by decide)) (fun v hv h => no hv (by decide) h) (fun _ _ h _ _ _ _ => h rfl)
  · exact o7 _ _ _ (fun h => absurd h (by decide)) (fun h => absurd h (by decide)) (fun h => absurd h (by decide)) (fun _ => rfl) (fun h => absurd h (by decide)) (fun h => absurd h (by decide)) (fun v hv h => no hv (by decide) h) (fun _ _ _ h _ _ _ => h rfl)
  · exact o7 _ _ _ (fun h => absurd h (by decide)) (fun h => absurd h (by decide)) (fun h => absurd h (by decide)) (fun h => absurd h (by decide)) (fun _ => rfl) (fun h => absurd h (by decide)) (fun v hv h => no hv (by decide) h) (fun _ _ _ _ h _ _ => h rfl)
  · exact o7 _ _ _ (fun h => absurd h (by decide)) (fun h => absurd h (by decide)) (fun h => absurd h (by decide)) (fun h => absurd h (by decide)) (fun h => absurd h (by decide)) (fun _ => rfl) (fun v hv h => no hv (by decide) h) (fun _ _ _ _ _ h _ => h rfl)
  · have h126 : vl v ≠ 126 := by
      have : v = 0 ∨ v = 1 ∨ v = 2 ∨ v = 3 ∨ v = 4 ∨ v = 5 := by omega
      rcases this with rfl | rfl | rfl | rfl | rfl | rfl <;> decide
    refine o7 _ _ _ (fun h => absurd h h126) (fun h => absurd h (vl_ne hv (by decide))) (fun h => absurd h (vl_ne hv (by decide))) (fun h => absurd h (vl_ne hv (by decide))) (fun h => absurd h (vl_ne hv (by decide))) (fun h => absurd h (vl_ne hv (by decide))) (fun u hu h => ?_) (fun _ _ _ _ _ _ h => h v hv rfl)
    have e : v = u := by
      have h1 : v = 0 ∨ v = 1 ∨ v = 2 ∨ v = 3 ∨ v = 4 ∨ v = 5 := by omega
      have h2 : u = 0 ∨ u = 1 ∨ u = 2 ∨ u = 3 ∨ u = 4 ∨ u = 5 := by omega
      rcases h1 with rfl | rfl | rfl | rfl | rfl | rfl <;> rcases h2 with rfl | rfl | rfl | rfl | rfl | rfl <;> first | rfl | exact absurd h (by decide)
    rw [e]
/-! ### The text read again -/
theorem tk_at (c : UInt8) (l : Str) : tk c (c :: l, false) = true := by simp [tk]
theorem tk_no {c d : UInt8} {l : Str} {b : Bool} (h : d ≠ c) : tk c (d :: l, b) = false := by simp [tk, h]
theorem nx_at (c : UInt8) (l : Str) (b : Bool) : nx (c :: l, b) = (l, false) := rfl
theorem Q4 (c : UInt8) (l : Str) : ndd c (c :: l, false) = (l, false) := by simp [ndd, tk_at, nx_at]
def Ra (a : Fm) (s : Str) : Prop := ∀ post, rdL 3 .fls (s ++ post, false) = (a, (post, false))
def Rb (a : Fm) (s : Str) : Prop := ∀ post, rdL 2 .fls (s ++ post, false) = rdL 5 a (post, false)
def Rc (a : Fm) (s : Str) : Prop := ∀ post, tk 38 (post, false) = false → rdL 1 .fls (s ++ post, false) = rdL 4 a (post, false)
def Rd (a : Fm) (s : Str) : Prop := ∀ post, tk 38 (post, false) = false → tk 124 (post, false) = false → tk 62 (post, false) = false → rdL 0 .fls (s ++ post, false) = (a, (post, false))
theorem SL {a : Fm} {post : Str} (h : tk 38 (post, false) = false) : rdL 5 a (post, false) = (a, (post, false)) := by rw [rdL5, h]; rfl
theorem SU {a : Fm} {post : Str} (h : tk 124 (post, false) = false) : rdL 4 a (post, false) = (a, (post, false)) := by rw [rdL4, h]; rfl
theorem Ra.b {a : Fm} {s : Str} (h : Ra a s) : Rb a s := fun post => by rw [rdL2, h post]
theorem Rb.c {a : Fm} {s : Str} (h : Rb a s) : Rc a s := fun post h1 => by rw [rdL1, h post, SL h1]
theorem Rc.d {a : Fm} {s : Str} (h : Rc a s) : Rd a s := fun post h1 h2 h3 => by rw [rdL0, h post h1, SU h2, h3]; rfl
theorem Rd.par {a : Fm} {s : Str} (h : Rd a s) : Ra a (40 :: (s ++ [41])) := fun post => by
  have e : (40 :: (s ++ [41])) ++ post = 40 :: (s ++ 41 :: post) := by simp
  rw [e, (oY _ _).2.2.2.2.2.1]
  rw [h (41 :: post) (tk_no (by decide)) (tk_no (by decide)) (tk_no (by decide)), Q4]
structure Rall (a : Fm) : Prop where
  three : Ra a (a.txt 3)
  two : Rb a (a.txt 2)
  one : Rc a (a.txt 1)
  zero : Rd a (a.txt 0)
theorem cT {a : Fm} {lv : Nat} (h : lv ≤ a.own) : a.txt lv = a.body := by unfold Fm.txt par; rw [decide_eq_false (by omega)]; rfl
theorem mK {a : Fm} {lv : Nat} (h : a.own < lv) : a.txt lv = 40 :: (a.body ++ [41]) := by unfold Fm.txt par; rw [decide_eq_true h]; rfl
theorem Rall.of3 {a : Fm} (ho : a.own = 3) (h : Ra a a.body) : Rall a := by
  refine ⟨?_, ?_, ?_, ?_⟩
  · rw [cT (by omega)]; exact h
  · rw [cT (by omega)]; exact h.b
  · rw [cT (by omega)]; exact h.b.c
  · rw [cT (by omega)]; exact h.b.c.d
theorem Rall.of2 {a : Fm} (ho : a.own = 2) (h : Rb a a.body) : Rall a := by
  refine ⟨?_, ?_, ?_, ?_⟩
  · rw [mK (by omega)]; exact h.c.d.par
  · rw [cT (by omega)]; exact h
  · rw [cT (by omega)]; exact h.c
  · rw [cT (by omega)]; exact h.c.d
theorem Rall.of1 {a : Fm} (ho : a.own = 1) (h : Rc a a.body) : Rall a := by
  refine ⟨?_, ?_, ?_, ?_⟩
  · rw [mK (by omega)]; exact h.d.par
  · rw [mK (by omega)]; exact h.d.par.b
  · rw [cT (by omega)]; exact h
  · rw [cT (by omega)]; exact h.d
theorem Rall.of0 {a : Fm} (ho : a.own = 0) (h : Rd a a.body) : Rall a := by
  refine ⟨?_, ?_, ?_, ?_⟩
  · rw [mK (by omega)]; exact h.par
  · rw [mK (by omega)]; exact h.par.b
  · rw [mK (by omega)]; exact h.par.b.c
  · rw [cT (by omega)]; exact h
theorem rall : ∀ a : Fm, a.good → Rall a
  | .var v, h => by
    refine Rall.of3 rfl fun post => ?_
    have h : v < 6 := h
    exact (oY _ _).2.2.2.2.2.2 v h
  | .fls, _ => by
    refine Rall.of3 rfl fun post => ?_
    exact (oY _ _).2.2.2.1
  | .and a b, h => by
    refine Rall.of2 rfl fun post => ?_
    have e : (Fm.and a b).body ++ post = a.txt 2 ++ (38 :: (b.txt 3 ++ post)) := by simp [Fm.body, Fm.txt]
    rw [e, (rall a h.1).two, rdL5, tk_at, nx_at, if_pos rfl, (rall b h.2).three]
  | .or a b, h => by
    refine Rall.of1 rfl fun post hp => ?_
    have e : (Fm.or a b).body ++ post = a.txt 1 ++ (124 :: (b.txt 2 ++ post)) := by simp [Fm.body, Fm.txt]
    rw [e, (rall a h.1).one _ (tk_no (by decide)), rdL4, tk_at, nx_at, if_pos rfl, (rall b h.2).two, SL hp]
  | .imp a b, h => by
    by_cases hb : b = .fls
    · subst hb
      refine Rall.of3 rfl fun post => ?_
      by_cases ha : a = .fls
      · subst ha
        exact (oY _ _).2.2.2.2.1
      · have e : (Fm.imp a .fls).body ++ post = 126 :: (a.txt 3 ++ post) := by simp [Fm.body, Fm.txt, ha]
        rw [e, (oY _ _).1, (rall a h.1).three]
    · refine Rall.of0 (by simp [Fm.own, hb]) fun post h1 h2 h3 => ?_
      have e : (Fm.imp a b).body ++ post = a.txt 1 ++ (62 :: (b.txt 0 ++ post)) := by rw [cT (a := b) (Nat.zero_le _)]; simp [Fm.body, Fm.txt, hb]
      rw [e, rdL0, (rall a h.1).one _ (tk_no (by decide)), SU (tk_no (by decide)), tk_at, nx_at, if_pos rfl, (rall b h.2).zero _ h1 h2 h3]
  | .box a, h => by
    refine Rall.of3 rfl fun post => ?_
    have e : (Fm.box a).body ++ post = 91 :: 93 :: (a.txt 3 ++ post) := by simp [Fm.body, Fm.txt]
    rw [e, (oY _ _).2.1, Q4, (rall a h).three]
  | .dia a, h => by
    refine Rall.of3 rfl fun post => ?_
    have e : (Fm.dia a).body ++ post = 60 :: 62 :: (a.txt 3 ++ post) := by simp [Fm.body, Fm.txt]
    rw [e, (oY _ _).2.2.1, Q4, (rall a h).three]
theorem SV {a : Fm} (h : a.good) : rd a.body = (a, ([], false)) := by
  have := (rall a h).zero [] (by simp [tk]) (by simp [tk]) (by simp [tk])
  rw [List.append_nil, cT (Nat.zero_le _)] at this
  exact this
end Go.Vc

namespace Go.Vc
theorem iBsA3 {w : World} {e : TypeId} {z0 z1 a b c d x y : Value} {K : Value → World → Prop}
    (h : ∀ q w', q = w.heap.size ∧ w'.heap.size = q + 1 → Ext w w' → Blk e w' q [a, b, c, d, x, y] → K (.slice (some ⟨q, 0, none⟩) 3 3) w') :
    xBs e (Value.cells (.agg #[z0, z1])) 2 3 [(0, .agg #[a, b]), (1, .agg #[c, d]), (2, .agg #[x, y])] w K := by
  refine ⟨#[a, b, c, d, x, y], ?_, h _ _ ⟨rfl, by simp⟩ (Ext.alloc w _) (Blk.new w #[a, b, c, d, x, y] e)⟩
  simp [Instr.fill, Value.cells, show Array.range 6 = #[0, 1, 2, 3, 4, 5] from rfl]
theorem dE {x y a b : Value} {K : Value → Prop} (ha : aC a = true) (hb : aC b = true) (h : K (.agg #[a, b])) : aH #[x, y] #[(0, 1), (1, 1)] [(0, a), (1, b)] K :=
  bH (cs := #[a, b]) (by simp [Instr.fill, aM ha, aM hb]) h
theorem AX {x y a : Value} {K : Value → Prop} (ha : aC a = true) (h : K (.agg #[a, y])) : aH #[x, y] #[(0, 1), (1, 1)] [(0, a)] K :=
  bH (cs := #[a, y]) (by simp [Instr.fill, aM ha]) h
def RdS (e : TypeId) (b : Nat) (t : Str) (s : RSt) (w : World) : Prop := ∃ k, k ≤ t.length ∧ s.1 = t.drop k ∧ Blk e w b [sv t, .int .i64 (k : Int), .bool s.2]
theorem RdS.lt {e : TypeId} {b : Nat} {t : Str} {s : RSt} {w : World} (h : RdS e b t s w) : b < w.heap.size := by obtain ⟨_, _, _, h⟩ := h; exact h.lt
theorem RdS.ext {e : TypeId} {b : Nat} {t : Str} {s : RSt} {w w' : World} (h : RdS e b t s w) (he : Ext w w') : RdS e b t s w' := by obtain ⟨k, h1, h2, h3⟩ := h; exact ⟨k, h1, h2, h3.ext he⟩
theorem RdS.len {e : TypeId} {b : Nat} {t : Str} {s : RSt} {w : World} (h : RdS e b t s w) : s.1.length ≤ t.length := by obtain ⟨_, _, h, _⟩ := h; rw [h, List.length_drop]; omega
theorem GV {t : Str} {k : Nat} {c : UInt8} {bad : Bool} (hk : k < t.length) : tk c (t.drop k, bad) = (!bad && decide (t.getD k 0 = c)) := by
  simp only [tk, List.head?_drop, List.getElem?_eq_getElem hk, Option.some.injEq]
  congr 2
  simp [List.getD_eq_getElem?_getD, hk]
theorem MG {t : Str} {k : Nat} {c : UInt8} {bad : Bool} (hk : t.length ≤ k) : tk c (t.drop k, bad) = false := by
  simp [tk, List.drop_of_length_le hk]
theorem u8_eq (a c : UInt8) : (((a.toNat : Nat) : Int) = ((c.toNat : Nat) : Int)) ↔ a = c := by
  constructor
  · intro h; exact UInt8.toNat_inj.1 (by omega)
  · rintro rfl; rfl
theorem bR (lv : Nat) (a : Fm) (s : RSt) : (rdL lv a s).1.size + 3 * (rdL lv a s).2.1.length ≤ a.size + 3 * s.1.length := cN _ _ _ _
theorem gT (lv : Nat) (a : Fm) (s : RSt) : (rdL lv a s).2.1.length ≤ s.1.length := (bI _ _ _ _).length_le
end Go.Vc
namespace Go.Proofs.YtcfnoofghbmiiaaGreatDoor
open Go.Vc
abbrev FmW (lo : Nat) (w : World) (v : Value) (a : Fm) : Prop := OwK 2 lo aF w v a.size a.cells
abbrev FmS (w : World) (v : Value) (a : Fm) : Prop := SlK 2 w v a.size a.cells
theorem fJ {w w' : World} {b : Nat} {x y : Value} (hb : b = w.heap.size ∧ w'.heap.size = b + 1) (hB : Blk aF w' b [x, y]) : OwK 2 w.heap.size aF w' (.slice (some ⟨b, 0, none⟩) 1 1) 1 [x, y] := OwK.ofBlk hB (by omega) rfl (by omega)
theorem pM (w : World) : Cal Tryz.prog DB #[] w fun v w' => Ext w w' ∧ FmW w.heap.size w' v .fls := by
  apply O9; unfold B5
  refine dE rfl rfl ?_
  refine iBsA fun b w1 hb h1 hB => ⟨h1, fJ hb hB⟩
theorem OT (w : World) : Cal Tryz.prog EW #[] w fun v w' => Ext w w' ∧ FmW w.heap.size w' v (.imp .fls .fls) := by
  apply PZ; unfold EO
  refine dE rfl rfl ?_
  refine dE rfl rfl ?_
  refine dE rfl rfl ?_
  refine iBsA3 fun b w1 hb h1 hB => ⟨h1, OwK.ofBlk hB (by omega) rfl (by decide)⟩
theorem IF (v : Nat) (w : World) : Cal Tryz.prog xC #[.int .i64 (v : Int)] w fun r w' => Ext w w' ∧ FmW w.heap.size w' r (.var v) := by
  apply JT; unfold vA
  refine dE rfl rfl ?_
  refine iBsA fun b w1 hb h1 hB => ⟨h1, fJ hb hB⟩
theorem fD {a b c : Fm} {k : Nat} (hc : c.cells = nd k 0 ++ a.cells ++ b.cells) (hs : c.size = 1 + a.size + b.size) {va vb : Value} {w : World} (ha : FmS w va a) (hb : FmS w vb b) (hsz : c.size ≤ 1099511627776) :
    Cal Tryz.prog HB #[.int .i64 (k : Int), va, vb] w fun r w' => Ext w w' ∧ FmW w.heap.size w' r c := by
  apply RO; unfold G6
  have hca : aC va = true := by obtain ⟨_, _, _, h, _⟩ := ha; rw [h]; rfl
  have hcb : aC vb = true := by obtain ⟨_, _, _, h, _⟩ := hb; rw [h]; rfl
  refine dE rfl rfl ?_
  refine iBsA fun q w1 hq h1 hB => ?_
  refine iBs3 rfl rfl hca hcb fun q2 w2 hq2 h2 hB2 => ?_
  have hx := (fJ hq hB).sl
  refine iCall ((fY (ps := [(1, nd k 0), (a.size, a.cells), (b.size, b.cells)]) (Sl.ofBlk (n := 3) hB2 rfl (by decide)) rfl (fun i h1' h2' => ?_) (fun p hp u hu => ?_) ?_).mono ?_)
  · match i, h1' with
    | 0, _ => exact hx.ext h2
    | 1, _ => exact (ha.ext h1).ext h2
    | 2, _ => exact (hb.ext h1).ext h2
  · simp only [List.mem_cons, List.not_mem_nil, or_false] at hp
    rcases hp with rfl | rfl | rfl
    · simp only [nd, List.mem_cons, List.not_mem_nil, or_false] at hu
      rcases hu with rfl | rfl <;> rfl
    · exact a.cells_cell _ hu
    · exact b.cells_cell _ hu
  · simp; omega
  · rintro r w3 ⟨h3, ho⟩
    refine ⟨h1.trans (h2.trans h3), ?_⟩
    have ho := ho.mono (h1.trans h2).size
    have e1 : ([(1, nd k 0), (a.size, a.cells), (b.size, b.cells)].map Prod.fst).sum = c.size := by simp [hs]; omega
    have e2 : [(1, nd k 0), (a.size, a.cells), (b.size, b.cells)].flatMap Prod.snd = c.cells := by simp [hc]
    rw [e1, e2] at ho
    exact ho
theorem yP {a c : Fm} {k : Nat} (hc : c.cells = nd k 0 ++ a.cells) (hs : c.size = 1 + a.size) {va : Value} {w : World} (ha : FmS w va a) (hsz : c.size ≤ 1099511627776) :
    Cal Tryz.prog CR #[.int .i64 (k : Int), va] w fun r w' => Ext w w' ∧ FmW w.heap.size w' r c := by
  apply OM; unfold CM
  have hca : aC va = true := by obtain ⟨_, _, _, h, _⟩ := ha; rw [h]; rfl
  refine dE rfl rfl ?_
  refine iBsA fun q w1 hq h1 hB => ?_
  refine iBs2 rfl rfl hca fun q2 w2 hq2 h2 hB2 => ?_
  have hx := (fJ hq hB).sl
  refine iCall ((fY (ps := [(1, nd k 0), (a.size, a.cells)]) (Sl.ofBlk (n := 2) hB2 rfl (by decide)) rfl (fun i h1' h2' => ?_) (fun p hp u hu => ?_) ?_).mono ?_)
  · match i, h1' with
    | 0, _ => exact hx.ext h2
    | 1, _ => exact (ha.ext h1).ext h2
  · simp only [List.mem_cons, List.not_mem_nil, or_false] at hp
    rcases hp with rfl | rfl
    · simp only [nd, List.mem_cons, List.not_mem_nil, or_false] at hu
      rcases hu with rfl | rfl <;> rfl
    · exact a.cells_cell _ hu
  · simp; omega
  · rintro r w3 ⟨h3, ho⟩
    refine ⟨h1.trans (h2.trans h3), ?_⟩
    have ho := ho.mono (h1.trans h2).size
    have e1 : ([(1, nd k 0), (a.size, a.cells)].map Prod.fst).sum = c.size := by simp [hs]
    have e2 : [(1, nd k 0), (a.size, a.cells)].flatMap Prod.snd = c.cells := by simp [hc]
    rw [e1, e2] at ho
    exact ho
theorem IS {a : Fm} {va : Value} {w : World} (ha : FmS w va a) (hsz : a.size ≤ 1099511627) : Cal Tryz.prog xH #[va] w fun r w' => Ext w w' ∧ FmW w.heap.size w' r (.imp a .fls) := by
  apply LR; unfold wE
  refine iCall ((pM w).mono ?_)
  rintro u w1 ⟨h1, ho⟩
  refine iCall ((fD (c := .imp a .fls) (k := 4) rfl rfl (ha.ext h1) ho.sl (by show 1 + a.size + 1 ≤ _; omega)).mono ?_)
  rintro r w2 ⟨h2, hr⟩
  exact ⟨h1.trans h2, hr.mono h1.size⟩
theorem dL (w : World) : Cal Tryz.prog wY #[] w fun v w' => Ext w w' ∧ FmW w.heap.size w' v .fls := by
  apply I4; unfold wU
  refine AX rfl ?_
  refine iBsA fun b w1 hb h1 hB => ⟨h1, fJ hb hB⟩
theorem pC (v : Nat) (w : World) : Cal Tryz.prog CS #[.int .i64 (v : Int)] w fun r w' => Ext w w' ∧ FmW w.heap.size w' r (.var v) := by
  apply O4; unfold CE
  refine dE rfl rfl ?_
  refine iBsA fun b w1 hb h1 hB => ⟨h1, fJ hb hB⟩
theorem bK {a b c : Fm} {k : Nat} (hc : c.cells = nd k 0 ++ a.cells ++ b.cells) (hs : c.size = 1 + a.size + b.size) {va vb : Value} {w : World} (ha : FmS w va a) (hb : FmS w vb b) (hsz : c.size ≤ 1099511627776) :
    Cal Tryz.prog yT #[.int .i64 (k : Int), va, vb] w fun r w' => Ext w w' ∧ FmW w.heap.size w' r c := by
  apply MW; unfold z8
  refine AX rfl ?_
  refine iBsA fun q w1 hq h1 hB => ?_
  refine iAppK eG eA rfl (by omega) (fJ hq hB) (ha.ext h1) a.cells_cell (by omega) (by omega) h1.size fun v2 w2 ho2 hg2 _ => ?_
  have hX2 := h1.grown hg2 (fun c hc => ((fJ hq hB).blk c hc).1)
  refine iAppK eG eA rfl (by omega) ho2 (hb.ext hX2) b.cells_cell (by omega) (by omega) hX2.size fun v3 w3 ho3 hg3 _ => ?_
  refine ⟨hX2.grown hg3 (fun c hc => (ho2.blk c hc).1), ?_⟩
  unfold FmW
  rw [hs, hc]
  exact ho3
theorem pH {a c : Fm} {k : Nat} (hc : c.cells = nd k 0 ++ a.cells) (hs : c.size = 1 + a.size) {va : Value} {w : World} (ha : FmS w va a) (hsz : c.size ≤ 1099511627776) :
    Cal Tryz.prog C5 #[.int .i64 (k : Int), va] w fun r w' => Ext w w' ∧ FmW w.heap.size w' r c := by
  apply ON; unfold C7
  refine AX rfl ?_
  refine iBsA fun q w1 hq h1 hB => ?_
  refine iAppK eG eA rfl (by omega) (fJ hq hB) (ha.ext h1) a.cells_cell (by omega) (by omega) h1.size fun v2 w2 ho2 hg2 _ => ?_
  refine ⟨h1.grown hg2 (fun c hc => ((fJ hq hB).blk c hc).1), ?_⟩
  unfold FmW
  rw [hs, hc]
  exact ho2
theorem pD {a : Fm} {va : Value} {w : World} (ha : FmS w va a) (hsz : a.size ≤ 1099511627) : Cal Tryz.prog CJ #[va] w fun r w' => Ext w w' ∧ FmW w.heap.size w' r (.imp a .fls) := by
  apply O8; unfold CZ
  refine iCall ((dL w).mono ?_)
  rintro u w1 ⟨h1, ho⟩
  refine iCall ((bK (c := .imp a .fls) (k := 4) rfl rfl (ha.ext h1) ho.sl (by show 1 + a.size + 1 ≤ _; omega)).mono ?_)
  rintro r w2 ⟨h2, hr⟩
  exact ⟨h1.trans h2, hr.mono h1.size⟩
theorem vY (w : World) : Cal Tryz.prog yY #[] w fun r w' => Ext w w' ∧ FmW w.heap.size w' r (.imp .fls .fls) := by
  apply MK; unfold y8
  refine iCall ((dL w).mono ?_)
  rintro u w1 ⟨h1, ho⟩
  refine iCall ((pD ho.sl (by decide)).mono ?_)
  rintro r w2 ⟨h2, hr⟩
  exact ⟨h1.trans h2, hr.mono h1.size⟩
abbrev TakeQ (e : TypeId) (b : Nat) (t : Str) (s : RSt) (w : World) (c : UInt8) (v : Value) (w' : World) : Prop := v = .bool (tk c s) ∧ RdS e b t (if tk c s then nx s else s) w' ∧ Ch (fun x => x = b) w w'
theorem QI {e : TypeId} {b k : Nat} {t : Str} {bad : Bool} {c : UInt8} {w w2 : World} (hB : Blk e w b [sv t, .int .i64 (k : Int), .bool bad]) (h2 : Ext w w2) (h : tk c (t.drop k, bad) = true) : TakeQ e b t (t.drop k, bad) w c (.bool true) (w2.setCell ⟨b, 1, none⟩ (.int .i64 ((k : Int) + 1))) := by
  have hk : k < t.length := by
    rcases Nat.lt_or_ge k t.length with h' | h'
    · exact h'
    · rw [MG h'] at h; cases h
  have hbad := XC h
  have hbad : bad = false := hbad
  subst hbad
  refine ⟨by rw [h], ?_, (h2.ch (S := fun x => x = b)).trans ((Upd.setCell w2 b 1 _).ch (S := fun x => x = b) rfl) (fun _ h => .inl h)⟩
  rw [if_pos h]
  refine ⟨k + 1, hk, by simp [nx, List.tail_drop], ?_⟩
  have := (hB.ext h2).set 1 (.int .i64 ((k : Int) + 1))
  show Blk e _ b [sv t, .int .i64 ((k + 1 : Nat) : Int), .bool false]
  simpa using this
theorem aW {e : TypeId} {b : Nat} {t : Str} {s : RSt} {w : World} (c : UInt8) {z : Int} (hz : z = ((c.toNat : Nat) : Int)) (ht : t.length ≤ 1099511627776) (h : RdS e b t s w) :
    Cal Tryz.prog pS #[.pointer (some ⟨b, 0, none⟩), .int .u8 z] w (TakeQ e b t s w c) := by
  apply E3; unfold p7
  obtain ⟨k, hk, hs, hB⟩ := h
  obtain ⟨s1, bad⟩ := s
  have hs : s1 = t.drop k := hs
  have hB : Blk e w b [sv t, .int .i64 (k : Int), .bool bad] := hB
  subst hs
  subst hz
  refine iJnX (fun xs w' => xs = [.bool !tk c (t.drop k, bad)] ∧ Ext w w') (fun J hJ => ?_) ?_
  · ((with_reducible refine iNil ?_; refine iFa ?_); refine iLdB (by assumption) (by first | rfl | simp) ?_)
    cases bad
    · refine iCndF rfl ?_
      ((with_reducible refine iNil ?_; refine iFa ?_); refine iLdB (by assumption) (by first | rfl | simp) ?_; (with_reducible refine iNil ?_; refine iFa ?_); refine iLdB (by assumption) (by first | rfl | simp) ?_)
      refine iLenT ?_
      ((with_reducible refine iLe ?_))
      refine iCndP (fun h1 => ?_) (fun h1 => ?_)
      · intro w4 h4
        exact hJ _ _ ⟨by rw [MG (by omega)]; rfl, h4⟩
      · ((with_reducible refine iNil ?_; refine iFa ?_); refine iLdB (by assumption) (by first | rfl | simp) ?_; (with_reducible refine iNil ?_; refine iFa ?_); refine iLdB (by assumption) (by first | rfl | simp) ?_)
        refine iIs (by omega) ?_
        ((with_reducible refine iNe ?_))
        intro w5 h5
        refine hJ _ _ ⟨?_, h5⟩
        rw [GV (by omega), Bool.not_false, Bool.true_and, ← decide_not]
        congr 2
        exact decide_eq_decide.2 (not_congr (u8_eq _ _))
    · refine iCndT rfl ?_
      intro w3 h3
      exact hJ _ _ ⟨by simp [tk], h3⟩
  rintro _ w2 ⟨rfl, h2⟩
  intro _
  cases hk2 : tk c (t.drop k, bad)
  · refine iCndT rfl ⟨by rw [hk2], ?_, h2.ch⟩
    rw [hk2, if_neg (by decide)]
    exact ⟨k, hk, rfl, hB.ext h2⟩
  · refine iCndF rfl ?_
    have hB2 := hB.ext h2
    have hfin := QI hB h2 hk2
    ((with_reducible refine iNil ?_; refine iFa ?_); refine iLdB (by assumption) (by first | rfl | simp) ?_; refine iAdd (by omega) ?_; (with_reducible refine iNil ?_; refine iFa ?_))
    refine iStB hB2 (by simp) rfl fun _ => ?_
    exact hfin
theorem bL {e : TypeId} {b : Nat} {t : Str} {s : RSt} {w : World} (c : UInt8) {z : Int} (hz : z = ((c.toNat : Nat) : Int)) (ht : t.length ≤ 1099511627776) (h : RdS e b t s w) :
    Cal Tryz.prog A9 #[.pointer (some ⟨b, 0, none⟩), .int .u8 z] w (TakeQ e b t s w c) := by
  apply LV; unfold AP
  obtain ⟨k, hk, hs, hB⟩ := h
  obtain ⟨s1, bad⟩ := s
  have hs : s1 = t.drop k := hs
  have hB : Blk e w b [sv t, .int .i64 (k : Int), .bool bad] := hB
  subst hs
  subst hz
  refine iJnX (fun xs w' => xs = [.bool (tk c (t.drop k, bad))] ∧ Ext w w') (fun J hJ => ?_) ?_
  · ((with_reducible refine iNil ?_; refine iFa ?_); refine iLdB (by assumption) (by first | rfl | simp) ?_; (with_reducible refine iNot ?_))
    cases bad
    · refine iCndT rfl ?_
      ((with_reducible refine iNil ?_; refine iFa ?_); refine iLdB (by assumption) (by first | rfl | simp) ?_; (with_reducible refine iNil ?_; refine iFa ?_); refine iLdB (by assumption) (by first | rfl | simp) ?_)
      refine iLenT ?_
      ((with_reducible refine iLt ?_))
      refine iCndP (fun h1 => ?_) (fun h1 => ?_)
      · ((with_reducible refine iNil ?_; refine iFa ?_); refine iLdB (by assumption) (by first | rfl | simp) ?_; (with_reducible refine iNil ?_; refine iFa ?_); refine iLdB (by assumption) (by first | rfl | simp) ?_)
        refine iIs (by omega) ?_
        ((with_reducible refine iEq ?_))
        intro w5 h5
        refine hJ _ _ ⟨?_, h5⟩
        rw [GV (by omega), Bool.not_false, Bool.true_and]
        congr 2
        exact decide_eq_decide.2 (u8_eq _ _)
      · intro w4 h4
        exact hJ _ _ ⟨by rw [MG (by omega)], h4⟩
    · refine iCndF rfl ?_
      intro w3 h3
      exact hJ _ _ ⟨by simp [tk], h3⟩
  rintro _ w2 ⟨rfl, h2⟩
  intro _
  cases hk2 : tk c (t.drop k, bad)
  · refine iCndF rfl ⟨by rw [hk2], ?_, h2.ch⟩
    rw [hk2, if_neg (by decide)]
    exact ⟨k, hk, rfl, hB.ext h2⟩
  · refine iCndT rfl ?_
    have hB2 := hB.ext h2
    have hfin := QI hB h2 hk2
    ((with_reducible refine iNil ?_; refine iFa ?_); refine iLdB (by assumption) (by first | rfl | simp) ?_; refine iAdd (by omega) ?_; (with_reducible refine iNil ?_; refine iFa ?_))
    refine iStB hB2 (by simp) rfl fun _ => ?_
    exact hfin
theorem RdS.bad {e : TypeId} {b : Nat} {t : Str} {s : RSt} {w : World} (h : RdS e b t s w) : RdS e b t (s.1, true) (w.setCell ⟨b, 2, none⟩ (.bool true)) := by
  obtain ⟨k, h1, h2, h3⟩ := h
  refine ⟨k, h1, h2, ?_⟩
  have := h3.set 2 (.bool true)
  simpa using this
theorem jA {e : TypeId} {b : Nat} {t : Str} {s : RSt} {w : World} (c : UInt8) {z : Int} (hz : z = ((c.toNat : Nat) : Int)) (ht : t.length ≤ 1099511627776) (h : RdS e b t s w) :
    Cal Tryz.prog qH #[.pointer (some ⟨b, 0, none⟩), .int .u8 z] w fun _ w' => RdS e b t (ndd c s) w' ∧ Ch (fun x => x = b) w w' := by
  apply E4; unfold qM
  refine iCall ((aW c hz ht h).mono ?_)
  rintro _ w1 ⟨rfl, h1, hc1⟩
  unfold ndd
  refine iNot ?_
  cases hk : tk c s
  · rw [hk, if_neg (by decide)] at h1
    refine iCndT rfl ?_
    obtain ⟨k, _, _, hB⟩ := id h1
    ((with_reducible refine iNil ?_; refine iFa ?_))
    refine iStB hB (by simp) rfl fun _ => ?_
    exact ⟨RdS.bad h1, hc1.trans ((Upd.setCell w1 b 2 _).ch (S := fun x => x = b) rfl) (fun _ h => .inl h)⟩
  · rw [hk, if_pos rfl] at h1
    exact iCndF rfl ⟨h1, hc1⟩
theorem nM {e : TypeId} {b : Nat} {t : Str} {s : RSt} {w : World} (c : UInt8) {z : Int} (hz : z = ((c.toNat : Nat) : Int)) (ht : t.length ≤ 1099511627776) (h : RdS e b t s w) :
    Cal Tryz.prog zA #[.pointer (some ⟨b, 0, none⟩), .int .u8 z] w fun _ w' => RdS e b t (ndd c s) w' ∧ Ch (fun x => x = b) w w' := by
  apply NH; unfold zJ
  refine iCall ((bL c hz ht h).mono ?_)
  rintro _ w1 ⟨rfl, h1, hc1⟩
  unfold ndd
  refine iNot ?_
  cases hk : tk c s
  · rw [hk, if_neg (by decide)] at h1
    refine iCndT rfl ?_
    obtain ⟨k, _, _, hB⟩ := id h1
    ((with_reducible refine iNil ?_; refine iFa ?_))
    refine iStB hB (by simp) rfl fun _ => ?_
    exact ⟨RdS.bad h1, hc1.trans ((Upd.setCell w1 b 2 _).ch (S := fun x => x = b) rfl) (fun _ h => .inl h)⟩
  · rw [hk, if_pos rfl] at h1
    exact iCndF rfl ⟨h1, hc1⟩
end Go.Proofs.YtcfnoofghbmiiaaGreatDoor

namespace Go.Vc
/-! ### Formulas by their kinds and parts -/
def Fm.kind : Fm → Nat
  | .var _ => 0
  | .fls => 1
  | .and _ _ => 2
  | .or _ _ => 3
  | .imp _ _ => 4
  | .box _ => 5
  | .dia _ => 6
def Fm.sym : Fm → Nat
  | .var v => v
  | _ => 0
def Fm.kids : Fm → List Fm
  | .and a b => [a, b]
  | .or a b => [a, b]
  | .imp a b => [a, b]
  | .box a => [a]
  | .dia a => [a]
  | _ => []
def arity (k : Nat) : Nat := if k = 2 ∨ k = 3 ∨ k = 4 then 2 else if k = 5 ∨ k = 6 then 1 else 0
def aU (fs : List Fm) : List Value := fs.flatMap Fm.cells
def sizeL (fs : List Fm) : Nat := (fs.map Fm.size).sum
theorem Fm.cells_kids (f : Fm) : f.cells = nd f.kind f.sym ++ aU f.kids := by cases f <;> simp [Fm.cells, Fm.kind, Fm.sym, Fm.kids, aU]
theorem Fm.size_kids (f : Fm) : f.size = 1 + sizeL f.kids := by cases f <;> simp [Fm.size, Fm.kids, sizeL] <;> omega
theorem Fm.arity_kids (f : Fm) : arity f.kind = f.kids.length := by cases f <;> rfl
theorem JU (fs : List Fm) : (aU fs).length = sizeL fs * 2 := by
  induction fs with
  | nil => rfl
  | cons f fs ih => simp only [aU, List.flatMap_cons, List.length_append, sizeL, List.map_cons, List.sum_cons] at ih ⊢; rw [f.cells_len, ih]; omega
theorem BT (a b : List Fm) : aU (a ++ b) = aU a ++ aU b := by simp [aU]
theorem mS (a b : List Fm) : sizeL (a ++ b) = sizeL a + sizeL b := by simp [sizeL]
theorem D1 : ∀ gs : List Fm, gs.length ≤ sizeL gs
  | [] => Nat.zero_le _
  | a :: bs => by have := a.size_pos; have := D1 bs; simp only [sizeL, List.map_cons, List.sum_cons, List.length_cons] at this ⊢; omega
theorem U3 : ∀ {fs gs : List Fm} {r r' : List Value}, fs.length = gs.length → aU fs ++ r = aU gs ++ r' → fs = gs ∧ r = r' := by
  suffices H : ∀ (n : Nat) {fs gs : List Fm} {r r' : List Value}, sizeL fs ≤ n → fs.length = gs.length → aU fs ++ r = aU gs ++ r' → fs = gs ∧ r = r' from fun {fs} => H (sizeL fs) (Nat.le_refl _)
  intro n
  induction n with
  | zero =>
    intro fs gs r r' hn hl he
    cases fs with
    | nil => cases gs with
      | nil => exact ⟨rfl, he⟩
      | cons _ _ => cases hl
    | cons f fs => simp only [sizeL, List.map_cons, List.sum_cons] at hn; have := f.size_pos; omega
  | succ n ih =>
    intro fs gs r r' hn hl he
    cases fs with
    | nil => cases gs with
      | nil => exact ⟨rfl, he⟩
      | cons _ _ => cases hl
    | cons f fs => cases gs with
      | nil => cases hl
      | cons g gs =>
        simp only [List.length_cons, Nat.add_right_cancel_iff] at hl
        have hsz : sizeL (f.kids ++ fs) ≤ n := by
          rw [mS]
          simp only [sizeL, List.map_cons, List.sum_cons] at hn ⊢
          have := f.size_kids
          simp only [sizeL] at this
          omega
        have he' : nd f.kind f.sym ++ (aU (f.kids ++ fs) ++ r) = nd g.kind g.sym ++ (aU (g.kids ++ gs) ++ r') := by
          have e : ∀ (f : Fm) (fs : List Fm) (r : List Value), aU (f :: fs) ++ r = nd f.kind f.sym ++ (aU (f.kids ++ fs) ++ r) := fun f fs r => by
            rw [BT]
            simp only [aU, List.flatMap_cons]
            rw [f.cells_kids]
            simp [aU]
          rw [← e, ← e]; exact he
        simp only [nd, List.cons_append, List.nil_append, List.cons.injEq, Value.int.injEq, true_and] at he'
        obtain ⟨hk, hs, hr⟩ := he'
        have hk : f.kind = g.kind := by omega
        have hs : f.sym = g.sym := by omega
        have hkl : f.kids.length = g.kids.length := by rw [← f.arity_kids, ← g.arity_kids, hk]
        obtain ⟨h1, h2⟩ := ih hsz (by rw [List.length_append, List.length_append, hkl, hl]) hr
        obtain ⟨h3, h4⟩ := List.append_inj h1 hkl
        refine ⟨?_, h2⟩
        have : f = g := by
          cases f <;> cases g <;> simp [Fm.kind] at hk <;> simp [Fm.kids, Fm.sym] at h3 hs <;> simp_all
        rw [this, h4]
theorem TX {f g : Fm} (h : f.cells = g.cells) : f = g := by
  have := (U3 (fs := [f]) (gs := [g]) (r := []) (r' := []) rfl (by simpa [aU] using h)).1
  simpa using this
def Fm.isNeg : Fm → Bool
  | .imp _ b => decide (b = .fls)
  | _ => false
theorem body_len : ∀ f : Fm, f.body.length + 2 ≤ 4 * f.size := by
  have pl : ∀ (b : Bool) (s : Str), (par b s).length ≤ s.length + 2 := fun b s => by cases b <;> simp [par]
  intro f
  induction f with
  | var v => simp [Fm.body, Fm.size]
  | fls => simp [Fm.body, Fm.size]
  | and a b ha hb =>
    have h1 := pl (decide (a.own < 2)) a.body
    have h2 := pl (decide (b.own < 3)) b.body
    simp only [Fm.body, Fm.size, List.length_append, List.length_cons]; omega
  | or a b ha hb =>
    have h1 := pl (decide (a.own < 1)) a.body
    have h2 := pl (decide (b.own < 2)) b.body
    simp only [Fm.body, Fm.size, List.length_append, List.length_cons]; omega
  | imp a b ha hb =>
    have h1 := pl (decide (a.own < 1)) a.body
    have h2 := pl (decide (a.own < 3)) a.body
    simp only [Fm.body, Fm.size]
    split
    · split
      · simp; have := a.size_pos; have := b.size_pos; omega
      · simp only [List.length_cons]; omega
    · simp only [List.length_append, List.length_cons]; omega
  | box a ha =>
    have h2 := pl (decide (a.own < 3)) a.body
    simp only [Fm.body, Fm.size, List.length_cons]; omega
  | dia a ha =>
    have h2 := pl (decide (a.own < 3)) a.body
    simp only [Fm.body, Fm.size, List.length_cons]; omega
theorem cE (lv : Nat) (f : Fm) : (f.txt lv).length ≤ 4 * f.size := by
  have := body_len f
  unfold Fm.txt par
  split
  · simp; omega
  · omega
/-! ### Steps -/
section
variable {P : Program} {w : World}
theorem iSlK {k : Nat} {v : Value} {n i j : Nat} {xs : List Value} {ki kj : IntKind} {K : Value → Prop} (hs : SlK k w v n xs) (hi : i ≤ j) (hj : j ≤ n) (h : ∀ r, SlK k w r (j - i) ((xs.drop (i * k)).take ((j - i) * k)) → K r) : xSl k v (some (.int ki (i : Int))) (some (.int kj (j : Int))) K := by
  obtain ⟨h0, a, c, rfl, h2, h3, h4⟩ := hs
  have hik : i * k ≤ j * k := Nat.mul_le_mul_right _ hi
  have hjk : j * k ≤ n * k := Nat.mul_le_mul_right _ hj
  refine ⟨_, _, _, i, j, rfl, ⟨kj, rfl⟩, ⟨ki, rfl⟩, hi, by omega, h _ ⟨?_, _, _, rfl, by omega, by omega, ?_⟩⟩
  · rw [List.length_take, List.length_drop, Nat.sub_mul]; omega
  · rcases h4 with rfl | ⟨b, o, rfl, hc⟩
    · exact .inl (by omega)
    · by_cases hz : j - i = 0
      · exact .inl hz
      · refine .inr ⟨b, o + i * k, by rw [if_neg (by omega), Option.map_some, bE], fun m hm => ?_⟩
        rw [Nat.sub_mul] at hm ⊢
        rw [Nat.add_assoc, hc _ (by omega), List.getElem?_take, if_pos hm, List.getElem?_drop]
theorem IU {k : Nat} {v : Value} {n i : Nat} {xs : List Value} {ki : IntKind} {K : Value → Prop} (hs : SlK k w v n xs) (hi : i ≤ n) (h : ∀ r, SlK k w r (n - i) (xs.drop (i * k)) → K r) : xSl k v (some (.int ki (i : Int))) none K := by
  obtain ⟨h0, a, c, rfl, h2, h3, h4⟩ := hs
  have hik : i * k ≤ n * k := Nat.mul_le_mul_right _ hi
  refine ⟨_, _, _, i, n, rfl, rfl, ⟨ki, rfl⟩, hi, by omega, h _ ⟨?_, _, _, rfl, by omega, by omega, ?_⟩⟩
  · rw [List.length_drop, Nat.sub_mul]; omega
  · rcases h4 with rfl | ⟨b, o, rfl, hc⟩
    · exact .inl (by omega)
    · by_cases hz : n - i = 0
      · exact .inl hz
      · refine .inr ⟨b, o + i * k, by rw [if_neg (by omega), Option.map_some, bE], fun m hm => ?_⟩
        rw [Nat.sub_mul] at hm
        rw [Nat.add_assoc, hc _ (by omega), List.getElem?_drop]
theorem W7 {k : Nat} {t e : TypeId} {z : Option Value} {bytes : Nat} {v : Value} {n i j : Nat} {xs : List Value} {ki kj km : IntKind} {K : Value → Prop} (ht : P.underlying t = some (.slice e)) (hi0 : (P.info? e).map (fun i => (i.zero, i.size, i.bytes)) = some (z, k, bytes))
    (hs : SlK k w v n xs) (hi : i ≤ j) (hj : j ≤ n) (h : ∀ r, SlK k w r (j - i) ((xs.drop (i * k)).take ((j - i) * k)) → K r) : xR P w (Instr.sliceAt t v (some (.int ki (i : Int))) (some (.int kj (j : Int))) (some (.int km (j : Int)))) K := by
  obtain ⟨ti, hti, h3⟩ := Option.map_eq_some_iff.1 hi0
  simp only [Prod.mk.injEq] at h3
  obtain ⟨-, hsz, -⟩ := h3
  obtain ⟨h0, a, c, rfl, h2, h3, h4⟩ := hs
  have hik : i * k ≤ j * k := Nat.mul_le_mul_right _ hi
  have hjk : j * k ≤ n * k := Nat.mul_le_mul_right _ hj
  refine ⟨.slice (if j = i then a else a.map (·.add (i * k))) (j - i) (j - i), fun w' _ => ?_, h _ ⟨?_, _, _, rfl, Nat.le_refl _, by omega, ?_⟩⟩
  · have hb : (Instr.sliceBounds true n c (some (.int ki (i : Int))) (some (.int kj (j : Int))) (some (.int km (j : Int)))).run P w' = .ok (i, j, j) w' := by
      have hjc : j ≤ c := by omega
      unfold Instr.sliceBounds
      simp [Instr.sliceBound, asIntOf, hi, hjc]
    simp [Instr.sliceAt, Instr.slice, bW ht, hb, c7 hti, hsz]
  · rw [List.length_take, List.length_drop, Nat.sub_mul]; omega
  · rcases h4 with rfl | ⟨b, o, rfl, hc⟩
    · exact .inl (by omega)
    · by_cases hz : j - i = 0
      · exact .inl hz
      · refine .inr ⟨b, o + i * k, by rw [if_neg (by omega), Option.map_some, bE], fun m hm => ?_⟩
        rw [Nat.sub_mul] at hm ⊢
        rw [Nat.add_assoc, hc _ (by omega), List.getElem?_take, if_pos hm, List.getElem?_drop]
theorem iFld {sz f : Nat} {v x : Value} {n : Nat} {xs : List Value} {z : Int} {j : Nat} {k : IntKind} {K : Value → Prop} (hs : SlK sz w v n xs) (hz : z = (j : Int)) (h1 : j < n) (hf : f < sz) (hx : xs[j * sz + f]? = some x) (h : K x) : xIa sz v (.int k z) fun p => xFa f p fun q => xLd w q K := by
  subst hz
  refine iIaK hs h1 fun b o hc => ?_
  refine ⟨_, rfl, ?_⟩
  rw [bE]
  exact iLd ((hc f hf).trans hx) h
theorem WS {t t0 t1 : TypeId} {a b c d : Int} {xo yo : Operand} {K : Value → Prop} (hu : P.underlying t = some (.struct (P.fieldsOf t))) (hp : P.stoodInHeld t = false) (hg : P.eqGuardType P.depth t = false)
    (hf : (P.fieldsOf t).toList.map (fun f => (f.name == "_", f.offset, f.type)) = [(false, 0, t0), (false, 1, t1)]) (h0 : P.underlying t0 = some (.int .i64)) (h1 : P.underlying t1 = some (.int .i64))
    (h : K (.bool (decide (¬ (a = c ∧ b = d))))) : xR P w (do eqGuard .neq t xo yo (.agg #[.int .i64 a, .int .i64 b]) (.agg #[.int .i64 c, .int .i64 d]); binOp .neq t (.agg #[.int .i64 a, .int .i64 b]) (.agg #[.int .i64 c, .int .i64 d])) K := by
  refine ⟨_, fun w' _ => ?_, h⟩
  obtain ⟨f0, f1, hl, n0, n1, o0, o1, rfl, rfl⟩ : ∃ f0 f1, (P.fieldsOf t).toList = [f0, f1] ∧ ¬ f0.name = "_" ∧ ¬ f1.name = "_" ∧ f0.offset = 0 ∧ f1.offset = 1 ∧ f0.type = t0 ∧ f1.type = t1 := by
    generalize (P.fieldsOf t).toList = l at hf
    rcases l with _ | ⟨f0, _ | ⟨f1, _ | ⟨f2, l⟩⟩⟩ <;> simp at hf
    exact ⟨f0, f1, rfl, hf.1.1, hf.2.1, hf.1.2.1, hf.2.2.1, hf.1.2.2, hf.2.2.2⟩
  have pt : ∀ (t : TypeId) (cs : Array Value) (o : Nat) (x : Value), P.underlying t = some (.int .i64) → cs[o]? = some x → (part t cs o).run P w' = .ok x w' := fun t cs o x ht hx => by
    have hg : isAgg? P t = some false := by simp [isAgg?, ht]
    simp [part, mH hg, hx]
  have eqn : ∀ (d : Nat) (t : TypeId) (a b : Int), P.underlying t = some (.int .i64) → (Op.equalIn (d + 1) t (.int .i64 a) (.int .i64 b)).run P w' = .ok (a == b) w' := fun d t a b ht => run_equalIn_int w' d t .i64 .i64 a b ht
  rw [Sem.run_bind, run_eqGuard_agg w' .neq t xo yo _ _ hg, Result.andThen_ok, run_neq_struct, run_equalIn_struct w' 9999 t _ _ hu hp, hl]
  simp only [Op.eqFields, ne_eq, n0, n1, not_false_eq_true, if_true, o0, o1, Sem.run_bind]
  rw [pt _ _ 0 (.int .i64 a) h0 rfl, Result.andThen_ok, pt _ _ 0 (.int .i64 c) h0 rfl, Result.andThen_ok, eqn 9998 _ a c h0, Result.andThen_ok]
  by_cases e1 : a = c
  · subst e1
    simp only [beq_self_eq_true, Bool.not_true, Bool.false_eq_true, if_false, Sem.run_bind]
    rw [pt _ _ 1 (.int .i64 b) h1 rfl, Result.andThen_ok, pt _ _ 1 (.int .i64 d) h1 rfl, Result.andThen_ok, eqn 9998 _ b d h1, Result.andThen_ok]
    by_cases e2 : b = d <;> simp [e2]
  · simp [e1]
end
end Go.Vc
namespace Go.Proofs.YtcfnoofghbmiiaaGreatDoor
open Go.Vc
theorem m7 (k : Nat) (w : World) : Ret Tryz.prog yL #[.int .i64 (k : Int)] w (.int .i64 (arity k : Int)) := by
  apply L8; unfold z7
  refine iEq ?_
  refine iJnB (decide (k = 2 ∨ k = 3 ∨ k = 4)) w (fun J hJ => ?_) (fun w2 h2 => ?_)
  · refine iCndP (fun h => ?_) (fun h => ?_)
    · rw [decide_eq_true (.inl (by omega))] at hJ
      exact hJ _ (Ext.refl _)
    · refine iEq ?_
      refine iJnB (decide (k = 2 ∨ k = 3 ∨ k = 4)) w (fun J' hJ' => ?_) (fun w4 h4 => ?_)
      · refine iCndP (fun h' => ?_) (fun h' => ?_)
        · rw [decide_eq_true (.inr (.inl (by omega)))] at hJ'
          exact hJ' _ (Ext.refl _)
        · refine iEq ?_
          rw [show decide (k = 2 ∨ k = 3 ∨ k = 4) = decide ((k : Int) = 4) from decide_eq_decide.2 (by omega)] at hJ'
          exact hJ' _ (Ext.refl _)
      · intro _
        exact hJ _ h4
  · intro _
    simp only [gx]
    refine iCndP (fun h => ?_) (fun h => ?_)
    · rw [show (arity k : Int) = 2 by unfold arity; rw [if_pos h]; rfl]
      exact ⟨by first | trivial | rfl, h2⟩
    · refine iEq ?_
      refine iJnB (decide (k = 5 ∨ k = 6)) w2 (fun J hJ => ?_) (fun w6 h6 => ?_)
      · refine iCndP (fun h' => ?_) (fun h' => ?_)
        · rw [decide_eq_true (.inl (by omega))] at hJ
          exact hJ _ (Ext.refl _)
        · refine iEq ?_
          rw [show decide (k = 5 ∨ k = 6) = decide ((k : Int) = 6) from decide_eq_decide.2 (by omega)] at hJ
          exact hJ _ (Ext.refl _)
      · intro _
        simp only [gx]
        refine iCndP (fun h' => ?_) (fun h' => ?_)
        · rw [show (arity k : Int) = 1 by unfold arity; rw [if_neg h, if_pos h']; rfl]
          exact ⟨by first | trivial | rfl, h2.trans h6⟩
        · rw [show (arity k : Int) = 0 by unfold arity; rw [if_neg h, if_neg h']; rfl]
          exact ⟨by first | trivial | rfl, h2.trans h6⟩
theorem s7 (k : Nat) (w : World) : Ret Tryz.prog vS #[.int .i64 (k : Int)] w (.int .i64 (arity k : Int)) := by
  apply KN; unfold vE
  refine iEq ?_
  refine iJnB (decide (k = 2 ∨ k = 3 ∨ k = 4)) w (fun J hJ => ?_) (fun w2 h2 => ?_)
  · refine iCndP (fun h => ?_) (fun h => ?_)
    · rw [decide_eq_true (.inl (by omega))] at hJ
      exact hJ _ (Ext.refl _)
    · refine iEq ?_
      refine iJnB (decide (k = 2 ∨ k = 3 ∨ k = 4)) w (fun J' hJ' => ?_) (fun w4 h4 => ?_)
      · refine iCndP (fun h' => ?_) (fun h' => ?_)
        · rw [decide_eq_true (.inr (.inl (by omega)))] at hJ'
          exact hJ' _ (Ext.refl _)
        · refine iEq ?_
          rw [show decide (k = 2 ∨ k = 3 ∨ k = 4) = decide ((k : Int) = 4) from decide_eq_decide.2 (by omega)] at hJ'
          exact hJ' _ (Ext.refl _)
      · intro _
        exact hJ _ h4
  · intro _
    simp only [gx]
    refine iCndP (fun h => ?_) (fun h => ?_)
    · rw [show (arity k : Int) = 2 by unfold arity; rw [if_pos h]; rfl]
      exact ⟨by first | trivial | rfl, h2⟩
    · refine iEq ?_
      refine iJnB (decide (k = 5 ∨ k = 6)) w2 (fun J hJ => ?_) (fun w6 h6 => ?_)
      · refine iCndP (fun h' => ?_) (fun h' => ?_)
        · rw [decide_eq_true (.inl (by omega))] at hJ
          exact hJ _ (Ext.refl _)
        · refine iEq ?_
          rw [show decide (k = 5 ∨ k = 6) = decide ((k : Int) = 6) from decide_eq_decide.2 (by omega)] at hJ
          exact hJ _ (Ext.refl _)
      · intro _
        simp only [gx]
        refine iCndP (fun h' => ?_) (fun h' => ?_)
        · rw [show (arity k : Int) = 1 by unfold arity; rw [if_neg h, if_pos h']; rfl]
          exact ⟨by first | trivial | rfl, h2.trans h6⟩
        · rw [show (arity k : Int) = 0 by unfold arity; rw [if_neg h, if_neg h']; rfl]
          exact ⟨by first | trivial | rfl, h2.trans h6⟩
theorem SP {fs : List Fm} {f : Fm} {r xs : List Value} {i : Nat} (h : xs.drop (i * 2) = aU (f :: fs) ++ r) : xs[i * 2 + 0]? = some (.int .i64 (f.kind : Int)) ∧ xs[i * 2 + 1]? = some (.int .i64 (f.sym : Int)) ∧ xs.drop ((i + 1) * 2) = aU (f.kids ++ fs) ++ r := by
  have e : aU (f :: fs) ++ r = nd f.kind f.sym ++ (aU (f.kids ++ fs) ++ r) := by
    rw [BT]
    simp only [aU, List.flatMap_cons]
    rw [f.cells_kids]
    simp [aU]
  rw [e] at h
  refine ⟨?_, ?_, ?_⟩
  · have := congrArg (fun l => l[0]?) h
    simpa [List.getElem?_drop] using this
  · have := congrArg (fun l => l[1]?) h
    simpa [List.getElem?_drop] using this
  · have := congrArg (List.drop 2) h
    rw [List.drop_drop] at this
    rw [show (i + 1) * 2 = i * 2 + 2 by omega, this]
    rfl
theorem nQ {v : Value} {n i : Nat} {xs : List Value} {f : Fm} {r : List Value} {w : World} (hs : SlK 2 w v n xs) (hx : xs.drop (i * 2) = f.cells ++ r) (hn : n ≤ 1099511627776) : Ret Tryz.prog zP #[v, .int .i64 (i : Int)] w (.int .i64 ((i + f.size : Nat) : Int)) := by
  apply NL; unfold AJ
  have hlen : xs.length = n * 2 := hs.1
  refine iLp (fun s : Nat × List Fm => [.int .i64 (s.1 : Int), .int .i64 (s.2.length : Int)]) (fun s w' => Ext w w' ∧ xs.drop (s.1 * 2) = aU s.2 ++ r ∧ s.1 + sizeL s.2 = i + f.size) (fun s => sizeL s.2) (i, [f]) rfl ⟨Ext.refl _, by simpa [aU] using hx, by simp [sizeL]⟩ ?_
  rintro ⟨j, fs⟩ w2 Kn ⟨h2, hd, hsum⟩ hKn
  have hd : xs.drop (j * 2) = aU fs ++ r := hd
  have hsum : j + sizeL fs = i + f.size := hsum
  intro _
  simp only [gx]
  refine iLt ?_
  cases fs with
  | nil =>
    refine iCndF (by simp) ?_
    have : j = i + f.size := by simpa [sizeL] using hsum
    exact ⟨by rw [this], h2⟩
  | cons g gs =>
    refine iCndT (by simp) ?_
    have hpos : 1 ≤ sizeL (g :: gs) := by simp only [sizeL, List.map_cons, List.sum_cons]; have := g.size_pos; omega
    have hl := congrArg List.length hd
    rw [List.length_drop, List.length_append, JU] at hl
    have hjn : j < n := by omega
    refine iLenK (hs.ext h2) ?_
    refine iLe ?_
    refine iCndP (fun h => by omega) (fun _ => ?_)
    obtain ⟨hk, -, hd'⟩ := SP hd
    refine iFld (hs.ext h2) rfl hjn (by decide) hk ?_
    refine iRet (m7 g.kind w2) fun w3 h23 => ?_
    have har := g.arity_kids
    have hk2 : g.kids.length ≤ 2 := by cases g <;> simp [Fm.kids]
    have hgl := D1 gs
    have hsg : sizeL (g :: gs) = g.size + sizeL gs := by simp [sizeL]
    refine iSub (by omega) ?_
    refine iAdd (by rw [List.length_cons]; omega) ?_
    refine iAdd (by omega) ?_
    rw [show ((g :: gs).length : Int) + ((arity g.kind : Int) - 1) = ((g.kids ++ gs).length : Int) by rw [har, List.length_append, List.length_cons]; omega]
    have hgk := g.size_kids
    exact hKn (j + 1, g.kids ++ gs) _ ⟨h2.trans h23, hd', by show j + 1 + sizeL (g.kids ++ gs) = _; rw [mS]; omega⟩ (by show sizeL (g.kids ++ gs) < sizeL (g :: gs); rw [mS]; omega)
theorem vO {v : Value} {n i : Nat} {xs : List Value} {f : Fm} {r : List Value} {w : World} (hs : SlK 2 w v n xs) (hx : xs.drop (i * 2) = f.cells ++ r) (hn : n ≤ 1099511627776) : Ret Tryz.prog pE #[v, .int .i64 (i : Int)] w (.int .i64 ((i + f.size : Nat) : Int)) := by
  apply A5; unfold pI
  have hlen : xs.length = n * 2 := hs.1
  refine iLp (fun s : Nat × List Fm => [.int .i64 (s.1 : Int), .int .i64 (s.2.length : Int)]) (fun s w' => Ext w w' ∧ xs.drop (s.1 * 2) = aU s.2 ++ r ∧ s.1 + sizeL s.2 = i + f.size) (fun s => sizeL s.2) (i, [f]) rfl ⟨Ext.refl _, by simpa [aU] using hx, by simp [sizeL]⟩ ?_
  rintro ⟨j, fs⟩ w2 Kn ⟨h2, hd, hsum⟩ hKn
  have hd : xs.drop (j * 2) = aU fs ++ r := hd
  have hsum : j + sizeL fs = i + f.size := hsum
  intro _
  simp only [gx]
  refine iLt ?_
  cases fs with
  | nil =>
    refine iCndF (by simp) ?_
    have : j = i + f.size := by simpa [sizeL] using hsum
    exact ⟨by rw [this], h2⟩
  | cons g gs =>
    refine iCndT (by simp) ?_
    have hpos : 1 ≤ sizeL (g :: gs) := by simp only [sizeL, List.map_cons, List.sum_cons]; have := g.size_pos; omega
    have hl := congrArg List.length hd
    rw [List.length_drop, List.length_append, JU] at hl
    have hjn : j < n := by omega
    refine iLenK (hs.ext h2) ?_
    refine iLe ?_
    refine iCndP (fun h => by omega) (fun _ => ?_)
    obtain ⟨hk, -, hd'⟩ := SP hd
    have har := g.arity_kids
    have hk2 : g.kids.length ≤ 2 := by cases g <;> simp [Fm.kids]
    have hgl := D1 gs
    have hsg : sizeL (g :: gs) = g.size + sizeL gs := by simp [sizeL]
    refine iSub (by rw [List.length_cons]; omega) ?_
    refine iFld (hs.ext h2) rfl hjn (by decide) hk ?_
    refine iRet (s7 g.kind w2) fun w3 h23 => ?_
    refine iAdd (by rw [List.length_cons]; omega) ?_
    refine iAdd (by omega) ?_
    rw [show ((g :: gs).length : Int) - 1 + (arity g.kind : Int) = ((g.kids ++ gs).length : Int) by rw [har, List.length_append, List.length_cons]; omega]
    have hgk := g.size_kids
    exact hKn (j + 1, g.kids ++ gs) _ ⟨h2.trans h23, hd', by show j + 1 + sizeL (g.kids ++ gs) = _; rw [mS]; omega⟩ (by show sizeL (g.kids ++ gs) < sizeL (g :: gs); rw [mS]; omega)
theorem oX {f g : Fm} {gs : List Fm} (hk : f.kids = g :: gs) : f.cells.drop (1 * 2) = g.cells ++ aU gs := by
  rw [f.cells_kids, hk]; simp [aU]
theorem QT {f g h : Fm} (hk : f.kids = [g, h]) : f.cells.drop ((1 + g.size) * 2) = h.cells ++ [] ∧ f.size = 1 + g.size + h.size := by
  refine ⟨?_, by have := f.size_kids; rw [hk] at this; simp [sizeL] at this; omega⟩
  rw [f.cells_kids, hk, show (1 + g.size) * 2 = 2 + g.cells.length by rw [g.cells_len]; omega, ← List.drop_drop]
  simp [aU]
theorem FH {v : Value} {n i : Nat} {xs : List Value} {f : Fm} {r : List Value} {w : World} (hs : SlK 2 w v n xs) (hx : xs.drop (i * 2) = f.cells ++ r) (hin : i + f.size ≤ n) (hn : n ≤ 1099511627776) : Cal Tryz.prog GW #[v, .int .i64 (i : Int)] w fun u w' => Ext w w' ∧ FmS w' u f := by
  apply Q6; unfold HD
  refine iRet (nQ hs hx hn) fun w1 h1 => ?_
  refine iRet (nQ (hs.ext h1) hx hn) fun w2 h2 => ?_
  refine W7 eG eA ((hs.ext h1).ext h2) (by omega) hin fun u hu => ⟨h1.trans h2, ?_⟩
  rw [hx, Nat.add_sub_cancel_left, ← f.cells_len, List.take_left] at hu
  exact hu
theorem aK {v : Value} {f g : Fm} {gs : List Fm} {w : World} (hs : FmS w v f) (hk : f.kids = g :: gs) (hn : f.size ≤ 1099511627776) : Cal Tryz.prog E6 #[v] w fun u w' => Ext w w' ∧ FmS w' u g := by
  apply PG; unfold DY
  have hsz := f.size_kids
  rw [hk] at hsz
  simp only [sizeL, List.map_cons, List.sum_cons] at hsz
  refine iCall ((FH (i := 1) hs (oX hk) (by omega) hn).mono ?_)
  rintro u w1 ⟨h1, hu⟩
  exact ⟨h1, hu⟩
theorem aV {v : Value} {f g h : Fm} {w : World} (hs : FmS w v f) (hk : f.kids = [g, h]) (hn : f.size ≤ 1099511627776) : Cal Tryz.prog CA #[v] w fun u w' => Ext w w' ∧ FmS w' u h := by
  apply OK; unfold B1
  obtain ⟨hd, hsz⟩ := QT hk
  refine iRet (nQ (i := 1) hs (oX hk) hn) fun w1 h1 => ?_
  refine iCall ((FH (i := 1 + g.size) (hs.ext h1) hd (by omega) hn).mono ?_)
  rintro u w2 ⟨h2, hu⟩
  exact ⟨h1.trans h2, hu⟩
theorem aJ {w : World} {v : Value} {f : Fm} (hs : FmS w v f) : f.cells[0 * 2 + 0]? = some (.int .i64 (f.kind : Int)) ∧ f.cells[0 * 2 + 1]? = some (.int .i64 (f.sym : Int)) := by
  have _ := hs
  rw [f.cells_kids]
  simp [nd]
end Go.Proofs.YtcfnoofghbmiiaaGreatDoor

namespace Go.Vc
abbrev RN := Int × Int
def rcell (q : RN) : List Value := [.int .i64 q.1, .int .i64 q.2]
def a8 (N : List RN) : List Value := N.flatMap rcell
def rawF : Fm → List RN
  | .var v => [(0, (v : Int))]
  | .fls => [(1, 0)]
  | .and a b => (2, 0) :: (rawF a ++ rawF b)
  | .or a b => (3, 0) :: (rawF a ++ rawF b)
  | .imp a b => (4, 0) :: (rawF a ++ rawF b)
  | .box a => (5, 0) :: rawF a
  | .dia a => (6, 0) :: rawF a
theorem cY (q : RN) (N : List RN) : a8 (q :: N) = rcell q ++ a8 N := by simp [a8]
theorem nD (M N : List RN) : a8 (M ++ N) = a8 M ++ a8 N := by simp [a8]
theorem dT : ∀ f : Fm, a8 (rawF f) = f.cells
  | .var v => rfl
  | .fls => rfl
  | .and a b => by rw [rawF, cY, nD, dT a, dT b]; simp [Fm.cells, rcell]
  | .or a b => by rw [rawF, cY, nD, dT a, dT b]; simp [Fm.cells, rcell]
  | .imp a b => by rw [rawF, cY, nD, dT a, dT b]; simp [Fm.cells, rcell]
  | .box a => by rw [rawF, cY, dT a]; simp [Fm.cells, rcell]
  | .dia a => by rw [rawF, cY, dT a]; simp [Fm.cells, rcell]
theorem b6 : ∀ f : Fm, (rawF f).length = f.size
  | .var _ => rfl
  | .fls => rfl
  | .and a b => by simp only [rawF, Fm.size, List.length_cons, List.length_append, b6 a, b6 b]; omega
  | .or a b => by simp only [rawF, Fm.size, List.length_cons, List.length_append, b6 a, b6 b]; omega
  | .imp a b => by simp only [rawF, Fm.size, List.length_cons, List.length_append, b6 a, b6 b]; omega
  | .box a => by simp only [rawF, Fm.size, List.length_cons, b6 a]; omega
  | .dia a => by simp only [rawF, Fm.size, List.length_cons, b6 a]; omega
theorem SZ (N : List RN) : (a8 N).length = N.length * 2 := by
  induction N with
  | nil => rfl
  | cons q N ih => rw [cY, List.length_append, ih, List.length_cons]; show 2 + _ = _; omega
theorem EJ : ∀ {N : List RN} {i : Nat} (h : i < N.length), (a8 N)[i * 2 + 0]? = some (.int .i64 N[i].1) ∧ (a8 N)[i * 2 + 1]? = some (.int .i64 N[i].2)
  | [], _, h => by simp at h
  | q :: N, 0, _ => ⟨rfl, rfl⟩
  | q :: N, i + 1, h => by
    have := EJ (N := N) (i := i) (by simpa using h)
    have e : ∀ f, (a8 (q :: N))[(i + 1) * 2 + f]? = (a8 N)[i * 2 + f]? := fun f => by
      rw [cY, List.getElem?_append_right (by simp [rcell]; omega)]
      congr 1
      simp [rcell]; omega
    rw [e, e]
    simpa using this
def okN (q : RN) : Bool := decide (0 ≤ q.1 ∧ q.1 ≤ 6) && (decide (0 ≤ q.2 ∧ q.2 ≤ 5) && (decide (q.1 = 0) || decide (q.2 = 0)))
theorem M3 {q : RN} : okN q = true ↔ (0 ≤ q.1 ∧ q.1 ≤ 6) ∧ (0 ≤ q.2 ∧ q.2 ≤ 5) ∧ (q.1 = 0 ∨ q.2 = 0) := by
  unfold okN
  rw [Bool.and_eq_true, Bool.and_eq_true, Bool.or_eq_true, decide_eq_true_eq, decide_eq_true_eq, decide_eq_true_eq, decide_eq_true_eq]
def arZ (k : Int) : Nat := if k = 2 ∨ k = 3 ∨ k = 4 then 2 else if k = 5 ∨ k = 6 then 1 else 0
theorem V7 (k : Nat) : arZ (k : Int) = arity k := by
  unfold arZ arity
  have h1 : ((k : Int) = 2 ∨ (k : Int) = 3 ∨ (k : Int) = 4) ↔ (k = 2 ∨ k = 3 ∨ k = 4) := by omega
  have h2 : ((k : Int) = 5 ∨ (k : Int) = 6) ↔ (k = 5 ∨ k = 6) := by omega
  by_cases c1 : k = 2 ∨ k = 3 ∨ k = 4
  · rw [if_pos (h1.2 c1), if_pos c1]
  · rw [if_neg (fun h => c1 (h1.1 h)), if_neg c1]
    by_cases c2 : k = 5 ∨ k = 6
    · rw [if_pos (h2.2 c2), if_pos c2]
    · rw [if_neg (fun h => c2 (h2.1 h)), if_neg c2]
def goN : List RN → Nat → Option (List RN)
  | N, 0 => some N
  | [], _ + 1 => none
  | q :: N, o + 1 => goN N (o + arZ q.1)
theorem H0 (N : List RN) : goN N 0 = some N := by cases N <;> rfl
theorem QC (q : RN) (N : List RN) (o : Nat) : goN (q :: N) (o + 1) = goN N (o + arZ q.1) := rfl
theorem kH : ∀ (f : Fm) (R : List RN) (o : Nat), goN (rawF f ++ R) (o + 1) = goN R o
  | .var v, R, o => rfl
  | .fls, R, o => rfl
  | .and a b, R, o => by
    show goN (rawF a ++ rawF b ++ R) (o + 1 + 1) = _
    rw [List.append_assoc, kH a, kH b]
  | .or a b, R, o => by
    show goN (rawF a ++ rawF b ++ R) (o + 1 + 1) = _
    rw [List.append_assoc, kH a, kH b]
  | .imp a b, R, o => by
    show goN (rawF a ++ rawF b ++ R) (o + 1 + 1) = _
    rw [List.append_assoc, kH a, kH b]
  | .box a, R, o => by
    show goN (rawF a ++ R) (o + 1) = _
    rw [kH a]
  | .dia a, R, o => by
    show goN (rawF a ++ R) (o + 1) = _
    rw [kH a]
theorem OD : ∀ (N : List RN) (o : Nat) (R : List RN), (∀ q ∈ N, okN q = true) → goN N o = some R → ∃ fs : List Fm, fs.length = o ∧ (∀ f ∈ fs, f.good) ∧ N = fs.flatMap rawF ++ R
  | N, 0, R, _, h => by
    rw [H0] at h
    refine ⟨[], rfl, fun f hf => ?_, ?_⟩
    · cases hf
    · exact Option.some.inj h
  | [], o + 1, R, _, h => by cases h
  | q :: N, o + 1, R, hok, h => by
    rw [QC] at h
    obtain ⟨fs, hl, hg, hN⟩ := OD N (o + arZ q.1) R (fun x hx => hok x (List.mem_cons_of_mem _ hx)) h
    obtain ⟨k, s⟩ := q
    have hq := M3.1 (hok _ List.mem_cons_self)
    obtain ⟨⟨k0, k6⟩, ⟨s0, s5⟩, hks⟩ := hq
    have k0 : 0 ≤ k := k0
    have k6 : k ≤ 6 := k6
    have s0 : 0 ≤ s := s0
    have s5 : s ≤ 5 := s5
    have hks : k = 0 ∨ s = 0 := hks
    have hl : fs.length = o + arZ k := hl
    have two : ∀ {c : Fm → Fm → Fm} {kk : Int}, k = kk → arZ k = 2 → s = 0 → (∀ a b, rawF (c a b) = (kk, 0) :: (rawF a ++ rawF b)) → (∀ a b, a.good → b.good → (c a b).good) → ∃ fs : List Fm, fs.length = o + 1 ∧ (∀ f ∈ fs, f.good) ∧ (k, s) :: N = fs.flatMap rawF ++ R := by
      intro c kk hk h2 hs hc hcg
      rw [h2] at hl
      match fs, hl, hg, hN with
      | a :: b :: fs, hl, hg, hN =>
        refine ⟨c a b :: fs, by simpa using hl, fun f hf => ?_, ?_⟩
        · rcases List.mem_cons.1 hf with rfl | hf
          · exact hcg _ _ (hg a (by simp)) (hg b (by simp))
          · exact hg f (by simp [hf])
        · rw [hN, hk, hs]; simp [hc]
    have one : ∀ {c : Fm → Fm} {kk : Int}, k = kk → arZ k = 1 → s = 0 → (∀ a, rawF (c a) = (kk, 0) :: rawF a) → (∀ a, a.good → (c a).good) → ∃ fs : List Fm, fs.length = o + 1 ∧ (∀ f ∈ fs, f.good) ∧ (k, s) :: N = fs.flatMap rawF ++ R := by
      intro c kk hk h2 hs hc hcg
      rw [h2] at hl
      match fs, hl, hg, hN with
      | a :: fs, hl, hg, hN =>
        refine ⟨c a :: fs, by simpa using hl, fun f hf => ?_, ?_⟩
        · rcases List.mem_cons.1 hf with rfl | hf
          · exact hcg _ (hg a (by simp))
          · exact hg f (by simp [hf])
        · rw [hN, hk, hs]; simp [hc]
    have nul : ∀ {c : Fm}, arZ k = 0 → rawF c = [(k, s)] → c.good → ∃ fs : List Fm, fs.length = o + 1 ∧ (∀ f ∈ fs, f.good) ∧ (k, s) :: N = fs.flatMap rawF ++ R := by
      intro c h2 hc hcg
      rw [h2] at hl
      refine ⟨c :: fs, by rw [List.length_cons]; omega, fun f hf => ?_, ?_⟩
      · rcases List.mem_cons.1 hf with rfl | hf
        · exact hcg
        · exact hg f hf
      · rw [hN, List.flatMap_cons, hc]; simp
    have hcase : k = 0 ∨ k = 1 ∨ k = 2 ∨ k = 3 ∨ k = 4 ∨ k = 5 ∨ k = 6 := by omega
    rcases hcase with h | h | h | h | h | h | h
    · refine nul (c := .var s.toNat) (by rw [h]; rfl) ?_ (show s.toNat < 6 by omega)
      rw [h]
      show [(0, ((s.toNat : Nat) : Int))] = _
      rw [Int.toNat_of_nonneg s0]
    · have hs : s = 0 := by omega
      exact nul (c := .fls) (by rw [h]; rfl) (by rw [h, hs]; rfl) trivial
    · exact two (c := .and) h (by rw [h]; rfl) (by omega) (fun _ _ => rfl) fun _ _ h1 h2 => ⟨h1, h2⟩
    · exact two (c := .or) h (by rw [h]; rfl) (by omega) (fun _ _ => rfl) fun _ _ h1 h2 => ⟨h1, h2⟩
    · exact two (c := .imp) h (by rw [h]; rfl) (by omega) (fun _ _ => rfl) fun _ _ h1 h2 => ⟨h1, h2⟩
    · exact one (c := .box) h (by rw [h]; rfl) (by omega) (fun _ => rfl) fun _ h1 => h1
    · exact one (c := .dia) h (by rw [h]; rfl) (by omega) (fun _ => rfl) fun _ h1 => h1
theorem kF : ∀ {f : Fm}, f.good → ∀ q ∈ rawF f, okN q = true
  | .var v, h, q, hq => by
    simp only [rawF, List.mem_singleton] at hq
    subst hq
    have h : v < 6 := h
    exact M3.2 ⟨by simp, by simp; omega, .inl rfl⟩
  | .fls, _, q, hq => by simp only [rawF, List.mem_singleton] at hq; subst hq; rfl
  | .and a b, h, q, hq => by
    simp only [rawF, List.mem_cons, List.mem_append] at hq
    rcases hq with rfl | hq | hq
    · rfl
    · exact kF h.1 q hq
    · exact kF h.2 q hq
  | .or a b, h, q, hq => by
    simp only [rawF, List.mem_cons, List.mem_append] at hq
    rcases hq with rfl | hq | hq
    · rfl
    · exact kF h.1 q hq
    · exact kF h.2 q hq
  | .imp a b, h, q, hq => by
    simp only [rawF, List.mem_cons, List.mem_append] at hq
    rcases hq with rfl | hq | hq
    · rfl
    · exact kF h.1 q hq
    · exact kF h.2 q hq
  | .box a, h, q, hq => by
    simp only [rawF, List.mem_cons] at hq
    rcases hq with rfl | hq
    · rfl
    · exact kF (f := a) h q hq
  | .dia a, h, q, hq => by
    simp only [rawF, List.mem_cons] at hq
    rcases hq with rfl | hq
    · rfl
    · exact kF (f := a) h q hq
def treeN (N : List RN) : Bool := N.all okN && decide (goN N 1 = some [])
def isN (N : List RN) : Bool := decide (N.length ≤ 40) && treeN N
theorem UW {N : List RN} : treeN N = true ↔ ∃ f : Fm, f.good ∧ N = rawF f := by
  unfold treeN
  rw [Bool.and_eq_true, decide_eq_true_eq, List.all_eq_true]
  constructor
  · rintro ⟨h1, h2⟩
    obtain ⟨fs, hl, hg, hN⟩ := OD N 1 [] h1 h2
    match fs, hl, hg, hN with
    | [f], _, hg, hN => exact ⟨f, hg f (by simp), by simpa using hN⟩
  · rintro ⟨f, hg, rfl⟩
    refine ⟨kF hg, ?_⟩
    have := kH f [] 0
    rw [List.append_nil] at this
    rw [this]; rfl
theorem W0 {N : List RN} : isN N = true ↔ ∃ f : Fm, f.good ∧ f.size ≤ 40 ∧ N = rawF f := by
  unfold isN
  rw [Bool.and_eq_true, decide_eq_true_eq, UW]
  constructor
  · rintro ⟨h, f, hg, rfl⟩
    exact ⟨f, hg, by rwa [b6] at h, rfl⟩
  · rintro ⟨f, hg, h, rfl⟩
    exact ⟨by rwa [b6], f, hg, rfl⟩
end Go.Vc

namespace Go.Vc
abbrev RawS (w : World) (v : Value) (N : List RN) : Prop := SlK 2 w v N.length (a8 N)
theorem VX {N : List RN} {j : Nat} (hj : j < N.length) (o : Nat) : goN (N.drop j) (o + 1) = goN (N.drop (j + 1)) (o + arZ N[j].1) := by
  rw [List.drop_eq_getElem_cons hj]; rfl
def endN (N : List RN) (i : Nat) : Int := match goN (N.drop i) 1 with
  | some R => ((N.length - R.length : Nat) : Int)
  | none => -1
theorem R5 : ∀ (N : List RN) (o : Nat) (R : List RN), goN N o = some R → R.length ≤ N.length
  | N, 0, R, h => by rw [H0] at h; cases h; exact Nat.le_refl _
  | [], _ + 1, _, h => by cases h
  | q :: N, o + 1, R, h => by
    rw [QC] at h
    have := R5 N _ R h
    rw [List.length_cons]; omega
theorem UY {N : List RN} (h : N.all okN = true) (hp : 0 < N.length) : decide (endN N 0 = (N.length : Int)) = treeN N := by
  unfold treeN endN
  rw [h, Bool.true_and, List.drop_zero]
  cases hg : goN N 1 with
  | none => 
    refine decide_eq_decide.2 ⟨fun e => ?_, fun e => by cases e⟩
    have e : (-1 : Int) = (N.length : Int) := e
    omega
  | some R =>
    have hl := R5 N 1 R hg
    refine decide_eq_decide.2 ⟨fun e => ?_, fun e => ?_⟩
    · have e : ((N.length - R.length : Nat) : Int) = (N.length : Int) := e
      have : R = [] := List.length_eq_zero_iff.1 (by omega)
      rw [this]
    · cases e
      show ((N.length - 0 : Nat) : Int) = _
      rw [Nat.sub_zero]
theorem WI {q : RN} (h : okN q = true) : ∃ k s : Nat, q = ((k : Int), (s : Int)) ∧ k ≤ 6 ∧ s ≤ 5 := by
  obtain ⟨⟨h1, h2⟩, ⟨h3, h4⟩, _⟩ := M3.1 h
  obtain ⟨a, b⟩ := q
  have h1 : 0 ≤ a := h1
  have h2 : a ≤ 6 := h2
  have h3 : 0 ≤ b := h3
  have h4 : b ≤ 5 := h4
  refine ⟨a.toNat, b.toNat, ?_, by omega, by omega⟩
  rw [Int.toNat_of_nonneg h1, Int.toNat_of_nonneg h3]
end Go.Vc
namespace Go.Proofs.YtcfnoofghbmiiaaGreatDoor
open Go.Vc
theorem HH {v : Value} {N : List RN} {i : Nat} {w : World} (hs : RawS w v N) (hok : N.all okN = true) (hi : i ≤ N.length) (hn : N.length ≤ 1099511627776) : Ret Tryz.prog pE #[v, .int .i64 (i : Int)] w (.int .i64 (endN N i)) := by
  apply A5; unfold pI
  refine iLp (fun s : Nat × Nat => [.int .i64 (s.1 : Int), .int .i64 (s.2 : Int)]) (fun s w' => Ext w w' ∧ s.1 ≤ N.length ∧ s.2 ≤ 1 + 2 * s.1 ∧ goN (N.drop s.1) s.2 = goN (N.drop i) 1) (fun s => N.length - s.1) (i, 1) rfl ⟨Ext.refl _, hi, by show 1 ≤ 1 + 2 * i; omega, rfl⟩ ?_
  rintro ⟨j, o⟩ w2 Kn ⟨x2, hj, ho, hg⟩ hKn
  have hj : j ≤ N.length := hj
  have ho : o ≤ 1 + 2 * j := ho
  have hg : goN (N.drop j) o = goN (N.drop i) 1 := hg
  intro _
  simp only [gx]
  refine iLt (iCndP (fun h3 => ?_) (fun h3 => ?_))
  · obtain ⟨o', rfl⟩ : ∃ o', o = o' + 1 := ⟨o - 1, by omega⟩
    refine iLenK (SlK.ext hs x2) ?_
    refine iLe (iCndP (fun h4 => ?_) (fun h4 => ?_))
    · obtain rfl : j = N.length := by omega
      rw [List.drop_length] at hg
      refine ⟨?_, x2⟩
      unfold endN
      rw [← hg]; rfl
    · have hj1 : j < N.length := by omega
      have hat := EJ hj1
      obtain ⟨k, s, hq, hk6, _⟩ := WI (List.all_eq_true.1 hok _ (List.getElem_mem hj1))
      refine iSub (by omega) ?_
      refine iFld (f := 0) (SlK.ext hs x2) rfl hj1 (by decide) hat.1 ?_
      have e1 : N[j].1 = (k : Int) := by rw [hq]
      rw [e1]
      refine iRet (s7 k w2) fun w3 x3 => ?_
      have hak : arity k ≤ 2 := by unfold arity; split; omega; split <;> omega
      refine iAdd (by omega) (iAdd (by omega) ?_)
      rw [show ((o' + 1 : Nat) : Int) - 1 + (arity k : Int) = ((o' + arity k : Nat) : Int) by omega]
      refine hKn (j + 1, o' + arity k) _ ⟨x2.trans x3, by show j + 1 ≤ N.length; omega, by show o' + arity k ≤ 1 + 2 * (j + 1); omega, ?_⟩ (by show N.length - (j + 1) < N.length - j; omega)
      show goN (N.drop (j + 1)) (o' + arity k) = _
      rw [← hg, VX hj1, e1, V7]
  · obtain rfl : o = 0 := by omega
    rw [H0] at hg
    refine ⟨?_, x2⟩
    unfold endN
    rw [← hg]
    show Value.int .i64 (j : Int) = .int .i64 ((N.length - (N.drop j).length : Nat) : Int)
    rw [List.length_drop, show N.length - (N.length - j) = j by omega]
theorem I0 {v : Value} {N : List RN} {w : World} (hs : RawS w v N) (hn : N.length ≤ 1099511627776) : Ret Tryz.prog A6 #[v] w (.bool (treeN N)) := by
  apply LU; unfold AG
  refine iLp (fun i : Nat => [.int .i64 (i : Int)]) (fun i w' => i ≤ N.length ∧ Ext w w' ∧ (N.take i).all okN = true) (fun i => N.length - i) 0 rfl ⟨Nat.zero_le _, Ext.refl _, by simp⟩ ?_
  rintro i w2 Kn ⟨hi, x2, hall⟩ hKn
  have hs2 := SlK.ext hs x2
  intro _
  simp only [gx]
  refine iLenK hs2 ?_
  refine iLt (iCndP (fun h3 => ?_) (fun h3 => ?_))
  · have hi1 : i < N.length := by omega
    have hat := EJ hi1
    refine iJnB (!okN N[i]) w2 (fun J hJ => ?_) (fun w4 x4 => ?_)
    · refine iFld (f := 0) hs2 rfl hi1 (by decide) hat.1 ?_
      refine iRet (DA _ _ _ w2) fun w5 x5 => ?_
      refine iNot ?_
      have hs5 := SlK.ext hs2 x5
      by_cases c1 : 0 ≤ N[i].1 ∧ N[i].1 ≤ 6
      · rw [decide_eq_true c1]
        refine iCndF rfl ?_
        refine iFld (f := 1) hs5 rfl hi1 (by decide) hat.2 ?_
        refine iRet (DA _ _ _ w5) fun w6 x6 => ?_
        have hs6 := SlK.ext hs5 x6
        refine iNot ?_
        by_cases c2 : 0 ≤ N[i].2 ∧ N[i].2 ≤ 5
        · rw [decide_eq_true c2]
          refine iCndF rfl ?_
          refine iFld (f := 0) hs6 rfl hi1 (by decide) hat.1 ?_
          refine iNe (iCndP (fun c3 => ?_) (fun c3 => ?_))
          · refine iFld (f := 1) hs6 rfl hi1 (by decide) hat.2 ?_
            refine iNe ?_
            have : (!okN N[i]) = decide (¬ N[i].2 = 0) := by
              unfold okN
              rw [decide_eq_true c1, decide_eq_true c2, decide_eq_false c3, Bool.true_and, Bool.true_and, Bool.false_or, ← decide_not]
            rw [this] at hJ
            exact hJ _ (x5.trans x6)
          · have c3 : N[i].1 = 0 := Classical.not_not.1 c3
            have : (!okN N[i]) = false := by
              unfold okN
              rw [decide_eq_true c1, decide_eq_true c2, decide_eq_true c3]; rfl
            rw [this] at hJ
            exact hJ _ (x5.trans x6)
        · rw [decide_eq_false c2]
          refine iCndT rfl ?_
          have : (!okN N[i]) = true := by
            unfold okN
            rw [decide_eq_false c2, Bool.false_and, Bool.and_false]; rfl
          rw [this] at hJ
          exact hJ _ (x5.trans x6)
      · rw [decide_eq_false c1]
        refine iCndT rfl ?_
        have : (!okN N[i]) = true := by
          unfold okN
          rw [decide_eq_false c1, Bool.false_and]; rfl
        rw [this] at hJ
        exact hJ _ x5
    · intro _
      cases hb : okN N[i] with
      | false =>
        refine iCndT (by first | rfl | exact congrArg not hb) ?_
        refine ⟨?_, x2.trans x4⟩
        have : treeN N = false := by
          unfold treeN
          have : N.all okN = false := by
            rw [List.all_eq_false]
            exact ⟨N[i], List.getElem_mem hi1, by rw [hb]; decide⟩
          rw [this, Bool.false_and]
        rw [this]
      | true =>
        refine iCndF (by first | rfl | exact congrArg not hb) ?_
        refine iAdd (by omega) ?_
        refine hKn (i + 1) _ ⟨by omega, x2.trans x4, ?_⟩ (by omega)
        rw [List.take_succ_eq_append_getElem hi1, List.all_append, hall]
        simp [hb]
  · obtain rfl : i = N.length := by omega
    rw [List.take_length] at hall
    refine iJnB (treeN N) w2 (fun J hJ => ?_) (fun w8 x8 => fun _ => ⟨rfl, x2.trans x8⟩)
    refine iLenK hs2 ?_
    refine iLt (iCndP (fun h4 => ?_) (fun h4 => ?_))
    · have hp : 0 < N.length := by omega
      refine iRet (HH (i := 0) hs2 hall (Nat.zero_le _) hn) fun w9 x9 => ?_
      refine iLenK (SlK.ext hs2 x9) ?_
      refine iEq ?_
      rw [UY hall hp]
      exact hJ _ x9
    · have h0 : N = [] := List.length_eq_zero_iff.1 (by omega)
      subst h0
      exact hJ _ (Ext.refl _)
theorem OS {v : Value} {N : List RN} {w : World} (hs : RawS w v N) (hn : N.length ≤ 1099511627776) : Ret Tryz.prog E9 #[v] w (.bool (isN N)) := by
  apply QF; unfold EQ
  refine iJnB (isN N) w (fun J hJ => ?_) (fun w2 x2 => fun _ => ⟨rfl, x2⟩)
  refine iLenK hs ?_
  unfold isN at hJ
  refine iLe (iCndP (fun h => ?_) (fun h => ?_))
  · rw [decide_eq_true (by omega), Bool.true_and] at hJ
    refine iRet (I0 hs hn) fun w3 x3 => hJ _ x3
  · rw [decide_eq_false (by omega), Bool.false_and] at hJ
    exact hJ _ (Ext.refl _)
end Go.Proofs.YtcfnoofghbmiiaaGreatDoor

namespace Go.Vc
def Rx (e : TypeId) (w : World) (g cap : Nat) (cur : List Value) : Prop := Blk e w g cur ∧ cur.length = cap * 2 ∧ cap ≤ 9223372036854775807
theorem OwK.rx {lo n : Nat} {e : TypeId} {w : World} {v : Value} {xs : List Value} (h : OwK 2 lo e w v n xs) (hn : 0 < n) :
    ∃ g cap cur, v = .slice (some ⟨g, 0, none⟩) n cap ∧ lo ≤ g ∧ n ≤ cap ∧ Rx e w g cap cur ∧ cur.take (n * 2) = xs := by
  obtain ⟨_, ⟨_, h0⟩ | ⟨g, cap, cur, hv, hg, hh, h1, h2, h3, h4⟩⟩ := h
  · omega
  · exact ⟨g, cap, cur.toList, hv, hg, h1, ⟨by unfold Blk; rw [Array.toArray_toList]; exact hh, by simpa using h3, h2⟩, h4⟩
section
variable {P : Program} {w : World} {e : TypeId} {g cap : Nat} {cur : List Value}
theorem Rx.own {lo n : Nat} {xs : List Value} (h : Rx e w g cap cur) (hl : lo ≤ g) (hn : n ≤ cap) (hx : cur.take (n * 2) = xs) : OwK 2 lo e w (.slice (some ⟨g, 0, none⟩) n cap) n xs :=
  ⟨by rw [← hx, List.length_take, h.2.1]; omega, .inr ⟨g, cap, cur.toArray, rfl, hl, h.1, hn, h.2.2, by simpa using h.2.1, by simpa using hx⟩⟩
theorem Rx.ext {w' : World} (h : Rx e w g cap cur) (x : Ext w w') : Rx e w' g cap cur := ⟨h.1.ext x, h.2⟩
def putX (cur : List Value) (o : Nat) (ys : List Value) : List Value := cur.take o ++ ys ++ cur.drop (o + ys.length)
theorem VF {cur : List Value} {o : Nat} {ys : List Value} (h : o + ys.length ≤ cur.length) : (putX cur o ys).length = cur.length := by
  unfold putX; rw [List.length_append, List.length_append, List.length_take, List.length_drop]; omega
theorem T0 {cur : List Value} {o n : Nat} {ys : List Value} (h : o + ys.length ≤ cur.length) (hn : n = o + ys.length) : (putX cur o ys).take n = cur.take o ++ ys := by
  unfold putX
  have hl : (cur.take o ++ ys).length = n := by rw [List.length_append, List.length_take]; omega
  rw [List.take_append_of_le_length (by omega), List.take_of_length_le (by omega)]
theorem Rx.set (h : Rx e w g cap cur) {cur' : List Value} (hl : cur'.length = cur.length) : Rx e (w.setRow g cur'.toArray) g cap cur' ∧ Ch (fun c => c = g) w (w.setRow g cur'.toArray) :=
  ⟨⟨setRow_heap w g cur.toArray _ e (0, 0) h.1, by rw [hl]; exact h.2.1, h.2.2⟩, ⟨rfl, rfl, rfl, by rw [setRow_size]; exact Nat.le_refl _, fun c _ hc => setRow_other w g c _ hc⟩⟩
theorem SlK.srcX {k m : Nat} {x : Value} {ys : List Value} (hs : SlK k w x m ys) : ∃ a c, x = .slice a m c ∧ ys.length = m * k ∧ ((a = none ∧ m = 0) ∨ ∃ ad, a = some ad ∧ ∀ j u, ys[j]? = some u → w.cell? (ad.add j) = some u) := by
  obtain ⟨hyl, a, c, rfl, hlc, hcm, hcells⟩ := hs
  refine ⟨a, c, rfl, hyl, ?_⟩
  rcases hcells with rfl | ⟨b, o, rfl, hc⟩
  · cases a with
    | none => exact .inl ⟨rfl, rfl⟩
    | some ad =>
      refine .inr ⟨ad, rfl, fun j u hu => ?_⟩
      have : ys = [] := List.length_eq_zero_iff.1 (by omega)
      rw [this] at hu; simp at hu
  · refine .inr ⟨_, rfl, fun j u hu => ?_⟩
    have hj : j < ys.length := (List.getElem?_eq_some_iff.1 hu).1
    rw [bE, hc j (by omega), hu]
theorem XJ {t ty : TypeId} {i m bytes : Nat} {x z : Value} {ys : List Value} {K : Value → World → Prop} (ht : P.underlying t = some (.slice e)) (hi : (P.info? e).map (fun i => (i.zero, i.size, i.bytes)) = some (some z, 2, bytes))
    (hR : Rx e w g cap cur) (hs : SlK 2 w x m ys) (hy : ∀ u ∈ ys, aC u = true) (hroom : i + m ≤ cap)
    (h : ∀ w', Rx e w' g cap (putX cur (i * 2) ys) → Ch (fun c => c = g) w w' → K (.slice (some ⟨g, 0, none⟩) (i + m) cap) w') :
    xOp P (Builtin.append_ #[t, t] ty #[.slice (some ⟨g, 0, none⟩) i cap, x]) w K := by
  obtain ⟨inf, hi, h3⟩ := Option.map_eq_some_iff.1 hi
  simp only [Prod.mk.injEq] at h3
  obtain ⟨-, hsz, -⟩ := h3
  obtain ⟨a, c, rfl, hyl, ⟨rfl, rfl⟩ | ⟨ad, rfl, hsrc⟩⟩ := hs.srcX
  · have : ys = [] := List.length_eq_zero_iff.1 (by omega)
    subst this
    refine ⟨_, w, ?_, h w (by simpa [putX] using hR) ⟨rfl, rfl, rfl, Nat.le_refl _, fun _ _ _ => rfl⟩⟩
    have : i ≤ cap := by omega
    simp [Builtin.append_, run_underlying ht, sizeOf, typeInfo, hi, Builtin.lenOf, Builtin.firstCells, this, storeCells]
  · have hl3 := hR.2.1
    have hr := run_append_room (P := P) w t ty e inf ht hi g i cap cur.toArray hR.1 ad m c ys (by rw [hsz]; exact hyl) hsrc (fun u hu => dU (hy u hu)) hroom (by simp [hsz]; omega)
    rw [hsz] at hr
    obtain ⟨h1, h2⟩ := hR.set (cur' := putX cur (i * 2) ys) (VF (by omega))
    exact ⟨_, _, hr, h _ h1 h2⟩
end
/-! ### Parts of slices of elements of two cells -/
theorem iHX {g o n c k : Nat} {ki : IntKind} {K : Value → Prop} (hk : k ≤ c) (h : K (.slice (some ⟨g, o, none⟩) k c)) : xSl 2 (.slice (some ⟨g, o, none⟩) n c) none (some (.int ki (k : Int))) K := by
  refine ⟨_, _, _, 0, k, rfl, ⟨ki, rfl⟩, rfl, Nat.zero_le _, hk, ?_⟩
  have e : (if c = 0 then some (⟨g, o, none⟩ : Addr) else (some (⟨g, o, none⟩ : Addr)).map (·.add (0 * 2))) = some ⟨g, o, none⟩ := by
    split
    · rfl
    · rw [Option.map_some, bE, Nat.zero_mul, Nat.add_zero]
  rw [e, Nat.sub_zero, Nat.sub_zero]
  exact h
/-! ### Rows of a count and a slice -/
section
variable {P : Program} {w : World}
theorem iStFX {lo : Nat} {e : TypeId} {w : World} {v x : Value} {n : Nat} {xs : List Value} {z : Int} {j f : Nat} {k : IntKind} {K : World → Prop} (hs : OwK 2 lo e w v n xs) (hz : z = (j : Int)) (hj : j < n) (hf : f < 2) (hx : aC x = true)
    (h : ∀ w', OwK 2 lo e w' v n (xs.set (j * 2 + f) x) → Ch (fun c => v.ownBlock = some c) w w' → K w') : xIa 2 v (.int k z) fun p => xFa f p fun q => xSt w q x K := by
  subst hz
  obtain ⟨hl, ⟨-, h0⟩ | ⟨g, cap, cur, hv, hg, hh, h1, h2, h3, h4⟩⟩ := hs
  · omega
  · subst hv
    have hs : w.ownsRow lo e 2 (.slice (some ⟨g, 0, none⟩) n cap) n xs := ⟨hl, .inr ⟨g, cap, cur, rfl, hg, hh, h1, h2, h3, h4⟩⟩
    refine ⟨_, _, _, _, _, rfl, rfl, by omega, by omega, ?_⟩
    rw [Int.toNat_natCast, bE]
    refine ⟨_, rfl, ?_⟩
    rw [bE, Nat.zero_add]
    have hjf : j * 2 + f < xs.length := by omega
    refine iSt ((hs.cellAt (j * 2 + f) (by omega)).trans (List.getElem?_eq_getElem hjf)) (hs.frozenAt _) hx ?_
    exact h _ (hs.stored (j * 2 + f) x).1 ((Upd.setCell w g _ x).ch rfl)
theorem iTY {k n i : Nat} {ki : IntKind} {w : World} {v : Value} {xs : List Value} {z : Int} {K : Value → Prop} (hs : SlK k w v n xs) (hz : z = (i : Int)) (hi : i ≤ n) (h : ∀ v', SlK k w v' (n - i) (xs.drop (i * k)) → K v') : xSl k v (some (.int ki z)) none K := by
  subst hz
  obtain ⟨h0, a, c, rfl, h2, h3, h4⟩ := hs
  have hle : i * k ≤ n * k := Nat.mul_le_mul_right _ hi
  have hsub : (n - i) * k = n * k - i * k := Nat.sub_mul ..
  refine ⟨_, _, _, i, n, rfl, rfl, ⟨ki, rfl⟩, hi, h2, ?_⟩
  refine h _ ⟨by rw [List.length_drop]; omega, _, _, rfl, by omega, by omega, ?_⟩
  rcases Nat.eq_zero_or_pos (n - i) with hz | hz
  · exact .inl hz
  · rcases h4 with h4 | ⟨b, o, rfl, hc⟩
    · omega
    · refine .inr ⟨b, o + i * k, ?_, fun j hj => ?_⟩
      · rw [if_neg (by omega), Option.map_some, bE]
      · rw [Nat.add_assoc, hc _ (by omega), List.getElem?_drop]
end
end Go.Vc

namespace Go.Vc
abbrev RawW (lo : Nat) (e : TypeId) (w : World) (v : Value) (N : List RN) : Prop := OwK 2 lo e w v N.length (a8 N)
theorem OwK.ne_src {k lo n : Nat} {e e' : TypeId} {w0 w : World} {vc v : Value} {b : Nat} {xs : List Value} (h : OwK k lo e' w v n xs) (hS : Vc.Src e w0 vc b w) (hne : e' ≠ e) : v.ownBlock ≠ some b := by
  intro hc
  obtain ⟨cur, h1⟩ := h.ty hc
  obtain ⟨_, _, _, _, h3, _⟩ := hS
  unfold Blk at h3
  rw [h1] at h3
  injection h3 with h3
  injection h3 with _ he _
  exact hne he
theorem OwK.src {k lo n : Nat} {e e' : TypeId} {w0 w w' : World} {vc v : Value} {b : Nat} {xs : List Value} (h : OwK k lo e' w v n xs) (hS : Vc.Src e w0 vc b w) (hne : e' ≠ e) (hch : Ch (fun c => c = b) w w') : OwK k lo e' w' v n xs :=
  h.ch hch fun c hc hb => h.ne_src hS hne (by rw [hc, hb])
def preF (y : Nat) (a : Fm) : Fm := if y = 0 then .box a else .dia a
theorem TK {y : Nat} (hy : y < 2) (a : Fm) : (preF y a).cells = nd (5 + y) 0 ++ a.cells := by
  have : y = 0 ∨ y = 1 := by omega
  rcases this with rfl | rfl <;> rfl
theorem EA (y : Nat) (a : Fm) : (preF y a).size = 1 + a.size := by unfold preF; split <;> rfl
theorem TN (y : Nat) {a : Fm} (h : a.good) : (preF y a).good := by unfold preF; split <;> exact h
def binF (z : Nat) (a b : Fm) : Fm := if z = 0 then .and a b else if z = 1 then .or a b else .imp a b
theorem LJ {z : Nat} (hz : z < 3) (a b : Fm) : (binF z a b).cells = nd (2 + z) 0 ++ a.cells ++ b.cells := by
  have : z = 0 ∨ z = 1 ∨ z = 2 := by omega
  rcases this with rfl | rfl | rfl <;> rfl
theorem mV (z : Nat) (a b : Fm) : (binF z a b).size = 1 + a.size + b.size := by unfold binF; split; rfl; split <;> rfl
theorem N7 (z : Nat) {a b : Fm} (h : a.good) (k : b.good) : (binF z a b).good := by unfold binF; split; exact ⟨h, k⟩; split <;> exact ⟨h, k⟩
theorem RM (N : List RN) (k : Nat) (hk : k < N.length) (x : Int) : (a8 N).set (k * 2 + 0) (.int .i64 x) = a8 (N.set k (x, N[k].2)) := by
  induction N generalizing k with
  | nil => simp at hk
  | cons q N ih =>
    cases k with
    | zero => rfl
    | succ k =>
      have ih := ih k (by simpa using hk)
      show (Value.int .i64 q.1 :: Value.int .i64 q.2 :: a8 N).set ((k + 1) * 2 + 0) _ = Value.int .i64 q.1 :: Value.int .i64 q.2 :: a8 (N.set k _)
      rw [Nat.add_zero] at ih
      rw [show (k + 1) * 2 + 0 = k * 2 + 1 + 1 by omega, List.set_cons_succ, List.set_cons_succ, ih]
      rfl
theorem RR (N : List RN) (k : Nat) (hk : k < N.length) (x : Int) : (a8 N).set (k * 2 + 1) (.int .i64 x) = a8 (N.set k (N[k].1, x)) := by
  induction N generalizing k with
  | nil => simp at hk
  | cons q N ih =>
    cases k with
    | zero => rfl
    | succ k =>
      have ih := ih k (by simpa using hk)
      show (Value.int .i64 q.1 :: Value.int .i64 q.2 :: a8 N).set ((k + 1) * 2 + 1) _ = Value.int .i64 q.1 :: Value.int .i64 q.2 :: a8 (N.set k _)
      rw [show (k + 1) * 2 + 1 = (k * 2 + 1) + 1 + 1 by omega, List.set_cons_succ, List.set_cons_succ, ih]
      rfl
theorem G0 (N : List RN) (k : Nat) : (a8 N).take (k * 2) = a8 (N.take k) := by
  induction N generalizing k with
  | nil => simp [a8]
  | cons q N ih =>
    cases k with
    | zero => simp [a8]
    | succ k =>
      rw [cY, List.take_succ_cons, cY, ← ih k, show (k + 1) * 2 = (rcell q).length + k * 2 by show _ = 2 + k * 2; omega, List.take_length_add_append]
theorem Q7 (N : List RN) (k : Nat) : (a8 N).drop (k * 2) = a8 (N.drop k) := by
  induction N generalizing k with
  | nil => simp [a8]
  | cons q N ih =>
    cases k with
    | zero => simp
    | succ k =>
      rw [cY, List.drop_succ_cons, ← ih k, show (k + 1) * 2 = (rcell q).length + k * 2 by show _ = 2 + k * 2; omega, List.drop_length_add_append]
theorem GZ (N : List RN) : ∀ u ∈ a8 N, aC u = true := fun u hu => by
  obtain ⟨q, _, hq⟩ := List.mem_flatMap.1 hu
  simp only [rcell, List.mem_cons, List.not_mem_nil, or_false] at hq
  rcases hq with rfl | rfl <;> rfl
theorem iBs5D {w : World} {e : TypeId} {a b c d f : Int} {K : Value → World → Prop} (h : ∀ bb w', bb = w.heap.size ∧ w'.heap.size = bb + 1 → Ext w w' → Blk e w' bb (ints [a, b, c, d, f]) → K (.slice (some ⟨bb, 0, none⟩) 5 5) w') :
    xBs e (Value.cells (.int .i64 0)) 1 5 [(0, .int .i64 a), (1, .int .i64 b), (2, .int .i64 c), (3, .int .i64 d), (4, .int .i64 f)] w K := by
  refine ⟨#[.int .i64 a, .int .i64 b, .int .i64 c, .int .i64 d, .int .i64 f], ?_, h _ _ ⟨rfl, by simp⟩ (Ext.alloc w _) (Blk.new w #[.int .i64 a, .int .i64 b, .int .i64 c, .int .i64 d, .int .i64 f] e)⟩
  simp [Instr.fill, Value.cells, show Array.range 5 = #[0, 1, 2, 3, 4] from rfl]
end Go.Vc
namespace Go.Proofs.YtcfnoofghbmiiaaGreatDoor
open Go.Vc
theorem m6 {e : TypeId} (hneN : aF ≠ e) {w0 : World} {vc : Value} {bs : List Nat} (hc : SlB w0 vc bs) {b k : Nat} (hk : 1 ≤ k ∧ k ≤ 6) (m : Bool) : ∀ (n : Nat) {w : World}, Vc.Src e w0 vc b w → 1 ≤ n → n ≤ 1000 →
    Drw Tryz.prog AE #[.pointer (some ⟨b, 0, none⟩), .int .i64 (n : Int), .int .i64 (k : Int), .bool m] e w0 vc b w fun r w' => ∃ f : Fm, f.good ∧ f.size ≤ n ∧ FmW w.heap.size w' r f := by
  intro n
  induction n using Nat.strongRecOn with
  | _ n ih =>
  intro w hS hn1 hn2
  apply LS; unfold y5
  refine iJnX (fun xs w' => (∃ t, xs = [.bool t] ∧ (t = false → 3 ≤ n)) ∧ Vc.Src e w0 vc b w' ∧ Ch (fun c => c = b) w w') (fun J hJ => ?_) ?_
  · refine iLe (iCndP (fun h => ?_) (fun h => ?_))
    · exact hJ _ _ ⟨⟨true, rfl, fun h => by cases h⟩, hS, (Ext.refl w).ch⟩
    · refine iCall ((aD hc hS 9).mono ?_)
      rintro _ w3 ⟨⟨x, rfl, _, _⟩, hS3, hch3⟩
      refine iEq ?_
      exact hJ _ _ ⟨⟨_, rfl, fun _ => by omega⟩, hS3, hch3⟩
  rintro _ w2 ⟨⟨t, rfl, ht⟩, hS2, hC2⟩
  intro _
  cases t with
  | true =>
    refine iCndT rfl ?_
    refine iCall ((aD hc hS2 8).mono ?_)
    rintro _ w4 ⟨⟨x, rfl, _, _⟩, hS4, hch4⟩
    have hC4 := aB hC2 hch4
    refine iEq (iCndP (fun _ => ?_) (fun _ => ?_))
    · refine iCall ((dL w4).mono ?_)
      rintro u w5 ⟨x5, h5⟩
      exact ⟨⟨.fls, trivial, hn1, OwK.mono h5 hC4.size⟩, hS4.later x5, aO hC4 x5⟩
    · refine iCall ((aD hc hS4 k).mono ?_)
      rintro _ w6 ⟨⟨y, rfl, hy, _⟩, hS6, hch6⟩
      have hy := hy (by omega)
      refine iCall ((pC y w6).mono ?_)
      rintro u w7 ⟨x7, h7⟩
      have hC6 := aB hC4 hch6
      exact ⟨⟨.var y, show y < 6 by omega, hn1, OwK.mono h7 hC6.size⟩, hS6.later x7, aO hC6 x7⟩
  | false =>
    refine iCndF rfl ?_
    have h3 := ht rfl
    refine iJnX (fun xs w' => (∃ t, xs = [.bool t]) ∧ Vc.Src e w0 vc b w' ∧ Ch (fun c => c = b) w w') (fun J hJ => ?_) ?_
    · cases m with
      | true =>
        refine iCndT rfl ?_
        refine iCall ((aD hc hS2 3).mono ?_)
        rintro _ w10 ⟨⟨x, rfl, _, _⟩, hS10, hch10⟩
        refine iEq ?_
        exact hJ _ _ ⟨⟨_, rfl⟩, hS10, aB hC2 hch10⟩
      | false => exact iCndF rfl (hJ _ _ ⟨⟨_, rfl⟩, hS2, hC2⟩)
    rintro _ w9 ⟨⟨t, rfl⟩, hS9, hC9⟩
    intro _
    cases t with
    | true =>
      refine iCndT rfl ?_
      refine iCall ((aD hc hS9 2).mono ?_)
      rintro _ w11 ⟨⟨y, rfl, hy, _⟩, hS11, hch11⟩
      have hy := hy (by omega)
      have hC11 := aB hC9 hch11
      refine iAdd (by omega) (iSub (by omega) ?_)
      rw [show (5 : Int) + (y : Int) = ((5 + y : Nat) : Int) by omega, show (n : Int) - 1 = ((n - 1 : Nat) : Int) by omega]
      refine iCall ((ih (n - 1) (by omega) hS11 (by omega) (by omega)).mono ?_)
      rintro u w12 ⟨⟨a, ga, sa, ha⟩, hS12, hch12⟩
      have hC12 := aB hC11 hch12
      refine iCall ((pH (c := preF y a) (TK (by omega) a) (EA y a) ha.sl (by rw [EA]; omega)).mono ?_)
      rintro r w13 ⟨x13, hr⟩
      exact ⟨⟨preF y a, TN y ga, by rw [EA]; omega, OwK.mono hr hC12.size⟩, hS12.later x13, aO hC12 x13⟩
    | false =>
      refine iCndF rfl ?_
      refine iCall ((aD hc hS9 6).mono ?_)
      rintro _ w14 ⟨⟨y, rfl, _, _⟩, hS14, hch14⟩
      have hC14 := aB hC9 hch14
      refine iEq (iCndP (fun _ => ?_) (fun _ => ?_))
      · refine iSub (by omega) ?_
        rw [show (n : Int) - 2 = ((n - 2 : Nat) : Int) by omega]
        refine iCall ((ih (n - 2) (by omega) hS14 (by omega) (by omega)).mono ?_)
        rintro u w15 ⟨⟨a, ga, sa, ha⟩, hS15, hch15⟩
        have hC15 := aB hC14 hch15
        refine iCall ((pD ha.sl (by omega)).mono ?_)
        rintro r w16 ⟨x16, hr⟩
        exact ⟨⟨.imp a .fls, ⟨ga, trivial⟩, by show 1 + a.size + 1 ≤ n; omega, OwK.mono hr hC15.size⟩, hS15.later x16, aO hC15 x16⟩
      · refine iSub (by omega) ?_
        refine iCall ((aD hc hS14 _).mono ?_)
        rintro _ w17 ⟨⟨z, rfl, hz, _⟩, hS17, hch17⟩
        have hz := hz (by omega)
        have hC17 := aB hC14 hch17
        refine iAdd (by omega) ?_
        rw [show (1 : Int) + (z : Int) = ((1 + z : Nat) : Int) by omega]
        refine iCall ((ih (1 + z) (by omega) hS17 (by omega) (by omega)).mono ?_)
        rintro u w18 ⟨⟨a, ga, sa, ha⟩, hS18, hch18⟩
        have hC18 := aB hC17 hch18
        refine iCall ((aD hc hS18 3).mono ?_)
        rintro _ w19 ⟨⟨q, rfl, hq, _⟩, hS19, hch19⟩
        have hq := hq (by omega)
        have hC19 := aB hC18 hch19
        have ha19 := OwK.src ha hS18 hneN hch19
        refine iAdd (by omega) (iSub (by omega) (iSub (by omega) ?_))
        rw [show (2 : Int) + (q : Int) = ((2 + q : Nat) : Int) by omega, show (n : Int) - 1 - ((1 + z : Nat) : Int) = ((n - 1 - (1 + z) : Nat) : Int) by omega]
        refine iCall ((ih (n - 1 - (1 + z)) (by omega) hS19 (by omega) (by omega)).mono ?_)
        rintro u2 w20 ⟨⟨a2, ga2, sa2, ha2⟩, hS20, hch20⟩
        have hC20 := aB hC19 hch20
        have ha20 := OwK.src ha19 hS19 hneN hch20
        refine iCall ((bK (c := binF q a a2) (LJ (by omega) a a2) (mV q a a2) ha20.sl ha2.sl (by rw [mV]; omega)).mono ?_)
        rintro r w21 ⟨x21, hr⟩
        exact ⟨⟨binF q a a2, N7 q ga ga2, by rw [mV]; omega, OwK.mono hr hC20.size⟩, hS20.later x21, aO hC20 x21⟩
theorem J0 {va : Value} {w : World} {N : List RN} (ha : RawS w va N) (hsz : N.length ≤ 1000000) : Cal Tryz.prog CL #[va] w fun r w' => Ext w w' ∧ RawW w.heap.size aF w' r N := by
  apply OV; unfold CN
  refine iBsA0 fun u w1 _ x1 ho => ?_
  refine iAppK eG eA rfl (by omega) ho (SlK.ext ha x1) (GZ N) (by omega) (by omega) x1.size fun v2 w2 ho2 hg2 _ => ?_
  refine ⟨x1.grown hg2 fun c hc => (ho.blk c hc).1, ?_⟩
  show OwK 2 _ _ w2 v2 _ _
  rw [Nat.zero_add, List.nil_append] at ho2
  exact ho2
theorem JZ {e : TypeId} (hneN : aF ≠ e) {w0 : World} {vc : Value} {bs : List Nat} (hc : SlB w0 vc bs) {b : Nat} {w : World} (hS : Vc.Src e w0 vc b w) {va : Value} {N : List RN} (ha : RawS w va N) (hN : 1 ≤ N.length ∧ N.length ≤ 1000) :
    Drw Tryz.prog A1 #[.pointer (some ⟨b, 0, none⟩), va] e w0 vc b w fun r w' => ∃ M : List RN, M.length ≤ N.length + 1 ∧ RawW w.heap.size aF w' r M := by
  apply MR; unfold yM
  have hlow := hS.ext.size
  refine iCall ((J0 ha (by omega)).mono ?_)
  rintro v w1 ⟨x1, ho1⟩
  have hS1 := hS.later x1
  have hC1 : Ch (fun c => c = b) w w1 := x1.ch (S := fun c => c = b)
  refine iLenK ho1.sl ?_
  refine iCall ((aD hc hS1 _).mono ?_)
  rintro _ w2 ⟨⟨k, rfl, hk, _⟩, hS2, hch2⟩
  have hk := hk (by omega)
  have hkN : k < N.length := by omega
  have ho2 := OwK.src ho1 hS1 hneN hch2
  have hC2 := aB hC1 hch2
  refine iCall ((aD hc hS2 5).mono ?_)
  rintro _ w3 ⟨⟨x, rfl, _, _⟩, hS3, hch3⟩
  have ho3 := OwK.src ho2 hS2 hneN hch3
  have hC3 := aB hC2 hch3
  have turn : ∀ {w' w'' : World} {xs : List Value}, OwK 2 w.heap.size aF w' v N.length xs → Vc.Src e w0 vc b w' → Ch (fun c => c = b) w w' → Ch (fun c => v.ownBlock = some c) w' w'' → Vc.Src e w0 vc b w'' ∧ Ch (fun c => c = b) w w'' := fun ho gS gC k =>
    ⟨gS.ch k (fun h => ho.ne_src gS hneN h) fun c hc => by have := (ho.blk c hc).1; omega, gC.trans k fun c hc => .inr (ho.blk c hc).1⟩
  refine iEq (iCndP (fun _ => ?_) (fun _ => ?_))
  · refine iCall ((aD hc hS3 9).mono ?_)
    rintro _ w4 ⟨⟨y, rfl, hy, _⟩, hS4, hch4⟩
    have hy := hy (by omega)
    have ho4 := OwK.src ho3 hS3 hneN hch4
    have hC4 := aB hC3 hch4
    refine iSub (by omega) ?_
    refine iStFX (f := 0) ho4 rfl hkN (by decide) rfl fun w5 ho5 hch5 => ?_
    rw [RM N k hkN] at ho5
    obtain ⟨gS, gC⟩ := turn ho4 hS4 hC4 hch5
    exact ⟨⟨N.set k (_, N[k].2), by rw [List.length_set]; omega, by show OwK 2 _ _ _ _ (N.set k _).length _; rw [List.length_set]; exact ho5⟩, gS, gC⟩
  refine iEq (iCndP (fun _ => ?_) (fun _ => ?_))
  · refine iBs5D fun q w6 hq x6 hB => ?_
    have hS6 := hS3.later x6
    refine iCall ((KX hc hS6 (l := [-1, 0, 1, 5, 6]) rfl hB (by have := hS3.lt; omega) (by decide) (by decide)).mono ?_)
    rintro _ w7 ⟨⟨y, rfl, _⟩, hS7, hch7⟩
    have ho7 := OwK.src (ho3.ext x6) hS6 hneN hch7
    have hC7 := aB (aO hC3 x6) hch7
    refine iStFX (f := 1) ho7 rfl hkN (by decide) rfl fun w8 ho8 hch8 => ?_
    rw [RR N k hkN] at ho8
    obtain ⟨gS, gC⟩ := turn ho7 hS7 hC7 hch8
    exact ⟨⟨N.set k (N[k].1, _), by rw [List.length_set]; omega, by show OwK 2 _ _ _ _ (N.set k _).length _; rw [List.length_set]; exact ho8⟩, gS, gC⟩
  refine iEq (iCndP (fun _ => ?_) (fun _ => ?_))
  · refine iCall ((aD hc hS3 7).mono ?_)
    rintro _ w9 ⟨⟨y, rfl, _, _⟩, hS9, hch9⟩
    have ho9 := OwK.src ho3 hS3 hneN hch9
    have hC9 := aB hC3 hch9
    refine AX rfl ?_
    refine iBsA fun q w10 hq x10 hB => ?_
    have ho10 := ho9.ext x10
    have hC10 := aO hC9 x10
    refine iAppK eG eA rfl (by omega) ho10 (fJ hq hB).sl (fun u hu => ?_) (by omega) (by omega) hC10.size fun v11 w11 ho11 hg11 _ => ?_
    · simp only [List.mem_cons, List.not_mem_nil, or_false] at hu
      rcases hu with rfl | rfl <;> rfl
    obtain ⟨gS, gC⟩ := turn ho10 (hS9.later x10) hC10 (dJ (S := fun c => v.ownBlock = some c) hg11 fun c hc => hc)
    refine ⟨⟨N ++ [((y : Int), 0)], by simp, ?_⟩, gS, gC⟩
    show OwK 2 _ _ _ _ (N ++ [_]).length _
    rw [List.length_append, nD]
    exact ho11
  have hpos : 0 < N.length := by omega
  refine iEq (iCndP (fun _ => ?_) (fun _ => ?_))
  · obtain ⟨g, cap, cur, rfl, hg, hcap, hR, hcur⟩ := ho3.rx hpos
    refine iHX (by omega) ?_
    refine ⟨⟨N.take k, by rw [List.length_take]; omega, ?_⟩, hS3, hC3⟩
    have hlt : (N.take k).length = k := by rw [List.length_take]; omega
    show OwK 2 _ _ _ _ (N.take k).length _
    rw [hlt]
    refine hR.own hg (by omega) ?_
    rw [← G0, ← hcur, List.take_take, Nat.min_eq_left (by omega)]
  refine iEq (iCndP (fun _ => ?_) (fun _ => ?_))
  · obtain ⟨g, cap, cur, rfl, hg, hcap, hR, hcur⟩ := ho3.rx hpos
    refine iHX (by omega) ?_
    refine iAdd (by omega) ?_
    have hsl := ho3.sl
    refine iTY (i := k + 1) hsl (by omega) (by omega) fun v' hv' => ?_
    rw [Q7] at hv'
    intro w12 x12
    refine XJ (i := k) (m := N.length - (k + 1)) eG eA (hR.ext x12) (hv'.ext x12) (GZ _) (by omega) fun w13 hR13 hch13 => ?_
    intro w14 x14
    have hR14 := hR13.ext x14
    have ho12 := ho3.ext x12
    obtain ⟨gS, gC⟩ := turn ho12 (hS3.later x12) (aO hC3 x12) (w'' := w13) (hch13.mono fun c hc => by rw [hc]; rfl)
    have hld : (N.drop (k + 1)).length = N.length - (k + 1) := List.length_drop
    have hlt : (N.take k ++ N.drop (k + 1)).length = k + (N.length - (k + 1)) := by rw [List.length_append, List.length_take, hld]; omega
    refine ⟨⟨N.take k ++ N.drop (k + 1), by rw [hlt]; omega, ?_⟩, gS.later x14, aO gC x14⟩
    show OwK 2 _ _ _ _ (N.take k ++ N.drop (k + 1)).length _
    rw [hlt]
    refine hR14.own hg (by omega) ?_
    have hcl := hR.2.1
    have hdl : (a8 (N.drop (k + 1))).length = (N.length - (k + 1)) * 2 := by rw [SZ, hld]
    rw [T0 (by rw [hdl]; omega) (by rw [hdl]; omega), nD, ← G0, ← hcur, List.take_take, Nat.min_eq_left (by omega)]
  · exact ⟨⟨N, by omega, ho3⟩, hS3, hC3⟩
end Go.Proofs.YtcfnoofghbmiiaaGreatDoor

namespace Go.Vc
theorem fl0 : fl 0 = 4 := rfl
theorem fl1 : fl 1 = 3 := rfl
theorem fl2 : fl 2 = 2 := rfl
theorem fl3 : fl 3 = 1 := rfl
theorem FG : ∀ v, v < 6 → (vl v).toNat = 112 + v
  | 0, _ => rfl
  | 1, _ => rfl
  | 2, _ => rfl
  | 3, _ => rfl
  | 4, _ => rfl
  | 5, _ => rfl
  | v + 6, h => by omega
theorem UO {v u : Nat} (hv : v < 6) (hu : u < 6) (h : vl v = vl u) : v = u := by
  have := congrArg UInt8.toNat h
  rw [FG v hv, FG u hu] at this; omega
theorem eO {v : Nat} (hv : v < 6) {d : UInt8} (h : d.toNat < 112 ∨ 117 < d.toNat) : vl v ≠ d := by
  rintro rfl
  rw [FG v hv] at h; omega
abbrev ReadQ (e : TypeId) (b : Nat) (t : Str) (nodeT : TypeId) (r : Fm × RSt) (w : World) (v : Value) (w' : World) : Prop := RdS e b t r.2 w' ∧ Ch (fun x => x = b) w w' ∧ OwK 2 w.heap.size nodeT w' v r.1.size r.1.cells
theorem f4 {e : TypeId} {b : Nat} {t : Str} {s : RSt} {w w1 : World} {lo : Nat} {e' : TypeId} {v : Value} {n : Nat} {xs : List Value} (h : RdS e b t s w) (ho : OwK 2 lo e' w1 v n xs) (hlo : w.heap.size ≤ lo) : ∀ c, v.ownBlock = some c → ¬ c = b := fun c hc hb => by
  have := (ho.blk c hc).1; have := h.lt; omega
end Go.Vc
namespace Go.Proofs.YtcfnoofghbmiiaaGreatDoor
open Go.Vc
def Rds (f : FuncId) (lv m : Nat) : Prop := ∀ (e : TypeId) (b : Nat) (t : Str) (s : RSt) (w : World), t.length ≤ 4194304 → RdS e b t s w → 8 * s.1.length + fl lv ≤ m → Cal Tryz.prog f #[.pointer (some ⟨b, 0, none⟩)] w (ReadQ e b t aF (rdL lv .fls s) w)
theorem BE {m : Nat} (hor : Rds iI 1 m) (him : Rds b7 0 m) : Rds b7 0 (m + 1) := by
  intro e b t s w ht h hm
  rw [fl0] at hm
  apply DH; unfold oL
  refine iCall ((hor e b t s w ht h (by rw [fl1]; omega)).mono ?_)
  rintro v w1 ⟨h1, hc1, ho1⟩
  have hlen := gT 1 .fls s
  have hz := bR 1 .fls s
  have htl := h.len
  rw [rdL0]
  refine iCall ((aW 62 (by decide) (by omega) h1).mono ?_)
  rintro _ w2 ⟨rfl, h2, hc2⟩
  have ho2 := ho1.ch hc2 (f4 h ho1 (Nat.le_refl _))
  cases hk : tk 62 (rdL 1 .fls s).2
  · rw [hk, if_neg (by decide)] at h2
    exact iCndF rfl ⟨h2, aB hc1 hc2, ho2⟩
  · rw [hk, if_pos rfl] at h2
    have hnx := aZ hk
    rw [if_pos rfl]
    refine iCndT rfl ?_
    refine iCall ((him e b t _ w2 ht h2 (by rw [fl0]; omega)).mono ?_)
    rintro v3 w3 ⟨h3, hc3, ho3⟩
    have hz3 := bR 0 .fls (nx (rdL 1 .fls s).2)
    have hf : Fm.fls.size = 1 := rfl
    have ho23 := ho2.ch hc3 (f4 h ho2 (Nat.le_refl _))
    have hsz : (Fm.imp (rdL 1 .fls s).1 (rdL 0 .fls (nx (rdL 1 .fls s).2)).1).size ≤ 1099511627776 := by
      show 1 + _ + _ ≤ _; omega
    refine iCall ((fD (c := .imp (rdL 1 .fls s).1 (rdL 0 .fls (nx (rdL 1 .fls s).2)).1) (k := 4) rfl rfl ho23.sl ho3.sl hsz).mono ?_)
    rintro v4 w4 ⟨h4, ho4⟩
    have hcc := aB hc1 (aB hc2 hc3)
    exact ⟨h3.ext h4, aO hcc h4, ho4.mono hcc.size⟩
theorem IW {m : Nat} (hor : Rds nU 1 m) (him : Rds eJ 0 m) : Rds eJ 0 (m + 1) := by
  intro e b t s w ht h hm
  rw [fl0] at hm
  apply JV; unfold wW
  refine iCall ((hor e b t s w ht h (by rw [fl1]; omega)).mono ?_)
  rintro v w1 ⟨h1, hc1, ho1⟩
  have hlen := gT 1 .fls s
  have hz := bR 1 .fls s
  have htl := h.len
  rw [rdL0]
  refine iCall ((bL 62 (by decide) (by omega) h1).mono ?_)
  rintro _ w2 ⟨rfl, h2, hc2⟩
  have ho2 := ho1.ch hc2 (f4 h ho1 (Nat.le_refl _))
  cases hk : tk 62 (rdL 1 .fls s).2
  · rw [hk, if_neg (by decide)] at h2
    exact iCndF rfl ⟨h2, aB hc1 hc2, ho2⟩
  · rw [hk, if_pos rfl] at h2
    have hnx := aZ hk
    rw [if_pos rfl]
    refine iCndT rfl ?_
    refine iCall ((him e b t _ w2 ht h2 (by rw [fl0]; omega)).mono ?_)
    rintro v3 w3 ⟨h3, hc3, ho3⟩
    have hz3 := bR 0 .fls (nx (rdL 1 .fls s).2)
    have hf : Fm.fls.size = 1 := rfl
    have ho23 := ho2.ch hc3 (f4 h ho2 (Nat.le_refl _))
    have hsz : (Fm.imp (rdL 1 .fls s).1 (rdL 0 .fls (nx (rdL 1 .fls s).2)).1).size ≤ 1099511627776 := by
      show 1 + _ + _ ≤ _; omega
    refine iCall ((bK (c := .imp (rdL 1 .fls s).1 (rdL 0 .fls (nx (rdL 1 .fls s).2)).1) (k := 4) rfl rfl ho23.sl ho3.sl hsz).mono ?_)
    rintro v4 w4 ⟨h4, ho4⟩
    have hcc := aB hc1 (aB hc2 hc3)
    exact ⟨h3.ext h4, aO hcc h4, ho4.mono hcc.size⟩
theorem F7 {m : Nat} (hsub : Rds gP 2 m) : Rds iI 1 (m + 1) := by
  intro e b t s w ht h hm
  rw [fl1] at hm
  apply IM; unfold sN
  refine iCall ((hsub e b t s w ht h (by rw [fl2]; omega)).mono ?_)
  rintro v w1 ⟨h1, hc1, ho1⟩
  have hlen := gT 2 .fls s
  have hz := bR 2 .fls s
  have htl := h.len
  have hf : Fm.fls.size = 1 := rfl
  rw [rdL1]
  refine iLp (fun q : Value × Fm × RSt => [q.1]) (fun q w' => RdS e b t q.2.2 w' ∧ Ch (fun x => x = b) w w' ∧ OwK 2 w.heap.size aF w' q.1 q.2.1.size q.2.1.cells ∧ rdL 4 q.2.1 q.2.2 = rdL 4 (rdL 2 .fls s).1 (rdL 2 .fls s).2 ∧ q.2.2.1.length ≤ s.1.length ∧ q.2.1.size + 3 * q.2.2.1.length ≤ 1 + 3 * s.1.length) (fun q => q.2.2.1.length) (v, rdL 2 .fls s) rfl
    ⟨h1, hc1, ho1, rfl, hlen, by show (rdL 2 .fls s).1.size + 3 * (rdL 2 .fls s).2.1.length ≤ _; omega⟩ ?_
  rintro ⟨v, a, q⟩ w3 Kn ⟨h3, hc3, ho3, hq, hql, hqs⟩ hKn
  have h3 : RdS e b t q w3 := h3
  have ho3 : OwK 2 w.heap.size aF w3 v a.size a.cells := ho3
  have hq : rdL 4 a q = _ := hq
  have hql : q.1.length ≤ s.1.length := hql
  have hqs : a.size + 3 * q.1.length ≤ 1 + 3 * s.1.length := hqs
  intro _
  refine iCall ((aW 124 (by decide) (by omega) h3).mono ?_)
  rintro _ w4 ⟨rfl, h4, hc4⟩
  have ho4 := ho3.ch hc4 (f4 h ho3 (Nat.le_refl _))
  rw [← hq, rdL4]
  cases hk : tk 124 q
  · rw [hk, if_neg (by decide)] at h4
    rw [if_neg (by decide)]
    exact iCndF rfl ⟨h4, aB hc3 hc4, ho4⟩
  · rw [hk, if_pos rfl] at h4
    have hnx := aZ hk
    rw [if_pos rfl]
    refine iCndT rfl ?_
    refine iCall ((hsub e b t _ w4 ht h4 (by rw [fl2]; omega)).mono ?_)
    rintro v5 w5 ⟨h5, hc5, ho5⟩
    have hz5 := bR 2 .fls (nx q)
    have hl5 := gT 2 .fls (nx q)
    have ho45 := ho4.ch hc5 (f4 h ho4 (Nat.le_refl _))
    have hsz : (Fm.or a (rdL 2 .fls (nx q)).1).size ≤ 1099511627776 := by
      show 1 + _ + _ ≤ _; omega
    refine iCall ((fD (c := .or a (rdL 2 .fls (nx q)).1) (k := 3) rfl rfl ho45.sl ho5.sl hsz).mono ?_)
    rintro v6 w6 ⟨h6, ho6⟩
    have hcc := aB hc3 (aB hc4 hc5)
    have e1 : rdL 4 (rdL 2 .fls s).1 (rdL 2 .fls s).2 = rdL 4 (.or a (rdL 2 .fls (nx q)).1) (rdL 2 .fls (nx q)).2 := by rw [← hq, rdL4, if_pos hk]
    refine hKn (v6, .or a (rdL 2 .fls (nx q)).1, (rdL 2 .fls (nx q)).2) _ ⟨h5.ext h6, aO hcc h6, ho6.mono hcc.size, e1.symm, by show (rdL 2 .fls (nx q)).2.1.length ≤ _; omega, ?_⟩ (by show (rdL 2 .fls (nx q)).2.1.length < q.1.length; omega)
    show 1 + a.size + (rdL 2 .fls (nx q)).1.size + 3 * (rdL 2 .fls (nx q)).2.1.length ≤ _
    omega
theorem FK {m : Nat} (hsub : Rds dB 3 m) : Rds gP 2 (m + 1) := by
  intro e b t s w ht h hm
  rw [fl2] at hm
  apply GM; unfold rB
  refine iCall ((hsub e b t s w ht h (by rw [fl3]; omega)).mono ?_)
  rintro v w1 ⟨h1, hc1, ho1⟩
  have hlen := gT 3 .fls s
  have hz := bR 3 .fls s
  have htl := h.len
  have hf : Fm.fls.size = 1 := rfl
  rw [rdL2]
  refine iLp (fun q : Value × Fm × RSt => [q.1]) (fun q w' => RdS e b t q.2.2 w' ∧ Ch (fun x => x = b) w w' ∧ OwK 2 w.heap.size aF w' q.1 q.2.1.size q.2.1.cells ∧ rdL 5 q.2.1 q.2.2 = rdL 5 (rdL 3 .fls s).1 (rdL 3 .fls s).2 ∧ q.2.2.1.length ≤ s.1.length ∧ q.2.1.size + 3 * q.2.2.1.length ≤ 1 + 3 * s.1.length) (fun q => q.2.2.1.length) (v, rdL 3 .fls s) rfl
    ⟨h1, hc1, ho1, rfl, hlen, by show (rdL 3 .fls s).1.size + 3 * (rdL 3 .fls s).2.1.length ≤ _; omega⟩ ?_
  rintro ⟨v, a, q⟩ w3 Kn ⟨h3, hc3, ho3, hq, hql, hqs⟩ hKn
  have h3 : RdS e b t q w3 := h3
  have ho3 : OwK 2 w.heap.size aF w3 v a.size a.cells := ho3
  have hq : rdL 5 a q = _ := hq
  have hql : q.1.length ≤ s.1.length := hql
  have hqs : a.size + 3 * q.1.length ≤ 1 + 3 * s.1.length := hqs
  intro _
  refine iCall ((aW 38 (by decide) (by omega) h3).mono ?_)
  rintro _ w4 ⟨rfl, h4, hc4⟩
  have ho4 := ho3.ch hc4 (f4 h ho3 (Nat.le_refl _))
  rw [← hq, rdL5]
  cases hk : tk 38 q
  · rw [hk, if_neg (by decide)] at h4
    rw [if_neg (by decide)]
    exact iCndF rfl ⟨h4, aB hc3 hc4, ho4⟩
  · rw [hk, if_pos rfl] at h4
    have hnx := aZ hk
    rw [if_pos rfl]
    refine iCndT rfl ?_
    refine iCall ((hsub e b t _ w4 ht h4 (by rw [fl3]; omega)).mono ?_)
    rintro v5 w5 ⟨h5, hc5, ho5⟩
    have hz5 := bR 3 .fls (nx q)
    have hl5 := gT 3 .fls (nx q)
    have ho45 := ho4.ch hc5 (f4 h ho4 (Nat.le_refl _))
    have hsz : (Fm.and a (rdL 3 .fls (nx q)).1).size ≤ 1099511627776 := by
      show 1 + _ + _ ≤ _; omega
    refine iCall ((fD (c := .and a (rdL 3 .fls (nx q)).1) (k := 2) rfl rfl ho45.sl ho5.sl hsz).mono ?_)
    rintro v6 w6 ⟨h6, ho6⟩
    have hcc := aB hc3 (aB hc4 hc5)
    have e1 : rdL 5 (rdL 3 .fls s).1 (rdL 3 .fls s).2 = rdL 5 (.and a (rdL 3 .fls (nx q)).1) (rdL 3 .fls (nx q)).2 := by rw [← hq, rdL5, if_pos hk]
    refine hKn (v6, .and a (rdL 3 .fls (nx q)).1, (rdL 3 .fls (nx q)).2) _ ⟨h5.ext h6, aO hcc h6, ho6.mono hcc.size, e1.symm, by show (rdL 3 .fls (nx q)).2.1.length ≤ _; omega, ?_⟩ (by show (rdL 3 .fls (nx q)).2.1.length < q.1.length; omega)
    show 1 + a.size + (rdL 3 .fls (nx q)).1.size + 3 * (rdL 3 .fls (nx q)).2.1.length ≤ _
    omega
theorem OJ {m : Nat} (hsub : Rds l4 2 m) : Rds nU 1 (m + 1) := by
  intro e b t s w ht h hm
  rw [fl1] at hm
  apply Q5; unfold E5
  refine iCall ((hsub e b t s w ht h (by rw [fl2]; omega)).mono ?_)
  rintro v w1 ⟨h1, hc1, ho1⟩
  have hlen := gT 2 .fls s
  have hz := bR 2 .fls s
  have htl := h.len
  have hf : Fm.fls.size = 1 := rfl
  rw [rdL1]
  refine iLp (fun q : Value × Fm × RSt => [q.1]) (fun q w' => RdS e b t q.2.2 w' ∧ Ch (fun x => x = b) w w' ∧ OwK 2 w.heap.size aF w' q.1 q.2.1.size q.2.1.cells ∧ rdL 4 q.2.1 q.2.2 = rdL 4 (rdL 2 .fls s).1 (rdL 2 .fls s).2 ∧ q.2.2.1.length ≤ s.1.length ∧ q.2.1.size + 3 * q.2.2.1.length ≤ 1 + 3 * s.1.length) (fun q => q.2.2.1.length) (v, rdL 2 .fls s) rfl
    ⟨h1, hc1, ho1, rfl, hlen, by show (rdL 2 .fls s).1.size + 3 * (rdL 2 .fls s).2.1.length ≤ _; omega⟩ ?_
  rintro ⟨v, a, q⟩ w3 Kn ⟨h3, hc3, ho3, hq, hql, hqs⟩ hKn
  have h3 : RdS e b t q w3 := h3
  have ho3 : OwK 2 w.heap.size aF w3 v a.size a.cells := ho3
  have hq : rdL 4 a q = _ := hq
  have hql : q.1.length ≤ s.1.length := hql
  have hqs : a.size + 3 * q.1.length ≤ 1 + 3 * s.1.length := hqs
  intro _
  refine iCall ((bL 124 (by decide) (by omega) h3).mono ?_)
  rintro _ w4 ⟨rfl, h4, hc4⟩
  have ho4 := ho3.ch hc4 (f4 h ho3 (Nat.le_refl _))
  rw [← hq, rdL4]
  cases hk : tk 124 q
  · rw [hk, if_neg (by decide)] at h4
    rw [if_neg (by decide)]
    exact iCndF rfl ⟨h4, aB hc3 hc4, ho4⟩
  · rw [hk, if_pos rfl] at h4
    have hnx := aZ hk
    rw [if_pos rfl]
    refine iCndT rfl ?_
    refine iCall ((hsub e b t _ w4 ht h4 (by rw [fl2]; omega)).mono ?_)
    rintro v5 w5 ⟨h5, hc5, ho5⟩
    have hz5 := bR 2 .fls (nx q)
    have hl5 := gT 2 .fls (nx q)
    have ho45 := ho4.ch hc5 (f4 h ho4 (Nat.le_refl _))
    have hsz : (Fm.or a (rdL 2 .fls (nx q)).1).size ≤ 1099511627776 := by
      show 1 + _ + _ ≤ _; omega
    refine iCall ((bK (c := .or a (rdL 2 .fls (nx q)).1) (k := 3) rfl rfl ho45.sl ho5.sl hsz).mono ?_)
    rintro v6 w6 ⟨h6, ho6⟩
    have hcc := aB hc3 (aB hc4 hc5)
    have e1 : rdL 4 (rdL 2 .fls s).1 (rdL 2 .fls s).2 = rdL 4 (.or a (rdL 2 .fls (nx q)).1) (rdL 2 .fls (nx q)).2 := by rw [← hq, rdL4, if_pos hk]
    refine hKn (v6, .or a (rdL 2 .fls (nx q)).1, (rdL 2 .fls (nx q)).2) _ ⟨h5.ext h6, aO hcc h6, ho6.mono hcc.size, e1.symm, by show (rdL 2 .fls (nx q)).2.1.length ≤ _; omega, ?_⟩ (by show (rdL 2 .fls (nx q)).2.1.length < q.1.length; omega)
    show 1 + a.size + (rdL 2 .fls (nx q)).1.size + 3 * (rdL 2 .fls (nx q)).2.1.length ≤ _
    omega
theorem MQ {m : Nat} (hsub : Rds fL 3 m) : Rds l4 2 (m + 1) := by
  intro e b t s w ht h hm
  rw [fl2] at hm
  apply PA; unfold B2
  refine iCall ((hsub e b t s w ht h (by rw [fl3]; omega)).mono ?_)
  rintro v w1 ⟨h1, hc1, ho1⟩
  have hlen := gT 3 .fls s
  have hz := bR 3 .fls s
  have htl := h.len
  have hf : Fm.fls.size = 1 := rfl
  rw [rdL2]
  refine iLp (fun q : Value × Fm × RSt => [q.1]) (fun q w' => RdS e b t q.2.2 w' ∧ Ch (fun x => x = b) w w' ∧ OwK 2 w.heap.size aF w' q.1 q.2.1.size q.2.1.cells ∧ rdL 5 q.2.1 q.2.2 = rdL 5 (rdL 3 .fls s).1 (rdL 3 .fls s).2 ∧ q.2.2.1.length ≤ s.1.length ∧ q.2.1.size + 3 * q.2.2.1.length ≤ 1 + 3 * s.1.length) (fun q => q.2.2.1.length) (v, rdL 3 .fls s) rfl
    ⟨h1, hc1, ho1, rfl, hlen, by show (rdL 3 .fls s).1.size + 3 * (rdL 3 .fls s).2.1.length ≤ _; omega⟩ ?_
  rintro ⟨v, a, q⟩ w3 Kn ⟨h3, hc3, ho3, hq, hql, hqs⟩ hKn
  have h3 : RdS e b t q w3 := h3
  have ho3 : OwK 2 w.heap.size aF w3 v a.size a.cells := ho3
  have hq : rdL 5 a q = _ := hq
  have hql : q.1.length ≤ s.1.length := hql
  have hqs : a.size + 3 * q.1.length ≤ 1 + 3 * s.1.length := hqs
  intro _
  refine iCall ((bL 38 (by decide) (by omega) h3).mono ?_)
  rintro _ w4 ⟨rfl, h4, hc4⟩
  have ho4 := ho3.ch hc4 (f4 h ho3 (Nat.le_refl _))
  rw [← hq, rdL5]
  cases hk : tk 38 q
  · rw [hk, if_neg (by decide)] at h4
    rw [if_neg (by decide)]
    exact iCndF rfl ⟨h4, aB hc3 hc4, ho4⟩
  · rw [hk, if_pos rfl] at h4
    have hnx := aZ hk
    rw [if_pos rfl]
    refine iCndT rfl ?_
    refine iCall ((hsub e b t _ w4 ht h4 (by rw [fl3]; omega)).mono ?_)
    rintro v5 w5 ⟨h5, hc5, ho5⟩
    have hz5 := bR 3 .fls (nx q)
    have hl5 := gT 3 .fls (nx q)
    have ho45 := ho4.ch hc5 (f4 h ho4 (Nat.le_refl _))
    have hsz : (Fm.and a (rdL 3 .fls (nx q)).1).size ≤ 1099511627776 := by
      show 1 + _ + _ ≤ _; omega
    refine iCall ((bK (c := .and a (rdL 3 .fls (nx q)).1) (k := 2) rfl rfl ho45.sl ho5.sl hsz).mono ?_)
    rintro v6 w6 ⟨h6, ho6⟩
    have hcc := aB hc3 (aB hc4 hc5)
    have e1 : rdL 5 (rdL 3 .fls s).1 (rdL 3 .fls s).2 = rdL 5 (.and a (rdL 3 .fls (nx q)).1) (rdL 3 .fls (nx q)).2 := by rw [← hq, rdL5, if_pos hk]
    refine hKn (v6, .and a (rdL 3 .fls (nx q)).1, (rdL 3 .fls (nx q)).2) _ ⟨h5.ext h6, aO hcc h6, ho6.mono hcc.size, e1.symm, by show (rdL 3 .fls (nx q)).2.1.length ≤ _; omega, ?_⟩ (by show (rdL 3 .fls (nx q)).2.1.length < q.1.length; omega)
    show 1 + a.size + (rdL 3 .fls (nx q)).1.size + 3 * (rdL 3 .fls (nx q)).2.1.length ≤ _
    omega
theorem DI {m : Nat} (him : Rds b7 0 m) (e : TypeId) (b : Nat) (t : Str) (s : RSt) (w : World) (ht : t.length ≤ 4194304) (h : RdS e b t s w) (hm : 8 * s.1.length + 1 ≤ m + 1) (hn1 : tk 126 s = false) (hn2 : tk 91 s = false) (hn3 : tk 60 s = false) :
    Cal Tryz.prog qC #[.pointer (some ⟨b, 0, none⟩)] w (ReadQ e b t aF (rdL 3 .fls s) w) := by
  apply FM; unfold fV
  have htl := h.len
  have key : ∀ {r : Fm × RSt}, (rdL 3 .fls s = r → fV (.pointer (some ⟨b, 0, none⟩)) w (ReadQ e b t aF r w)) → rdL 3 .fls s = r → fV (.pointer (some ⟨b, 0, none⟩)) w (ReadQ e b t aF (rdL 3 .fls s) w) := fun h e => by rw [e]; exact h e
  refine iCall ((aW 70 (by decide) (by omega) h).mono ?_)
  rintro _ w1 ⟨rfl, h1, hc1⟩
  have two : ∀ {c d : UInt8}, tk c s = true → c ≠ d → tk d s = false := fun a b => LQ a b
  cases k1 : tk 70 s
  rotate_left
  · rw [k1, if_pos rfl] at h1
    refine iCndT rfl ?_
    have er : rdL 3 .fls s = (.fls, nx s) := rdL3 (Q := fun x => x = _) (fun h => absurd (hn1.symm.trans h) (by decide)) (fun h => absurd (hn2.symm.trans h) (by decide)) (fun h => absurd (hn3.symm.trans h) (by decide)) (fun _ => rfl) (fun h => absurd ((two k1 (by decide)).symm.trans h) (by decide)) (fun h => absurd ((two k1 (by decide)).symm.trans h) (by decide)) (fun v hv h => absurd ((two k1 (eO hv (by decide)).symm).symm.trans h) (by decide)) (fun _ _ _ h _ _ _ => absurd (h.symm.trans k1) (by decide))
    rw [er]
    refine iCall ((pM w1).mono ?_)
    rintro v w2 ⟨h2, ho2⟩
    exact ⟨h1.ext h2, aO hc1 h2, ho2.mono hc1.size⟩
  rw [k1, if_neg (by decide)] at h1
  refine iCndF rfl ?_
  refine iCall ((aW 84 (by decide) (by omega) h1).mono ?_)
  rintro _ w3 ⟨rfl, h3, hc3⟩
  have hc13 := aB hc1 hc3
  cases k2 : tk 84 s
  rotate_left
  · rw [k2, if_pos rfl] at h3
    refine iCndT rfl ?_
    have er : rdL 3 .fls s = (.imp .fls .fls, nx s) := rdL3 (Q := fun x => x = _) (fun h => absurd (hn1.symm.trans h) (by decide)) (fun h => absurd (hn2.symm.trans h) (by decide)) (fun h => absurd (hn3.symm.trans h) (by decide)) (fun h => absurd (k1.symm.trans h) (by decide)) (fun _ => rfl) (fun h => absurd ((two k2 (by decide)).symm.trans h) (by decide)) (fun v hv h => absurd ((two k2 (eO hv (by decide)).symm).symm.trans h) (by decide)) (fun _ _ _ _ h _ _ => absurd (h.symm.trans k2) (by decide))
    rw [er]
    refine iCall ((OT w3).mono ?_)
    rintro v w2 ⟨h2, ho2⟩
    exact ⟨h3.ext h2, aO hc13 h2, ho2.mono hc13.size⟩
  rw [k2, if_neg (by decide)] at h3
  refine iCndF rfl ?_
  refine iCall ((aW 40 (by decide) (by omega) h3).mono ?_)
  rintro _ w5 ⟨rfl, h5, hc5⟩
  have hc15 := aB hc13 hc5
  cases k3 : tk 40 s
  rotate_left
  · rw [k3, if_pos rfl] at h5
    refine iCndT rfl ?_
    have er : rdL 3 .fls s = ((rdL 0 .fls (nx s)).1, ndd 41 (rdL 0 .fls (nx s)).2) := rdL3 (Q := fun x => x = _) (fun h => absurd (hn1.symm.trans h) (by decide)) (fun h => absurd (hn2.symm.trans h) (by decide)) (fun h => absurd (hn3.symm.trans h) (by decide)) (fun h => absurd (k1.symm.trans h) (by decide)) (fun h => absurd (k2.symm.trans h) (by decide)) (fun _ => rfl) (fun v hv h => absurd ((two k3 (eO hv (by decide)).symm).symm.trans h) (by decide)) (fun _ _ _ _ _ h _ => absurd (h.symm.trans k3) (by decide))
    rw [er]
    have hnx := aZ k3
    refine iCall ((him e b t _ w5 ht h5 (by rw [fl0]; omega)).mono ?_)
    rintro v w6 ⟨h6, hc6, ho6⟩
    refine iCall ((jA 41 (by decide) (by omega) h6).mono ?_)
    rintro _ w7 ⟨h7, hc7⟩
    exact ⟨h7, aB hc15 (aB hc6 hc7), (ho6.ch hc7 (f4 h ho6 hc15.size)).mono hc15.size⟩
  rw [k3, if_neg (by decide)] at h5
  refine iCndF rfl ?_
  have hlet : (.string ⟨#[112, 113, 114, 115, 116, 117]⟩ : Value) = sv [112, 113, 114, 115, 116, 117] := rfl
  rw [hlet]
  refine U1 (by kernel_rfl) fun q w8 hq h8 hI => ?_
  have hqb : q ≠ b := by have := h5.lt; omega
  refine iLp (fun _ : Nat => []) (fun i w' => i ≤ 6 ∧ RdS e b t s w' ∧ Ch (fun x => x = b) w w' ∧ It w' q [112, 113, 114, 115, 116, 117] i ∧ w.heap.size ≤ q ∧ ∀ v, v < i → tk (vl v) s = false) (fun i => 6 - i) 0 rfl ⟨Nat.zero_le _, h5.ext h8, aO hc15 h8, hI, by have := hc15.size; omega, fun v hv => by omega⟩ ?_
  rintro i w10 Kn ⟨hi, h10, hc10, hI10, hwq, hno⟩ hKn
  intro _
  by_cases hi6 : i = 6
  · subst hi6
    refine T5 hI10 (by decide) ?_
    refine iEx (by rfl) ?_
    refine iCndF rfl ?_
    have er : rdL 3 .fls s = (.fls, (s.1, true)) := rdL3 (Q := fun x => x = _) (fun h => absurd (hn1.symm.trans h) (by decide)) (fun h => absurd (hn2.symm.trans h) (by decide)) (fun h => absurd (hn3.symm.trans h) (by decide)) (fun h => absurd (k1.symm.trans h) (by decide)) (fun h => absurd (k2.symm.trans h) (by decide)) (fun h => absurd (k3.symm.trans h) (by decide)) (fun v hv h => absurd ((hno v hv).symm.trans h) (by decide)) (fun _ _ _ _ _ _ _ => rfl)
    rw [er]
    obtain ⟨k, _, _, hB⟩ := id h10
    ((with_reducible refine iNil ?_; refine iFa ?_))
    refine iStB hB (by simp) rfl fun _ => ?_
    have hu := Upd.setCell w10 b 2 (.bool true)
    refine iCall ((pM _).mono ?_)
    rintro v w2 ⟨h2, ho2⟩
    have hcu := hc10.trans (hu.ch (S := fun x => x = b) rfl) (fun _ h => .inl h)
    exact ⟨(RdS.bad h10).ext h2, aO hcu h2, ho2.mono hcu.size⟩
  · have hi5 : i < 6 := by omega
    have hgd : (([112, 113, 114, 115, 116, 117] : Str).getD i 0) = vl i := by
      have : i = 0 ∨ i = 1 ∨ i = 2 ∨ i = 3 ∨ i = 4 ∨ i = 5 := by omega
      rcases this with rfl | rfl | rfl | rfl | rfl | rfl <;> rfl
    refine UB hI10 (by show i < 6; exact hi5) fun c d w11 _ hlow _ _ hu hI11 => ?_
    rw [hgd, FG i hi5] at hlow
    obtain ⟨rfl, rfl⟩ := hlow (by omega)
    have hcu : Ch (fun x => x = b) w w11 := hc10.trans (hu.ch (S := fun x => x = q) rfl) (fun x hx => .inr (by omega))
    have h11 : RdS e b t s w11 := by
      obtain ⟨k, a1, a2, hB⟩ := h10
      exact ⟨k, a1, a2, hB.upd hu (fun e => hqb e.symm)⟩
    ((with_reducible refine iE30 ?_))
    refine iCndT rfl ?_
    ((with_reducible refine iE31 ?_; refine iE32 ?_))
    refine ⟨_, _, rfl, ?_⟩
    have ew : IntKind.u8.wrap ((112 + i : Nat) : Int) = (((vl i).toNat : Nat) : Int) := by
      rw [FG i hi5]
      have : i = 0 ∨ i = 1 ∨ i = 2 ∨ i = 3 ∨ i = 4 ∨ i = 5 := by omega
      rcases this with rfl | rfl | rfl | rfl | rfl | rfl <;> decide
    refine iCall ((aW (vl i) ew (by omega) h11).mono ?_)
    rintro _ w12 ⟨rfl, h12, hc12⟩
    have hcc := aB hcu hc12
    cases kv : tk (vl i) s
    · rw [kv, if_neg (by decide)] at h12
      refine iCndF rfl ?_
      refine hKn (i + 1) _ ⟨by omega, h12, hcc, hI11.ch hc12 hqb, hwq, fun v hv => ?_⟩ (by omega)
      by_cases hvi : v = i
      · rw [hvi]; exact kv
      · exact hno v (by omega)
    · rw [kv, if_pos rfl] at h12
      refine iCndT rfl ?_
      have er : rdL 3 .fls s = (.var i, nx s) := rdL3 (Q := fun x => x = _) (fun h => absurd (hn1.symm.trans h) (by decide)) (fun h => absurd (hn2.symm.trans h) (by decide)) (fun h => absurd (hn3.symm.trans h) (by decide)) (fun h => absurd (k1.symm.trans h) (by decide)) (fun h => absurd (k2.symm.trans h) (by decide)) (fun h => absurd (k3.symm.trans h) (by decide)) (fun v hv h => by
        have : vl i = vl v := by
          apply Classical.byContradiction
          intro hne
          exact absurd ((two kv hne).symm.trans h) (by decide)
        rw [UO hi5 hv this]) (fun _ _ _ _ _ _ h => absurd ((h i hi5).symm.trans kv) (by decide))
      rw [er]
      refine iCall ((IF i w12).mono ?_)
      rintro v w2 ⟨h2, ho2⟩
      exact ⟨h12.ext h2, aO hcc h2, ho2.mono hcc.size⟩
theorem AL {m : Nat} (hpre : Rds dB 3 m) (him : Rds b7 0 m) : Rds dB 3 (m + 1) := by
  intro e b t s w ht h hm
  rw [fl3] at hm
  apply BH; unfold nP
  have htl := h.len
  have two : ∀ {c d : UInt8}, tk c s = true → c ≠ d → tk d s = false := fun a b => LQ a b
  refine iCall ((aW 126 (by decide) (by omega) h).mono ?_)
  rintro _ w1 ⟨rfl, h1, hc1⟩
  have hf : Fm.fls.size = 1 := rfl
  cases k1 : tk 126 s
  rotate_left
  · rw [k1, if_pos rfl] at h1
    refine iCndT rfl ?_
    have er : rdL 3 .fls s = (.imp (rdL 3 .fls (nx s)).1 .fls, (rdL 3 .fls (nx s)).2) := rdL3 (Q := fun x => x = _) (fun _ => rfl) (fun h => absurd ((two k1 (by decide)).symm.trans h) (by decide)) (fun h => absurd ((two k1 (by decide)).symm.trans h) (by decide)) (fun h => absurd ((two k1 (by decide)).symm.trans h) (by decide)) (fun h => absurd ((two k1 (by decide)).symm.trans h) (by decide)) (fun h => absurd ((two k1 (by decide)).symm.trans h) (by decide)) (fun v hv h => absurd ((two k1 (eO hv (by decide)).symm).symm.trans h) (by decide)) (fun h _ _ _ _ _ _ => absurd (h.symm.trans k1) (by decide))
    rw [er]
    have hnx := aZ k1
    refine iCall ((hpre e b t _ w1 ht h1 (by rw [fl3]; omega)).mono ?_)
    rintro v w2 ⟨h2, hc2, ho2⟩
    have hz := bR 3 .fls (nx s)
    refine iCall ((IS ho2.sl (by omega)).mono ?_)
    rintro v w3 ⟨h3, ho3⟩
    have hcc := aB hc1 hc2
    exact ⟨h2.ext h3, aO hcc h3, ho3.mono hcc.size⟩
  rw [k1, if_neg (by decide)] at h1
  refine iCndF rfl ?_
  refine iCall ((aW 91 (by decide) (by omega) h1).mono ?_)
  rintro _ w3 ⟨rfl, h3, hc3⟩
  have hc13 := aB hc1 hc3
  cases k2 : tk 91 s
  rotate_left
  · rw [k2, if_pos rfl] at h3
    refine iCndT rfl ?_
    have er : rdL 3 .fls s = (.box (rdL 3 .fls (ndd 93 (nx s))).1, (rdL 3 .fls (ndd 93 (nx s))).2) := rdL3 (Q := fun x => x = _) (fun h => absurd (k1.symm.trans h) (by decide)) (fun _ => rfl) (fun h => absurd ((two k2 (by decide)).symm.trans h) (by decide)) (fun h => absurd ((two k2 (by decide)).symm.trans h) (by decide)) (fun h => absurd ((two k2 (by decide)).symm.trans h) (by decide)) (fun h => absurd ((two k2 (by decide)).symm.trans h) (by decide)) (fun v hv h => absurd ((two k2 (eO hv (by decide)).symm).symm.trans h) (by decide)) (fun _ h _ _ _ _ _ => absurd (h.symm.trans k2) (by decide))
    rw [er]
    have hnx := aZ k2
    have hnd := kI 93 (nx s)
    refine iCall ((jA 93 (by decide) (by omega) h3).mono ?_)
    rintro _ w4 ⟨h4, hc4⟩
    refine iCall ((hpre e b t _ w4 ht h4 (by rw [fl3]; omega)).mono ?_)
    rintro v w5 ⟨h5, hc5, ho5⟩
    have hz := bR 3 .fls (ndd 93 (nx s))
    refine iCall ((yP (c := .box (rdL 3 .fls (ndd 93 (nx s))).1) (k := 5) rfl rfl ho5.sl (by show 1 + _ ≤ _; omega)).mono ?_)
    rintro v w6 ⟨h6, ho6⟩
    have hcc := aB hc13 (aB hc4 hc5)
    exact ⟨h5.ext h6, aO hcc h6, ho6.mono hcc.size⟩
  rw [k2, if_neg (by decide)] at h3
  refine iCndF rfl ?_
  refine iCall ((aW 60 (by decide) (by omega) h3).mono ?_)
  rintro _ w7 ⟨rfl, h7, hc7⟩
  have hc17 := aB hc13 hc7
  cases k3 : tk 60 s
  rotate_left
  · rw [k3, if_pos rfl] at h7
    refine iCndT rfl ?_
    have er : rdL 3 .fls s = (.dia (rdL 3 .fls (ndd 62 (nx s))).1, (rdL 3 .fls (ndd 62 (nx s))).2) := rdL3 (Q := fun x => x = _) (fun h => absurd (k1.symm.trans h) (by decide)) (fun h => absurd (k2.symm.trans h) (by decide)) (fun _ => rfl) (fun h => absurd ((two k3 (by decide)).symm.trans h) (by decide)) (fun h => absurd ((two k3 (by decide)).symm.trans h) (by decide)) (fun h => absurd ((two k3 (by decide)).symm.trans h) (by decide)) (fun v hv h => absurd ((two k3 (eO hv (by decide)).symm).symm.trans h) (by decide)) (fun _ _ h _ _ _ _ => absurd (h.symm.trans k3) (by decide))
    rw [er]
    have hnx := aZ k3
    have hnd := kI 62 (nx s)
    refine iCall ((jA 62 (by decide) (by omega) h7).mono ?_)
    rintro _ w4 ⟨h4, hc4⟩
    refine iCall ((hpre e b t _ w4 ht h4 (by rw [fl3]; omega)).mono ?_)
    rintro v w5 ⟨h5, hc5, ho5⟩
    have hz := bR 3 .fls (ndd 62 (nx s))
    refine iCall ((yP (c := .dia (rdL 3 .fls (ndd 62 (nx s))).1) (k := 6) rfl rfl ho5.sl (by show 1 + _ ≤ _; omega)).mono ?_)
    rintro v w6 ⟨h6, ho6⟩
    have hcc := aB hc17 (aB hc4 hc5)
    exact ⟨h5.ext h6, aO hcc h6, ho6.mono hcc.size⟩
  rw [k3, if_neg (by decide)] at h7
  refine iCndF rfl ?_
  refine iCall ((DI him e b t s w7 ht h7 hm k1 k2 k3).mono ?_)
  rintro v w8 ⟨h8, hc8, ho8⟩
  exact ⟨h8, aB hc17 hc8, ho8.mono hc17.size⟩
theorem SS : ∀ m, Rds b7 0 m ∧ Rds iI 1 m ∧ Rds gP 2 m ∧ Rds dB 3 m
  | 0 => ⟨fun _ _ _ _ _ _ _ h => by rw [fl0] at h; omega, fun _ _ _ _ _ _ _ h => by rw [fl1] at h; omega, fun _ _ _ _ _ _ _ h => by rw [fl2] at h; omega, fun _ _ _ _ _ _ _ h => by rw [fl3] at h; omega⟩
  | m + 1 =>
    have h := SS m
    ⟨BE h.2.1 h.1, F7 h.2.2.1, FK h.2.2.2, AL h.2.2.2 h.1⟩
theorem nT {e : TypeId} {b : Nat} {t : Str} {s : RSt} {w : World} (ht : t.length ≤ 4194304) (h : RdS e b t s w) : Cal Tryz.prog b7 #[.pointer (some ⟨b, 0, none⟩)] w (ReadQ e b t aF (rdL 0 .fls s) w) :=
  (SS _).1 e b t s w ht h (Nat.le_refl _)
end Go.Proofs.YtcfnoofghbmiiaaGreatDoor

namespace Go.Vc
def rdOk (t : Str) : Bool := !(rd t).2.2 && decide ((rd t).2.1 = [])
def rdAt (t : Str) : Nat := t.length - (rd t).2.1.length
theorem I5 (t : Str) : rd t = rdL 0 .fls (t, false) := rfl
theorem WK (t : Str) : (rd t).1.size ≤ 1 + 3 * t.length := by
  have := bR 0 .fls (t, false)
  rw [← I5] at this
  have h : Fm.fls.size = 1 := rfl
  have : (rd t).1.size + 3 * (rd t).2.1.length ≤ 1 + 3 * t.length := by rw [← h]; exact this
  omega
theorem UT (t : Str) : (rd t).2.1.length ≤ t.length := gT 0 .fls (t, false)
theorem FY (t : Str) : (rd t).1.good := cF _ _ _ _ trivial
theorem RdS.place {e : TypeId} {b : Nat} {t : Str} {s : RSt} {w : World} (h : RdS e b t s w) : Blk e w b [sv t, .int .i64 ((t.length - s.1.length : Nat) : Int), .bool s.2] := by
  obtain ⟨k, h1, h2, h3⟩ := h
  have : t.length - s.1.length = k := by rw [h2, List.length_drop]; omega
  rw [this]; exact h3
theorem RdS.new {e : TypeId} {b : Nat} {t : Str} {w : World} (h : Blk e w b [sv t, .int .i64 0, .bool false]) : RdS e b t (t, false) w := ⟨0, Nat.zero_le _, rfl, h⟩
end Go.Vc
namespace Go.Proofs.YtcfnoofghbmiiaaGreatDoor
open Go.Vc
theorem F1 {m : Nat} (hpre : Rds fL 3 m) (him : Rds eJ 0 m) : Rds fL 3 (m + 1) := by
  intro e b t s w ht h hm
  rw [fl3] at hm
  apply IR; unfold sX
  have htl := h.len
  have hf : Fm.fls.size = 1 := rfl
  have two : ∀ {c d : UInt8}, tk c s = true → c ≠ d → tk d s = false := fun a b => LQ a b
  have hlet : (.string ⟨#[112, 113, 114, 115, 116, 117]⟩ : Value) = sv [112, 113, 114, 115, 116, 117] := rfl
  rw [hlet]
  refine iLp (fun i : Nat => [.int .i64 (i : Int)]) (fun i w' => i ≤ 6 ∧ RdS e b t s w' ∧ Ch (fun x => x = b) w w' ∧ ∀ v, v < i → tk (vl v) s = false) (fun i => 6 - i) 0 rfl ⟨Nat.zero_le _, h, (Ext.refl w).ch, fun v hv => by omega⟩ ?_
  rintro i w2 Kn ⟨hi, h2, hc2, hno⟩ hKn
  (intro _; (try simp only [gx]))
  refine iLenT ?_
  refine iLt ?_
  refine iCndP (fun h3 => ?_) (fun h3 => ?_)
  · have hi5 : i < 6 := by simp at h3; omega
    have hgd : (([112, 113, 114, 115, 116, 117] : Str).getD i 0) = vl i := by
      have : i = 0 ∨ i = 1 ∨ i = 2 ∨ i = 3 ∨ i = 4 ∨ i = 5 := by omega
      rcases this with rfl | rfl | rfl | rfl | rfl | rfl <;> rfl
    refine iIs (by show i < 6; exact hi5) ?_
    rw [hgd]
    refine iCall ((bL (vl i) rfl (by omega) h2).mono ?_)
    rintro _ w3 ⟨rfl, h4, hc4⟩
    have hcc := aB hc2 hc4
    cases kv : tk (vl i) s
    · rw [kv, if_neg (by decide)] at h4
      refine iCndF rfl ?_
      (refine iAdd (by omega) ?_)
      refine hKn (i + 1) _ ⟨by omega, h4, hcc, fun v hv => ?_⟩ (by omega)
      by_cases hvi : v = i
      · rw [hvi]; exact kv
      · exact hno v (by omega)
    · rw [kv, if_pos rfl] at h4
      refine iCndT rfl ?_
      have er : rdL 3 .fls s = (.var i, nx s) := rdL3 (Q := fun x => x = _) (fun h => absurd ((two kv (eO hi5 (by decide))).symm.trans h) (by decide)) (fun h => absurd ((two kv (eO hi5 (by decide))).symm.trans h) (by decide)) (fun h => absurd ((two kv (eO hi5 (by decide))).symm.trans h) (by decide)) (fun h => absurd ((two kv (eO hi5 (by decide))).symm.trans h) (by decide)) (fun h => absurd ((two kv (eO hi5 (by decide))).symm.trans h) (by decide)) (fun h => absurd ((two kv (eO hi5 (by decide))).symm.trans h) (by decide)) (fun v hv h => by
        have : vl i = vl v := by
          apply Classical.byContradiction
          intro hne
          exact absurd ((two kv hne).symm.trans h) (by decide)
        rw [UO hi5 hv this]) (fun _ _ _ _ _ _ h => absurd ((h i hi5).symm.trans kv) (by decide))
      rw [er]
      refine iCall ((pC i w3).mono ?_)
      rintro v w4 ⟨h5, ho5⟩
      exact ⟨h4.ext h5, aO hcc h5, ho5.mono hcc.size⟩
  have hi6 : i = 6 := by simp at h3; omega
  subst hi6
  refine iCall ((bL 70 (by decide) (by omega) h2).mono ?_)
  rintro _ wa1 ⟨rfl, ha1, ca1⟩
  have cb1 := aB hc2 ca1
  cases k1 : tk 70 s
  rotate_left
  · rw [k1, if_pos rfl] at ha1
    refine iCndT rfl ?_
    have er : rdL 3 .fls s = (.fls, nx s) := rdL3 (Q := fun x => x = _) (fun h => absurd ((two k1 (by decide)).symm.trans h) (by decide)) (fun h => absurd ((two k1 (by decide)).symm.trans h) (by decide)) (fun h => absurd ((two k1 (by decide)).symm.trans h) (by decide)) (fun _ => rfl) (fun h => absurd ((two k1 (by decide)).symm.trans h) (by decide)) (fun h => absurd ((two k1 (by decide)).symm.trans h) (by decide)) (fun v hv h => absurd ((hno v hv).symm.trans h) (by decide)) (fun _ _ _ h _ _ _ => absurd (h.symm.trans k1) (by decide))
    rw [er]
    have hnx := aZ k1
    refine iCall ((dL wa1).mono ?_)
    rintro v w4 ⟨h5, ho5⟩
    exact ⟨ha1.ext h5, aO cb1 h5, ho5.mono cb1.size⟩
  rw [k1, if_neg (by decide)] at ha1
  refine iCndF rfl ?_
  refine iCall ((bL 84 (by decide) (by omega) ha1).mono ?_)
  rintro _ wa2 ⟨rfl, ha2, ca2⟩
  have cb2 := aB cb1 ca2
  cases k2 : tk 84 s
  rotate_left
  · rw [k2, if_pos rfl] at ha2
    refine iCndT rfl ?_
    have er : rdL 3 .fls s = (.imp .fls .fls, nx s) := rdL3 (Q := fun x => x = _) (fun h => absurd ((two k2 (by decide)).symm.trans h) (by decide)) (fun h => absurd ((two k2 (by decide)).symm.trans h) (by decide)) (fun h => absurd ((two k2 (by decide)).symm.trans h) (by decide)) (fun h => absurd (k1.symm.trans h) (by decide)) (fun _ => rfl) (fun h => absurd ((two k2 (by decide)).symm.trans h) (by decide)) (fun v hv h => absurd ((hno v hv).symm.trans h) (by decide)) (fun _ _ _ _ h _ _ => absurd (h.symm.trans k2) (by decide))
    rw [er]
    have hnx := aZ k2
    refine iCall ((vY wa2).mono ?_)
    rintro v w4 ⟨h5, ho5⟩
    exact ⟨ha2.ext h5, aO cb2 h5, ho5.mono cb2.size⟩
  rw [k2, if_neg (by decide)] at ha2
  refine iCndF rfl ?_
  refine iCall ((bL 126 (by decide) (by omega) ha2).mono ?_)
  rintro _ wa3 ⟨rfl, ha3, ca3⟩
  have cb3 := aB cb2 ca3
  cases k3 : tk 126 s
  rotate_left
  · rw [k3, if_pos rfl] at ha3
    refine iCndT rfl ?_
    have er : rdL 3 .fls s = (.imp (rdL 3 .fls (nx s)).1 .fls, (rdL 3 .fls (nx s)).2) := rdL3 (Q := fun x => x = _) (fun _ => rfl) (fun h => absurd ((two k3 (by decide)).symm.trans h) (by decide)) (fun h => absurd ((two k3 (by decide)).symm.trans h) (by decide)) (fun h => absurd (k1.symm.trans h) (by decide)) (fun h => absurd (k2.symm.trans h) (by decide)) (fun h => absurd ((two k3 (by decide)).symm.trans h) (by decide)) (fun v hv h => absurd ((hno v hv).symm.trans h) (by decide)) (fun h _ _ _ _ _ _ => absurd (h.symm.trans k3) (by decide))
    rw [er]
    have hnx := aZ k3
    refine iCall ((hpre e b t _ wa3 ht ha3 (by rw [fl3]; omega)).mono ?_)
    rintro v w5 ⟨h5, hc5, ho5⟩
    have hz := bR 3 .fls (nx s)
    refine iCall ((pD ho5.sl (by omega)).mono ?_)
    rintro v w6 ⟨h6, ho6⟩
    have hcc := aB cb3 hc5
    exact ⟨h5.ext h6, aO hcc h6, ho6.mono hcc.size⟩
  rw [k3, if_neg (by decide)] at ha3
  refine iCndF rfl ?_
  refine iCall ((bL 91 (by decide) (by omega) ha3).mono ?_)
  rintro _ wa4 ⟨rfl, ha4, ca4⟩
  have cb4 := aB cb3 ca4
  cases k4 : tk 91 s
  rotate_left
  · rw [k4, if_pos rfl] at ha4
    refine iCndT rfl ?_
    have er : rdL 3 .fls s = (.box (rdL 3 .fls (ndd 93 (nx s))).1, (rdL 3 .fls (ndd 93 (nx s))).2) := rdL3 (Q := fun x => x = _) (fun h => absurd (k3.symm.trans h) (by decide)) (fun _ => rfl) (fun h => absurd ((two k4 (by decide)).symm.trans h) (by decide)) (fun h => absurd (k1.symm.trans h) (by decide)) (fun h => absurd (k2.symm.trans h) (by decide)) (fun h => absurd ((two k4 (by decide)).symm.trans h) (by decide)) (fun v hv h => absurd ((hno v hv).symm.trans h) (by decide)) (fun _ h _ _ _ _ _ => absurd (h.symm.trans k4) (by decide))
    rw [er]
    have hnx := aZ k4
    have hnd := kI 93 (nx s)
    refine iCall ((nM 93 (by decide) (by omega) ha4).mono ?_)
    rintro _ w4 ⟨h4, hc4⟩
    refine iCall ((hpre e b t _ w4 ht h4 (by rw [fl3]; omega)).mono ?_)
    rintro v w5 ⟨h5, hc5, ho5⟩
    have hz := bR 3 .fls (ndd 93 (nx s))
    refine iCall ((pH (c := .box (rdL 3 .fls (ndd 93 (nx s))).1) (k := 5) rfl rfl ho5.sl (by show 1 + _ ≤ _; omega)).mono ?_)
    rintro v w6 ⟨h6, ho6⟩
    have hcc := aB cb4 (aB hc4 hc5)
    exact ⟨h5.ext h6, aO hcc h6, ho6.mono hcc.size⟩
  rw [k4, if_neg (by decide)] at ha4
  refine iCndF rfl ?_
  refine iCall ((bL 60 (by decide) (by omega) ha4).mono ?_)
  rintro _ wa5 ⟨rfl, ha5, ca5⟩
  have cb5 := aB cb4 ca5
  cases k5 : tk 60 s
  rotate_left
  · rw [k5, if_pos rfl] at ha5
    refine iCndT rfl ?_
    have er : rdL 3 .fls s = (.dia (rdL 3 .fls (ndd 62 (nx s))).1, (rdL 3 .fls (ndd 62 (nx s))).2) := rdL3 (Q := fun x => x = _) (fun h => absurd (k3.symm.trans h) (by decide)) (fun h => absurd (k4.symm.trans h) (by decide)) (fun _ => rfl) (fun h => absurd (k1.symm.trans h) (by decide)) (fun h => absurd (k2.symm.trans h) (by decide)) (fun h => absurd ((two k5 (by decide)).symm.trans h) (by decide)) (fun v hv h => absurd ((hno v hv).symm.trans h) (by decide)) (fun _ _ h _ _ _ _ => absurd (h.symm.trans k5) (by decide))
    rw [er]
    have hnx := aZ k5
    have hnd := kI 62 (nx s)
    refine iCall ((nM 62 (by decide) (by omega) ha5).mono ?_)
    rintro _ w4 ⟨h4, hc4⟩
    refine iCall ((hpre e b t _ w4 ht h4 (by rw [fl3]; omega)).mono ?_)
    rintro v w5 ⟨h5, hc5, ho5⟩
    have hz := bR 3 .fls (ndd 62 (nx s))
    refine iCall ((pH (c := .dia (rdL 3 .fls (ndd 62 (nx s))).1) (k := 6) rfl rfl ho5.sl (by show 1 + _ ≤ _; omega)).mono ?_)
    rintro v w6 ⟨h6, ho6⟩
    have hcc := aB cb5 (aB hc4 hc5)
    exact ⟨h5.ext h6, aO hcc h6, ho6.mono hcc.size⟩
  rw [k5, if_neg (by decide)] at ha5
  refine iCndF rfl ?_
  refine iCall ((bL 40 (by decide) (by omega) ha5).mono ?_)
  rintro _ wa6 ⟨rfl, ha6, ca6⟩
  have cb6 := aB cb5 ca6
  cases k6 : tk 40 s
  rotate_left
  · rw [k6, if_pos rfl] at ha6
    refine iCndT rfl ?_
    have er : rdL 3 .fls s = ((rdL 0 .fls (nx s)).1, ndd 41 (rdL 0 .fls (nx s)).2) := rdL3 (Q := fun x => x = _) (fun h => absurd (k3.symm.trans h) (by decide)) (fun h => absurd (k4.symm.trans h) (by decide)) (fun h => absurd (k5.symm.trans h) (by decide)) (fun h => absurd (k1.symm.trans h) (by decide)) (fun h => absurd (k2.symm.trans h) (by decide)) (fun _ => rfl) (fun v hv h => absurd ((hno v hv).symm.trans h) (by decide)) (fun _ _ _ _ _ h _ => absurd (h.symm.trans k6) (by decide))
    rw [er]
    have hnx := aZ k6
    refine iCall ((him e b t _ wa6 ht ha6 (by rw [fl0]; omega)).mono ?_)
    rintro v w6 ⟨h6, hc6, ho6⟩
    refine iCall ((nM 41 (by decide) (by omega) h6).mono ?_)
    rintro _ w7 ⟨h7, hc7⟩
    exact ⟨h7, aB cb6 (aB hc6 hc7), (ho6.ch hc7 (f4 h ho6 cb6.size)).mono cb6.size⟩
  rw [k6, if_neg (by decide)] at ha6
  refine iCndF rfl ?_
  have er : rdL 3 .fls s = (.fls, (s.1, true)) := rdL3 (Q := fun x => x = _) (fun h => absurd (k3.symm.trans h) (by decide)) (fun h => absurd (k4.symm.trans h) (by decide)) (fun h => absurd (k5.symm.trans h) (by decide)) (fun h => absurd (k1.symm.trans h) (by decide)) (fun h => absurd (k2.symm.trans h) (by decide)) (fun h => absurd (k6.symm.trans h) (by decide)) (fun v hv h => absurd ((hno v hv).symm.trans h) (by decide)) (fun _ _ _ _ _ _ _ => rfl)
  rw [er]
  obtain ⟨k, _, _, hB⟩ := id ha6
  ((with_reducible refine iNil ?_; refine iFa ?_))
  refine iStB hB (by simp) rfl fun _ => ?_
  have hu := Upd.setCell wa6 b 2 (.bool true)
  refine iCall ((dL _).mono ?_)
  rintro v w4 ⟨h5, ho5⟩
  have hcu := cb6.trans (hu.ch (S := fun x => x = b) rfl) (fun _ h => .inl h)
  exact ⟨(RdS.bad ha6).ext h5, aO hcu h5, ho5.mono hcu.size⟩
theorem SE : ∀ m, Rds eJ 0 m ∧ Rds nU 1 m ∧ Rds l4 2 m ∧ Rds fL 3 m
  | 0 => ⟨fun _ _ _ _ _ _ _ h => by rw [fl0] at h; omega, fun _ _ _ _ _ _ _ h => by rw [fl1] at h; omega, fun _ _ _ _ _ _ _ h => by rw [fl2] at h; omega, fun _ _ _ _ _ _ _ h => by rw [fl3] at h; omega⟩
  | m + 1 =>
    have h := SE m
    ⟨IW h.2.1 h.1, OJ h.2.2.1, MQ h.2.2.2, F1 h.2.2.2 h.1⟩
theorem HZ {e : TypeId} {b : Nat} {t : Str} {s : RSt} {w : World} (ht : t.length ≤ 4194304) (h : RdS e b t s w) : Cal Tryz.prog eJ #[.pointer (some ⟨b, 0, none⟩)] w (ReadQ e b t aF (rdL 0 .fls s) w) :=
  (SE _).1 e b t s w ht h (Nat.le_refl _)
theorem wI {t : Str} (ht : t.length ≤ 4194304) (w : World) : Cal Tryz.prog AR #[sv t] w fun r w' => Ext w w' ∧ ∃ v, r = .tuple #[v, .int .i64 (if rdOk t then -1 else (rdAt t : Int))] ∧ (rdOk t = true → FmW w.heap.size w' v (rd t).1) ∧ (rdOk t = false → v = .slice none 0 0) := by
  apply NI; unfold yJ
  refine bH (cs := #[sv t, .int .i64 0, .bool false]) (by simp [Instr.fill, Value.cells]) ?_
  refine iNew fun b w1 hb h1 hB => ?_
  obtain ⟨e, hB⟩ : ∃ e, Blk e w1 b [sv t, .int .i64 0, .bool false] := ⟨_, hB⟩
  refine iCall ((HZ ht (RdS.new hB)).mono ?_)
  rintro v w2 ⟨h2, hc2, ho2⟩
  rw [← I5] at h2 ho2
  have hX2 : Ext w w2 := h1.thenCh hc2 (fun c hc => by omega)
  have hB2 := h2.place
  have hrl := UT t
  have hlt : decide (((t.length - (rd t).2.1.length : Nat) : Int) < (t.length : Nat)) = !decide ((rd t).2.1 = []) := by
    cases hr : (rd t).2.1 with
    | nil => simp
    | cons x l => rw [hr] at hrl; simp only [List.length_cons] at hrl ⊢; rw [decide_eq_true (by omega)]; rfl
  have hor : rdOk t = !((rd t).2.2 || !decide ((rd t).2.1 = [])) := by unfold rdOk; rw [Bool.not_or, Bool.not_not]
  refine iJnB ((rd t).2.2 || !decide ((rd t).2.1 = [])) w2 (fun J hJ => ?_) (fun w4 h4 => ?_)
  · ((with_reducible refine iNil ?_; refine iFa ?_); refine iLdB (by assumption) (by first | rfl | simp) ?_)
    cases hb2 : (rd t).2.2
    · rw [hb2, Bool.false_or] at hJ
      refine iCndF rfl ?_
      ((with_reducible refine iNil ?_; refine iFa ?_); refine iLdB (by assumption) (by first | rfl | simp) ?_)
      refine iLenT ?_
      ((with_reducible refine iLt ?_))
      rw [hlt]
      exact hJ w2 (Ext.refl _)
    · rw [hb2, Bool.true_or] at hJ
      exact iCndT rfl (hJ w2 (Ext.refl _))
  · intro _
    have hB4 := hB2.ext h4
    cases hk : rdOk t
    · refine iCndT (by show ((rd t).2.2 || !decide ((rd t).2.1 = [])) = true; rw [hk] at hor; rwa [Eq.comm, Bool.not_eq_false'] at hor) ?_
      ((with_reducible refine iNil ?_; refine iFa ?_); refine iLdB (by assumption) (by first | rfl | simp) ?_)
      intro w5 h5
      exact ⟨hX2.trans (h4.trans h5), _, rfl, (fun h => by cases h), fun _ => rfl⟩
    · refine iCndF (by show ((rd t).2.2 || !decide ((rd t).2.1 = [])) = false; rw [hk] at hor; rwa [Eq.comm, Bool.not_eq_true'] at hor) ?_
      exact ⟨hX2.trans h4, v, rfl, fun _ => (ho2.mono h1.size).ext h4, fun h => by cases h⟩
end Go.Proofs.YtcfnoofghbmiiaaGreatDoor

namespace Go.Vc
def small (c : UInt8) : Bool := decide (97 ≤ c.toNat) && decide (c.toNat ≤ 122)
def cQ (t : Str) : Bool := t.all small && (decide (1 ≤ t.length) && decide (t.length ≤ 8))
end Go.Vc

namespace Go.Proofs.YtcfnoofghbmiiaaGreatDoor
open Go.Shelf
def RC : Go.Shelf.Ren := ⟨fun | 219 => 160 | 217 => 193 | 225 => 194 | 224 => 195 | 267 => 196 | 266 => 227 | 314 => 228 | n => n, fun | 9 => 9 | 3 => 3 | 4 => 4 | 5 => 5 | 46 => 115 | 146 => 244 | 51 => 171 | n => n, fun | 1 => 0 | n => n⟩
theorem R9 : Go.Proofs.Lays.n219 Tryz.prog RC := {
  mixed := by kernel_rfl
  f217 := Tryz.func193.trans (congrArg some (by kernel_rfl))
  f219 := Tryz.func160.trans (congrArg some (by kernel_rfl))
  f224 := Tryz.func195.trans (congrArg some (by kernel_rfl))
  f225 := Tryz.func194.trans (congrArg some (by kernel_rfl))
  f266 := Tryz.func227.trans (congrArg some (by kernel_rfl))
  f267 := Tryz.func196.trans (congrArg some (by kernel_rfl))
  f314 := Tryz.func228.trans (congrArg some (by kernel_rfl))
  t3 := Tryz.underlying3
  a3 := Tryz.isAgg3
  z3 := Tryz.sizeOf3
  v3 := Tryz.zeroValue3
  t4 := Tryz.underlying4
  a4 := Tryz.isAgg4
  z4 := Tryz.sizeOf4
  v4 := Tryz.zeroValue4
  t5 := Tryz.underlying5
  a5 := Tryz.isAgg5
  z5 := Tryz.sizeOf5
  v5 := Tryz.zeroValue5
  t9 := Tryz.underlying9
  a9 := Tryz.isAgg9
  z9 := Tryz.sizeOf9
  v9 := Tryz.zeroValue9
  t46 := Tryz.underlying115
  a46 := Tryz.isAgg115
  z46 := Tryz.sizeOf115
  v46 := Tryz.zeroValue115
  t51 := Tryz.underlying171
  a51 := Tryz.isAgg171
  z51 := Tryz.sizeOf171
  v51 := Tryz.zeroValue171
  t146 := Tryz.underlying244
  a146 := Tryz.isAgg244
  z146 := Tryz.sizeOf244
  v146 := Tryz.zeroValue244
  g1 := by kernel_rfl }
def RE : Go.Shelf.Ren := ⟨fun | 213 => 77 | 265 => 133 | n => n, fun | 9 => 9 | 3 => 3 | n => n, fun | n => n⟩
theorem W4 : Go.Proofs.Lays.n213 Tryz.prog RE := {
  mixed := by kernel_rfl
  f213 := Tryz.func77.trans (congrArg some (by kernel_rfl))
  f265 := Tryz.func133.trans (congrArg some (by kernel_rfl))
  t3 := Tryz.underlying3
  a3 := Tryz.isAgg3
  z3 := Tryz.sizeOf3
  v3 := Tryz.zeroValue3
  t9 := Tryz.underlying9
  a9 := Tryz.isAgg9
  z9 := Tryz.sizeOf9
  v9 := Tryz.zeroValue9 }
def RL : Go.Shelf.Ren := ⟨fun | 138 => 162 | 195 => 197 | 218 => 199 | 143 => 163 | 219 => 160 | 217 => 193 | 225 => 194 | 224 => 195 | 267 => 196 | 266 => 227 | 314 => 228 | n => n, fun | 9 => 9 | 3 => 3 | 4 => 4 | 5 => 5 | 0 => 0 | 46 => 115 | 146 => 244 | 51 => 171 | n => n, fun | 1 => 0 | n => n⟩
theorem WB : Go.Proofs.Lays.n138 Tryz.prog RL := {
  mixed := by kernel_rfl
  f138 := Tryz.func162.trans (congrArg some (by kernel_rfl))
  f143 := Tryz.func163.trans (congrArg some (by kernel_rfl))
  f195 := Tryz.func197.trans (congrArg some (by kernel_rfl))
  f217 := Tryz.func193.trans (congrArg some (by kernel_rfl))
  f218 := Tryz.func199.trans (congrArg some (by kernel_rfl))
  f219 := Tryz.func160.trans (congrArg some (by kernel_rfl))
  f224 := Tryz.func195.trans (congrArg some (by kernel_rfl))
  f225 := Tryz.func194.trans (congrArg some (by kernel_rfl))
  f266 := Tryz.func227.trans (congrArg some (by kernel_rfl))
  f267 := Tryz.func196.trans (congrArg some (by kernel_rfl))
  f314 := Tryz.func228.trans (congrArg some (by kernel_rfl))
  t0 := Tryz.underlying0
  a0 := Tryz.isAgg0
  z0 := Tryz.sizeOf0
  v0 := Tryz.zeroValue0
  t3 := Tryz.underlying3
  a3 := Tryz.isAgg3
  z3 := Tryz.sizeOf3
  v3 := Tryz.zeroValue3
  t4 := Tryz.underlying4
  a4 := Tryz.isAgg4
  z4 := Tryz.sizeOf4
  v4 := Tryz.zeroValue4
  t5 := Tryz.underlying5
  a5 := Tryz.isAgg5
  z5 := Tryz.sizeOf5
  v5 := Tryz.zeroValue5
  t9 := Tryz.underlying9
  a9 := Tryz.isAgg9
  z9 := Tryz.sizeOf9
  v9 := Tryz.zeroValue9
  t46 := Tryz.underlying115
  a46 := Tryz.isAgg115
  z46 := Tryz.sizeOf115
  v46 := Tryz.zeroValue115
  t51 := Tryz.underlying171
  a51 := Tryz.isAgg171
  z51 := Tryz.sizeOf171
  v51 := Tryz.zeroValue171
  t146 := Tryz.underlying244
  a146 := Tryz.isAgg244
  z146 := Tryz.sizeOf244
  v146 := Tryz.zeroValue244
  g1 := by kernel_rfl }
def P3 : Go.Shelf.Ren := ⟨fun | 246 => 188 | 283 => 220 | 284 => 221 | 285 => 222 | 286 => 223 | 129 => 132 | 317 => 237 | 318 => 238 | 319 => 239 | 320 => 240 | 337 => 248 | 338 => 249 | n => n, fun | 2 => 2 | 3 => 3 | 9 => 9 | 4 => 4 | 171 => 239 | 0 => 0 | 53 => 82 | 37 => 22 | 5 => 5 | 173 => 241 | 212 => 250 | 51 => 171 | 20 => 20 | 213 => 251 | 46 => 115 | 232 => 262 | 233 => 263 | n => n, fun | 17 => 1 | 18 => 4 | 19 => 5 | n => n⟩
theorem P5 : Go.Proofs.LaysM.n246 Tryz.prog P3 := {
  mixed := by kernel_rfl
  f129 := Tryz.func132.trans (congrArg some (by kernel_rfl))
  f246 := Tryz.func188.trans (congrArg some (by kernel_rfl))
  f283 := Tryz.func220.trans (congrArg some (by kernel_rfl))
  f284 := Tryz.func221.trans (congrArg some (by kernel_rfl))
  f285 := Tryz.func222.trans (congrArg some (by kernel_rfl))
  f286 := Tryz.func223.trans (congrArg some (by kernel_rfl))
  f317 := Tryz.func237.trans (congrArg some (by kernel_rfl))
  f318 := Tryz.func238.trans (congrArg some (by kernel_rfl))
  f319 := Tryz.func239.trans (congrArg some (by kernel_rfl))
  f320 := Tryz.func240.trans (congrArg some (by kernel_rfl))
  f337 := Tryz.func248.trans (congrArg some (by kernel_rfl))
  f338 := Tryz.func249.trans (congrArg some (by kernel_rfl))
  t0 := Tryz.underlying0
  a0 := Tryz.isAgg0
  z0 := Tryz.sizeOf0
  v0 := Tryz.zeroValue0
  t2 := Tryz.underlying2
  a2 := Tryz.isAgg2
  z2 := Tryz.sizeOf2
  v2 := Tryz.zeroValue2
  t3 := Tryz.underlying3
  a3 := Tryz.isAgg3
  z3 := Tryz.sizeOf3
  v3 := Tryz.zeroValue3
  t4 := Tryz.underlying4
  a4 := Tryz.isAgg4
  z4 := Tryz.sizeOf4
  v4 := Tryz.zeroValue4
  t5 := Tryz.underlying5
  a5 := Tryz.isAgg5
  z5 := Tryz.sizeOf5
  v5 := Tryz.zeroValue5
  t9 := Tryz.underlying9
  a9 := Tryz.isAgg9
  z9 := Tryz.sizeOf9
  v9 := Tryz.zeroValue9
  t20 := Tryz.underlying20
  a20 := Tryz.isAgg20
  z20 := Tryz.sizeOf20
  v20 := Tryz.zeroValue20
  t37 := Tryz.underlying22
  a37 := Tryz.isAgg22
  z37 := Tryz.sizeOf22
  v37 := Tryz.zeroValue22
  t46 := Tryz.underlying115
  a46 := Tryz.isAgg115
  z46 := Tryz.sizeOf115
  v46 := Tryz.zeroValue115
  t51 := Tryz.underlying171
  a51 := Tryz.isAgg171
  z51 := Tryz.sizeOf171
  v51 := Tryz.zeroValue171
  t53 := Tryz.underlying82
  a53 := Tryz.isAgg82
  z53 := Tryz.sizeOf82
  v53 := Tryz.zeroValue82
  t171 := Tryz.underlying239
  a171 := Tryz.isAgg239
  z171 := Tryz.sizeOf239
  v171 := Tryz.zeroValue239
  t173 := Tryz.underlying241
  a173 := Tryz.isAgg241
  z173 := Tryz.sizeOf241
  v173 := Tryz.zeroValue241
  t212 := Tryz.underlying250
  a212 := Tryz.isAgg250
  z212 := Tryz.sizeOf250
  v212 := Tryz.zeroValue250
  t213 := Tryz.underlying251
  a213 := Tryz.isAgg251
  z213 := Tryz.sizeOf251
  t232 := Tryz.underlying262
  a232 := Tryz.isAgg262
  z232 := Tryz.sizeOf262
  v232 := Tryz.zeroValue262
  t233 := Tryz.underlying263
  a233 := Tryz.isAgg263
  z233 := Tryz.sizeOf263
  v233 := Tryz.zeroValue263
  g17 := by kernel_rfl
  g18 := by kernel_rfl
  g19 := by kernel_rfl
  i0 := by kernel_rfl
  i2 := by kernel_rfl
  i3 := by kernel_rfl
  i4 := by kernel_rfl
  i5 := by kernel_rfl
  i9 := by kernel_rfl
  i20 := by kernel_rfl
  i37 := by kernel_rfl
  i46 := by kernel_rfl
  i51 := by kernel_rfl
  i53 := by kernel_rfl
  i171 := by kernel_rfl
  i173 := by kernel_rfl
  i212 := by kernel_rfl
  i232 := by kernel_rfl
  i233 := by kernel_rfl
  m17 := by kernel_rfl
  m18 := by kernel_rfl
  m19 := by kernel_rfl }
end Go.Proofs.YtcfnoofghbmiiaaGreatDoor

namespace Go.Vc
open Go.RowKit (Below)
theorem jC (l : Str) (c : UInt8) : ((∀ x ∈ l, x ≠ c) ∧ Lib.indexByte l c = -1) ∨ ∃ a r, l = a ++ c :: r ∧ (∀ x ∈ a, x ≠ c) ∧ Lib.indexByte l c = (a.length : Int) := by
  have hge := Lib.indexByte_ge l c
  rcases Int.lt_or_le (Lib.indexByte l c) 0 with h | h
  · left
    have h1 : Lib.indexByte l c = -1 := by omega
    refine ⟨fun x hx e => ?_, h1⟩
    obtain ⟨k, hk, rfl⟩ := List.getElem_of_mem hx
    exact Lib.indexByte_none h1 k (by rw [List.getElem?_eq_getElem hk, e])
  · right
    obtain ⟨o, ho⟩ := Int.eq_ofNat_of_zero_le h
    obtain ⟨h1, h2⟩ := Lib.indexByte_some ho
    obtain ⟨hol, he⟩ := List.getElem?_eq_some_iff.1 h1
    refine ⟨l.take o, l.drop (o + 1), ?_, fun x hx e => ?_, ?_⟩
    · rw [← he, List.getElem_cons_drop, List.take_append_drop]
    · obtain ⟨k, hk, rfl⟩ := List.getElem_of_mem hx
      rw [List.length_take] at hk
      rw [List.getElem_take] at e
      exact h2 k (by omega) (by rw [List.getElem?_eq_getElem (by omega), e])
    · rw [ho, List.length_take, Nat.min_eq_left (by omega)]
section
variable {P : Program} {w : World}
end
end Go.Vc
namespace Go.Proofs.YtcfnoofghbmiiaaGreatDoor
open Go.Vc
theorem D8 (l : Str) (c : UInt8) (w : World) : Ret Tryz.prog (160) #[sv l, sv [c]] w (.int .i64 (Lib.indexByte l c)) := by
  refine ⟨⟨_, Tryz.func160, by kernel_rfl, by kernel_rfl⟩, ?_⟩
  refine (Any.stringslite_Index_one R9 ⟨l.toArray⟩ c w).mono ?_
  rintro e w' ⟨rfl, rfl⟩
  exact ⟨_, rfl, rfl, Ext.refl _⟩
theorem ID {t : Str} {c : UInt8} (h : ∀ x ∈ t, x ≠ c) (w : World) : Ret Tryz.prog eM #[sv t, sv [c]] w (.tuple #[sv t, sv [], .bool false]) := by
  apply iM; unfold eN
  refine iRet (D8 t c w) fun w1 h1 => ?_
  rcases jC t c with ⟨_, e⟩ | ⟨a, r, rfl, _, _⟩
  · rw [e]
    ((with_reducible refine iLe ?_))
    exact iCndF rfl ⟨rfl, h1⟩
  · exact absurd rfl (h c (by simp))
theorem KJ {a r : Str} {c : UInt8} (h : ∀ x ∈ a, x ≠ c) (hl : (a ++ c :: r).length ≤ 1099511627776) (w : World) : Ret Tryz.prog eM #[sv (a ++ c :: r), sv [c]] w (.tuple #[sv a, sv r, .bool true]) := by
  apply iM; unfold eN
  refine iRet (D8 _ c w) fun w1 h1 => ?_
  have key : Lib.indexByte (a ++ c :: r) c = (a.length : Int) := by
    rcases jC (a ++ c :: r) c with ⟨h2, _⟩ | ⟨a', r', e, h2, h3⟩
    · exact absurd rfl (h2 c (by simp))
    · rw [h3]
      have : a'.length = a.length := by
        apply Classical.byContradiction
        intro hne
        rcases Nat.lt_or_ge a'.length a.length with hlt | hge
        · have e1 := congrArg (fun l : Str => l[a'.length]?) e
          simp only [List.getElem?_append_left hlt] at e1
          rw [List.getElem?_append_right (Nat.le_refl _), Nat.sub_self] at e1
          exact h c (List.mem_of_getElem? e1) rfl
        · have hlt : a.length < a'.length := by omega
          have e1 := congrArg (fun l : Str => l[a.length]?) e
          simp only [List.getElem?_append_left hlt] at e1
          rw [List.getElem?_append_right (Nat.le_refl _), Nat.sub_self] at e1
          exact h2 c (List.mem_of_getElem? e1.symm) rfl
      rw [this]
  rw [key]
  rw [List.length_append, List.length_cons] at hl
  ((with_reducible refine iLe ?_))
  refine iCndT (by simp) ?_
  refine iTxTo (by simp) ?_
  refine iLenT ?_
  have e1 : (a.length : Int) + (([c] : Str).length : Nat) = ((a.length + 1 : Nat) : Int) := by simp
  refine iAdd (by rw [e1]; omega) ?_
  rw [e1]
  refine sF (by simp) ?_
  intro w2 h2
  refine ⟨?_, h1.trans h2⟩
  simp
theorem DO {t : Str} {c : UInt8} (h : ∀ x ∈ t, x ≠ c) (w : World) : Ret Tryz.prog qS #[sv t, sv [c]] w (.tuple #[sv t, sv [], .bool false]) := by
  apply CO; unfold qR
  refine iRet (ID h w) fun w1 h1 => ?_
  ((with_reducible refine iE30 ?_; refine iE31 ?_; refine iE32 ?_))
  exact ⟨rfl, h1⟩
theorem FE {a r : Str} {c : UInt8} (h : ∀ x ∈ a, x ≠ c) (hl : (a ++ c :: r).length ≤ 1099511627776) (w : World) : Ret Tryz.prog qS #[sv (a ++ c :: r), sv [c]] w (.tuple #[sv a, sv r, .bool true]) := by
  apply CO; unfold qR
  refine iRet (KJ h hl w) fun w1 h1 => ?_
  ((with_reducible refine iE30 ?_; refine iE31 ?_; refine iE32 ?_))
  exact ⟨rfl, h1⟩
end Go.Proofs.YtcfnoofghbmiiaaGreatDoor

namespace Go.Vc
open Go.RowKit (Below)
theorem sO {l : Str} {i : Nat} (h : i < l.length) : l.getD i 0 = l[i] := by simp [List.getD_eq_getElem?_getD, h]
def smLen (l : Str) : Nat := (l.takeWhile small).length
theorem IT {l : Str} {k : Nat} (hk : k < l.length) (h : ∀ i, i < k → small (l.getD i 0) = true) (hn : small (l.getD k 0) = false) : smLen l = k ∧ l.all small = false := by
  induction l generalizing k with
  | nil => simp at hk
  | cons x l ih =>
    cases k with
    | zero =>
      have hn : small x = false := hn
      simp [smLen, hn]
    | succ k =>
      have hx : small x = true := h 0 (by omega)
      have := ih (k := k) (by simpa using hk) (fun i hi => by simpa using h (i + 1) (by omega)) (by simpa using hn)
      constructor
      · have h1 := this.1
        simp only [smLen] at h1 ⊢
        rw [List.takeWhile_cons, if_pos hx, List.length_cons, h1]
      · rw [List.all_cons, hx, this.2]; rfl
theorem OA {l : Str} (h : ∀ i, i < l.length → small (l.getD i 0) = true) : smLen l = l.length ∧ l.all small = true := by
  have h1 : l.all small = true := by
    rw [List.all_eq_true]
    intro x hx
    obtain ⟨i, hi, rfl⟩ := List.getElem_of_mem hx
    have := h i hi
    rwa [sO hi] at this
  refine ⟨?_, h1⟩
  unfold smLen
  have : l.takeWhile small = l := by
    clear h
    induction l with
    | nil => rfl
    | cons x l ih =>
      simp only [List.all_cons, Bool.and_eq_true] at h1
      rw [List.takeWhile_cons, if_pos h1.1, ih h1.2]
  rw [this]
def nsIdx (l : Str) : Int := if l.all small then -1 else (smLen l : Int)
theorem NM {c : UInt8} : (decide (((c.toNat : Nat) : Int) < 97) || decide ((122 : Int) < ((c.toNat : Nat) : Int))) = !small c := by
  unfold small
  rw [Bool.not_and, Bool.or_comm, Bool.or_comm (!_)]
  by_cases h1 : c.toNat < 97
  · rw [decide_eq_true (show ((c.toNat : Nat) : Int) < 97 by omega), decide_eq_false (show ¬ 97 ≤ c.toNat by omega)]; simp
  · rw [decide_eq_false (show ¬ ((c.toNat : Nat) : Int) < 97 by omega), decide_eq_true (show 97 ≤ c.toNat by omega)]
    by_cases h2 : 122 < c.toNat
    · rw [decide_eq_true (show (122 : Int) < ((c.toNat : Nat) : Int) by omega), decide_eq_false (show ¬ c.toNat ≤ 122 by omega)]; rfl
    · rw [decide_eq_false (show ¬ (122 : Int) < ((c.toNat : Nat) : Int) by omega), decide_eq_true (show c.toNat ≤ 122 by omega)]; rfl
end Go.Vc
namespace Go.Proofs.YtcfnoofghbmiiaaGreatDoor
open Go.Vc
theorem PU {fv : Value} (hf : ∀ (c : Nat) (w : World), c ≤ 2147483647 → callV Tryz.prog fv [.int .i32 (c : Int)] w fun v w' => v = .bool (decide ((c : Int) < 97) || decide ((122 : Int) < (c : Int))) ∧ Ext w w') {l : Str} (w : World) :
    Ret Tryz.prog n9 #[sv l, fv, .bool true] w (.int .i64 (nsIdx l)) := by
  apply DD; unfold oS
  refine U1 (by kernel_rfl) fun b w1 hb h1 hI => ?_
  refine iLp (fun _ : Nat => []) (fun i w' => i ≤ l.length ∧ Ext w w' ∧ It w' b l i ∧ ∀ k, k < i → small (l.getD k 0) = true) (fun i => l.length - i) 0 rfl ⟨Nat.zero_le _, h1, hI, fun k hk => by omega⟩ ?_
  rintro i w3 Kn ⟨hi, h3, hI3, hs⟩ hKn
  intro _
  by_cases hlt : i < l.length
  · refine UB hI3 hlt fun c d w4 hd hlow hhigh hc2 hu hI4 => ?_
    have h4 : Ext w w4 := h3.upd hu (by omega)
    ((with_reducible refine iE30 ?_))
    refine iCndT rfl ?_
    ((with_reducible refine iE31 ?_; refine iE32 ?_))
    refine (hf c w4 hc2).mono ?_
    rintro _ w5 ⟨rfl, h5⟩
    refine ⟨_, _, rfl, rfl, ?_⟩
    rcases Nat.lt_or_ge (l.getD i 0).toNat 128 with hb1 | hb1
    · obtain ⟨rfl, rfl⟩ := hlow hb1
      rw [NM]
      cases hsm : small (l.getD i 0)
      · refine iCndT rfl ?_
        have := IT hlt hs hsm
        refine ⟨?_, h4.trans h5⟩
        unfold nsIdx
        rw [this.2, if_neg (by decide), this.1]
      · refine iCndF rfl ?_
        refine hKn (i + 1) _ ⟨by omega, h4.trans h5, hI4.ext h5, fun k hk => ?_⟩ (by omega)
        by_cases hki : k = i
        · rw [hki]; exact hsm
        · exact hs k (by omega)
    · have hcge := hhigh hb1
      rw [show decide ((122 : Int) < (c : Int)) = true by rw [decide_eq_true_eq]; omega, Bool.or_true]
      refine iCndT rfl ?_
      have hsm : small (l.getD i 0) = false := by unfold small; rw [decide_eq_false (show ¬ (l.getD i 0).toNat ≤ 122 by omega), Bool.and_false]
      have := IT hlt hs hsm
      refine ⟨?_, h4.trans h5⟩
      unfold nsIdx
      rw [this.2, if_neg (by decide), this.1]
  · have e : i = l.length := by omega
    subst e
    refine T5 hI3 (Nat.le_refl _) ?_
    refine iEx (by rfl) ?_
    refine iCndF rfl ?_
    refine ⟨?_, h3⟩
    unfold nsIdx
    rw [(OA hs).2, if_pos rfl]
theorem PP {fv : Value} (hf : ∀ (c : Nat) (w : World), c ≤ 2147483647 → callV Tryz.prog fv [.int .i32 (c : Int)] w fun v w' => v = .bool (decide ((c : Int) < 97) || decide ((122 : Int) < (c : Int))) ∧ Ext w w') {l : Str} (w : World) :
    Ret Tryz.prog n8 #[sv l, fv] w (.int .i64 (nsIdx l)) := by
  apply DU; unfold oK
  exact iRet (PU hf w) fun w1 h1 => ⟨rfl, h1⟩
theorem uM {fv : Value} (hf : ∀ (c : Nat) (w : World), c ≤ 2147483647 → callV Tryz.prog fv [.int .i32 (c : Int)] w fun v w' => v = .bool (decide ((c : Int) < 97) || decide ((122 : Int) < (c : Int))) ∧ Ext w w') {l : Str} (w : World) :
    Ret Tryz.prog lT #[sv l, fv] w (.bool !(l.all small)) := by
  apply xV; unfold lO
  refine iRet (PP hf w) fun w1 h1 => ?_
  ((with_reducible refine iLe ?_))
  refine ⟨?_, h1⟩
  unfold nsIdx
  cases l.all small
  · rw [if_neg (by decide)]; simp
  · rw [if_pos rfl]; rfl
theorem HO (c : Nat) (w : World) (_hc : c ≤ 2147483647) : callV Tryz.prog (.func (.func nB) #[] #[]) [.int .i32 (c : Int)] w fun v w' => v = .bool (decide ((c : Int) < 97) || decide ((122 : Int) < (c : Int))) ∧ Ext w w' := by
  refine iCall ?_
  show Cal Tryz.prog nB #[.int .i32 (c : Int)] w _
  apply KA; unfold wM
  refine iJnB (decide ((c : Int) < 97) || decide ((122 : Int) < (c : Int))) w (fun J hJ => ?_) (fun w2 h2 => ?_)
  · ((with_reducible refine iLt ?_))
    refine iCndP (fun h => ?_) (fun h => ?_)
    · rw [decide_eq_true h, Bool.true_or] at hJ
      exact hJ w (Ext.refl _)
    · rw [decide_eq_false h, Bool.false_or] at hJ
      ((with_reducible refine iLt ?_))
      exact hJ w (Ext.refl _)
  · intro _
    exact ⟨rfl, h2⟩
theorem y0 {t : Str} (ht : t.length ≤ 1099511627776) (w : World) : Ret Tryz.prog CU #[sv t] w (.bool (cQ t)) := by
  apply O6; unfold CV
  refine iJnB (cQ t) w (fun J hJ => ?_) (fun w2 h2 => fun _ => ⟨rfl, h2⟩)
  unfold cQ at hJ
  refine iLenT ?_
  ((with_reducible refine iLe ?_))
  refine iCndP (fun h1 => ?_) (fun h1 => ?_)
  · refine iLenT ?_
    ((with_reducible refine iLe ?_))
    refine iCndP (fun h2 => ?_) (fun h2 => ?_)
    · refine iRet (uM HO w) fun w3 h3 => ?_
      ((with_reducible refine iNot ?_))
      rw [decide_eq_true (show 1 ≤ t.length by omega), decide_eq_true (show t.length ≤ 8 by omega), Bool.and_true, Bool.and_true] at hJ
      rw [Bool.not_not]
      exact hJ w3 h3
    · rw [decide_eq_false (show ¬ t.length ≤ 8 by omega), Bool.and_false, Bool.and_false] at hJ
      exact hJ w (Ext.refl _)
  · rw [decide_eq_false (show ¬ 1 ≤ t.length by omega), Bool.false_and, Bool.and_false] at hJ
    exact hJ w (Ext.refl _)
theorem LD {t : Str} (ht : t.length ≤ 1099511627776) (w : World) : Ret Tryz.prog zB #[sv t] w (.bool (cQ t)) := by
  apply MJ; unfold AM
  refine iLp (fun i : Nat => [.int .i64 (i : Int)]) (fun i w' => i ≤ t.length ∧ Ext w w' ∧ ∀ k, k < i → small (t.getD k 0) = true) (fun i => t.length - i) 0 rfl ⟨Nat.zero_le _, Ext.refl _, fun k hk => by omega⟩ ?_
  rintro i w2 Kn ⟨hi, h2, hs⟩ hKn
  (intro _; (try simp only [gx]))
  refine iLenT ?_
  ((with_reducible refine iLt ?_))
  refine iCndP (fun h3 => ?_) (fun h3 => ?_)
  · have hlt : i < t.length := by omega
    refine iJnB (!small (t.getD i 0)) w2 (fun J hJ => ?_) (fun w4 h4 => ?_)
    · rw [← NM] at hJ
      refine iIs hlt ?_
      ((with_reducible refine iLt ?_))
      refine iCndP (fun h => ?_) (fun h => ?_)
      · rw [decide_eq_true h, Bool.true_or] at hJ
        exact hJ w2 (Ext.refl _)
      · rw [decide_eq_false h, Bool.false_or] at hJ
        refine iIs hlt ?_
        ((with_reducible refine iLt ?_))
        exact hJ w2 (Ext.refl _)
    · intro _
      cases hsm : small (t.getD i 0)
      · refine iCndT rfl ⟨?_, h2.trans h4⟩
        unfold cQ
        rw [(IT hlt hs hsm).2, Bool.false_and]
      · refine iCndF rfl ?_
        (refine iAdd (by omega) ?_)
        refine hKn (i + 1) _ ⟨by omega, h2.trans h4, fun k hk => ?_⟩ (by omega)
        by_cases hki : k = i
        · rw [hki]; exact hsm
        · exact hs k (by omega)
  · have e : i = t.length := by omega
    subst e
    have hall := (OA hs).2
    refine iJnB (cQ t) w2 (fun J hJ => ?_) (fun w4 h4 => fun _ => ⟨rfl, h2.trans h4⟩)
    unfold cQ at hJ
    rw [hall, Bool.true_and] at hJ
    refine iLenT ?_
    ((with_reducible refine iLe ?_))
    refine iCndP (fun h => ?_) (fun h => ?_)
    · rw [decide_eq_true (show 1 ≤ t.length by omega), Bool.true_and] at hJ
      refine iLenT ?_
      ((with_reducible refine iLe ?_))
      rw [show decide (((t.length : Nat) : Int) ≤ 8) = decide (t.length ≤ 8) from decide_eq_decide.2 (by omega)]
      exact hJ w2 (Ext.refl _)
    · rw [decide_eq_false (show ¬ 1 ≤ t.length by omega), Bool.false_and] at hJ
      exact hJ w2 (Ext.refl _)
end Go.Proofs.YtcfnoofghbmiiaaGreatDoor

namespace Go.Vc
/-! ### Rows of strings -/
def strs (L : List Str) : List Value := L.map sv
theorem bF (L : List Str) : (strs L).length = L.length := List.length_map _
theorem D0 (L : List Str) (s : Str) : strs L ++ [sv s] = strs (L ++ [s]) := by simp [strs]
abbrev SlT (w : World) (v : Value) (L : List Str) : Prop := Sl w v (strs L)
theorem iIaT {w : World} {v : Value} {L : List Str} {j : Nat} {k : IntKind} {K : Value → Prop} (hs : SlT w v L) (hj : j < L.length) (h : ∀ p, w.cell? p = some (sv L[j]) → K (.pointer (some p))) : xIa 1 v (.int k (j : Int)) K := by
  refine iIa hs (by omega) (by rw [bF]; omega) fun p hp => h p (hp.trans ?_)
  rw [Int.toNat_natCast]
  simp [strs, hj]
theorem bO {w : World} {v : Value} {L : List Str} {K : Value → Prop} (hs : SlT w v L) (h : K (.int .i64 (L.length : Nat))) : xLenS v K := iLenS hs (by rw [bF]; exact h)
theorem D9 (L : List Str) : ∀ u ∈ strs L, aC u = true := by
  intro u hu
  obtain ⟨s, _, rfl⟩ := List.mem_map.1 hu
  rfl
end Go.Vc
namespace Go.Proofs.YtcfnoofghbmiiaaGreatDoor
open Go.Vc
end Go.Proofs.YtcfnoofghbmiiaaGreatDoor

namespace Go.Vc
theorem iBsC {w : World} {e : TypeId} {z : Value} {n : Nat} {ps : List (Nat × Value)} {K : Value → World → Prop} (L : List Str) (hf : Instr.fill (fun i => some (i * 1, 1)) ((Array.range (n * 1)).map (fun i => (Value.cells z)[i % (Value.cells z).size]!)) ps = some (strs L).toArray) 
    (h : ∀ b w', b = w.heap.size → Ext w w' → Blk e w' b (strs L) → K (.slice (some ⟨b, 0, none⟩) n n) w') : xBs e (Value.cells z) 1 n ps w K :=
  ⟨_, hf, h _ _ rfl (Ext.alloc w _) (Blk.new w (strs L).toArray e)⟩
theorem Blk.slt {w : World} {e : TypeId} {b n : Nat} {L : List Str} (h : Blk e w b (strs L)) (hn : L.length = n) (hm : n ≤ 1000) : SlT w (.slice (some ⟨b, 0, none⟩) n n) L := Sl.ofBlk (n := n) h (by rw [bF, hn]) (by omega)
end Go.Vc
namespace Go.Proofs.YtcfnoofghbmiiaaGreatDoor
open Go.Vc
theorem FmW.raw {lo : Nat} {w : World} {v : Value} {f : Fm} (h : FmW lo w v f) : RawW lo aF w v (rawF f) := by
  show OwK 2 _ _ _ _ (rawF f).length (a8 (rawF f))
  rw [b6, dT]; exact h
theorem FmW.ofRaw {lo : Nat} {w : World} {v : Value} {f : Fm} (h : RawW lo aF w v (rawF f)) : FmW lo w v f := by
  have h : OwK 2 _ _ _ _ (rawF f).length (a8 (rawF f)) := h
  rwa [b6, dT] at h
theorem MH {e : TypeId} (hneN : aF ≠ e) {w0 : World} {vc : Value} {bs : List Nat} (hc : SlB w0 vc bs) {b k : Nat} (hk : 1 ≤ k ∧ k ≤ 6) (m : Bool) {n : Nat} (hn : 1 ≤ n ∧ n ≤ 100) {w : World} (hS : Vc.Src e w0 vc b w) :
    Drw Tryz.prog C9 #[.pointer (some ⟨b, 0, none⟩), .int .i64 (n : Int), .int .i64 (k : Int), .bool m] e w0 vc b w fun r w' => ∃ N : List RN, N.length ≤ 200 ∧ RawW w.heap.size aF w' r N := by
  apply OQ; unfold CK
  refine iCall ((m6 hneN hc hk m n hS hn.1 (by omega)).mono ?_)
  rintro v w1 ⟨⟨f, gf, sf, hf⟩, hS1, hch1⟩
  refine iCall ((aD hc hS1 40).mono ?_)
  rintro _ w2 ⟨⟨x, rfl, _, _⟩, hS2, hch2⟩
  have hf2 := OwK.src hf hS1 hneN hch2
  have hC2 := aB hch1 hch2
  refine iEq (iCndP (fun _ => ?_) (fun _ => ?_))
  · have hr := FmW.raw hf2
    have hpos : 1 ≤ f.size := by have := f.size_kids; omega
    refine iCall ((JZ hneN hc hS2 hr.sl ⟨by rw [b6]; exact hpos, by rw [b6]; omega⟩).mono ?_)
    rintro u w3 ⟨⟨M, hM, hu⟩, hS3, hch3⟩
    rw [b6] at hM
    exact ⟨⟨M, by omega, OwK.mono hu hC2.size⟩, hS3, aB hC2 hch3⟩
  refine iEq (iCndP (fun _ => ?_) (fun _ => ?_))
  · refine iLp (fun s : Value × Nat => [s.1]) (fun s w' => Vc.Src e w0 vc b w' ∧ Ch (fun c => c = b) w w' ∧ s.2 ≤ 200 ∧ ∃ f : Fm, f.good ∧ f.size = s.2 ∧ FmW w.heap.size w' s.1 f) (fun s => 200 - s.2) (v, f.size) rfl ⟨hS2, hC2, by show f.size ≤ 200; omega, f, gf, rfl, hf2⟩ ?_
    rintro ⟨u, z⟩ w5 Kn ⟨hS5, hC5, hz, a, ga, sa, ha⟩ hKn
    have sa : a.size = z := sa
    have hz : z ≤ 200 := hz
    have ha : FmW w.heap.size w5 u a := ha
    intro _
    refine iJnX (fun xs w' => (∃ t, xs = [.bool t] ∧ (t = true → z ≤ 40)) ∧ Vc.Src e w0 vc b w' ∧ Ch (fun c => c = b) w w' ∧ FmW w.heap.size w' u a) (fun J hJ => ?_) ?_
    · refine iLenK ha.sl ?_
      refine iLe (iCndP (fun h => ?_) (fun h => ?_))
      · refine iCall ((aD hc hS5 60).mono ?_)
        rintro _ w8 ⟨⟨y, rfl, _, _⟩, hS8, hch8⟩
        refine iLt ?_
        exact hJ _ _ ⟨⟨_, rfl, fun _ => by omega⟩, hS8, aB hC5 hch8, OwK.src ha hS5 hneN hch8⟩
      · exact hJ _ _ ⟨⟨false, rfl, fun h => by cases h⟩, hS5, hC5, ha⟩
    rintro _ w7 ⟨⟨t, rfl, ht⟩, hS7, hC7, ha7⟩
    intro _
    cases t with
    | false => exact iCndF rfl ⟨⟨rawF a, by rw [b6]; omega, FmW.raw ha7⟩, hS7, hC7⟩
    | true =>
      have ht := ht rfl
      refine iCndT rfl ?_
      refine iCall ((aD hc hS7 3).mono ?_)
      rintro _ w9 ⟨⟨q, rfl, hq, _⟩, hS9, hch9⟩
      have hq := hq (by omega)
      have hC9 := aB hC7 hch9
      have ha9 := OwK.src ha7 hS7 hneN hch9
      refine iAdd (by omega) ?_
      rw [show (2 : Int) + (q : Int) = ((2 + q : Nat) : Int) by omega]
      refine iCall ((m6 hneN hc hk m 6 hS9 (by omega) (by omega)).mono ?_)
      rintro u2 w10 ⟨⟨a2, ga2, sa2, ha2⟩, hS10, hch10⟩
      have hC10 := aB hC9 hch10
      have ha10 := OwK.src ha9 hS9 hneN hch10
      refine iCall ((bK (c := binF q a a2) (LJ (by omega) a a2) (mV q a a2) ha10.sl ha2.sl (by rw [mV]; omega)).mono ?_)
      rintro r w11 ⟨x11, hr⟩
      have hsz := mV q a a2
      exact hKn (r, (binF q a a2).size) _ ⟨hS10.later x11, aO hC10 x11, by show (binF q a a2).size ≤ 200; omega, binF q a a2, N7 q ga ga2, rfl, OwK.mono hr hC10.size⟩ (by show 200 - (binF q a a2).size < 200 - z; omega)
  · exact ⟨⟨rawF f, by rw [b6]; omega, FmW.raw hf2⟩, hS2, hC2⟩
theorem HG {e : TypeId} (hneN : aF ≠ e) {w0 : World} {vc : Value} {bs : List Nat} (hc : SlB w0 vc bs) {b k : Nat} (hk : 1 ≤ k ∧ k ≤ 6) {n : Nat} (hn : 1 ≤ n ∧ n ≤ 100) {w : World} (hS : Vc.Src e w0 vc b w) :
    Drw Tryz.prog wX #[.pointer (some ⟨b, 0, none⟩), .int .i64 (n : Int), .int .i64 (k : Int)] e w0 vc b w fun r w' => ∃ N : List RN, N.length ≤ 200 ∧ RawW w.heap.size aF w' r N := by
  apply JN; unfold vN
  refine iCall ((aD hc hS 30).mono ?_)
  rintro _ w1 ⟨⟨x, rfl, _, _⟩, hS1, hch1⟩
  refine iEq ?_
  refine iCall ((MH hneN hc hk _ hn hS1).mono ?_)
  rintro u w2 ⟨⟨N, hN, hu⟩, hS2, hch2⟩
  exact ⟨⟨N, hN, OwK.mono hu hch1.size⟩, hS2, aB hch1 hch2⟩
def jT : List Str := [[112, 124, 126, 112], [126, 126, 112, 62, 112], [40, 40, 112, 62, 113, 41, 62, 112, 41, 62, 112], [126, 126, 40, 112, 124, 126, 112, 41], [40, 112, 62, 113, 41, 124, 40, 113, 62, 112, 41], [126, 40, 112, 38, 113, 41, 62, 126, 112, 124, 126, 113], [126, 112, 124, 126, 126, 112], [112, 62, 126, 126, 112], [40, 112, 62, 113, 41, 62, 126, 113, 62, 126, 112], [126, 126, 40, 112, 62, 113, 41, 62, 126, 126, 112, 62, 126, 126, 113], [40, 126, 112, 62, 113, 124, 114, 41, 62, 40, 126, 112, 62, 113, 41, 124, 40, 126, 112, 62, 114, 41], [112, 38, 40, 113, 124, 114, 41, 62, 112, 38, 113, 124, 112, 38, 114]]
theorem H2 {e : TypeId} (hneN : aF ≠ e) {w0 : World} {vc : Value} {bs : List Nat} (hc : SlB w0 vc bs) {b : Nat} {n : Nat} (hn : 1 ≤ n ∧ n ≤ 100) {w : World} (hS : Vc.Src e w0 vc b w) :
    Drw Tryz.prog wH #[.pointer (some ⟨b, 0, none⟩), .int .i64 (n : Int)] e w0 vc b w fun r w' => ∃ N : List RN, N.length ≤ 1000 ∧ RawW w.heap.size aF w' r N := by
  apply LH; unfold vM
  refine iBsC jT (by kernel_rfl) fun q w1 hq x1 hT => ?_
  have hS1 := hS.later x1
  have hC1 : Ch (fun c => c = b) w w1 := x1.ch (S := fun c => c = b)
  have hqb : ¬ q = b := by have := hS.lt; omega
  refine iCall ((aD hc hS1 4).mono ?_)
  rintro _ w2 ⟨⟨x, rfl, _, _⟩, hS2, hch2⟩
  have hC2 := aB hC1 hch2
  refine iEq (iCndP (fun _ => ?_) (fun _ => ?_))
  · have hT2 := hT.ch hch2 hqb
    refine bO (hT2.slt (n := 12) rfl (by decide)) ?_
    refine iCall ((aD hc hS2 _).mono ?_)
    rintro _ w3 ⟨⟨y, rfl, hy, _⟩, hS3, hch3⟩
    have hy := hy (by decide)
    have hyl : y < jT.length := by omega
    have hC3 := aB hC2 hch3
    refine iIaT ((hT2.ch hch3 hqb).slt (n := 12) rfl (by decide)) hyl fun p hp => ?_
    refine iLd hp ?_
    have hlen : (jT[y]).length ≤ 100 := (show ∀ t ∈ jT, t.length ≤ 100 by decide) _ (List.getElem_mem hyl)
    refine iCall ((wI (t := jT[y]) (by omega) w3).mono ?_)
    rintro _ w4 ⟨x4, v, rfl, hv1, hv2⟩
    refine iE20 (iE21 ?_)
    refine ⟨?_, hS3.later x4, aO hC3 x4⟩
    cases hr : rdOk jT[y] with
    | true =>
      have := WK jT[y]
      exact ⟨rawF (rd jT[y]).1, by rw [b6]; omega, FmW.raw (OwK.mono (hv1 hr) hC3.size)⟩
    | false =>
      rw [hv2 hr]
      exact ⟨[], by decide, OwK.nil _ _ _ _⟩
  · refine iCall ((HG hneN hc (k := 3) (by decide) hn hS2).mono ?_)
    rintro u w5 ⟨⟨N, hN, hu⟩, hS5, hch5⟩
    exact ⟨⟨N, by omega, OwK.mono hu hC2.size⟩, hS5, aB hC2 hch5⟩
end Go.Proofs.YtcfnoofghbmiiaaGreatDoor

namespace Go.Vc
open Go.RowKit (Below)
end Go.Vc
namespace Go.Proofs.YtcfnoofghbmiiaaGreatDoor
open Go.Vc
end Go.Proofs.YtcfnoofghbmiiaaGreatDoor

namespace Go.Vc
universe u
section
variable {α : Type u} [Inhabited α]
def gt (L : List α) (k : Nat) : α := L.getD k default
theorem gt_eq {L : List α} {k : Nat} (h : k < L.length) : gt L k = L[k] := by unfold gt; simp [List.getD_eq_getElem?_getD, h]
theorem KF {L : List α} {i : Nat} (x : α) (hi : i < L.length) (k : Nat) : gt (L.set i x) k = if k = i then x else gt L k := by
  unfold gt
  simp only [List.getD_eq_getElem?_getD, List.getElem?_set]
  by_cases h : i = k
  · subst h; simp [hi]
  · simp [h, Ne.symm h]
def sw (L : List α) (i j : Nat) : List α := (L.set i (gt L j)).set j (gt L i)
theorem YE (L : List α) (i j : Nat) : (sw L i j).length = L.length := by simp [sw]
theorem gt_sw {L : List α} {i j : Nat} (hi : i < L.length) (hj : j < L.length) (k : Nat) : gt (sw L i j) k = if k = j then gt L i else if k = i then gt L j else gt L k := by
  unfold sw
  rw [KF _ (by simpa using hj), KF _ hi]
theorem W3 {L : List α} {i j : Nat} (hi : i < L.length) (hj : j < L.length) : List.Perm (sw L i j) L := by
  unfold sw
  rw [gt_eq hi, gt_eq hj]
  exact List.set_set_perm hi hj
inductive SwR (a b : Nat) (L : List α) : List α → Prop
  | refl : SwR a b L L
  | step {L' : List α} {i j : Nat} : SwR a b L L' → a ≤ i → i < b → a ≤ j → j < b → b ≤ L.length → SwR a b L (sw L' i j)
theorem SwR.len {a b : Nat} {L L' : List α} (h : SwR a b L L') : L'.length = L.length := by
  induction h with
  | refl => rfl
  | step _ _ _ _ _ _ ih => rw [YE, ih]
theorem SwR.perm {a b : Nat} {L L' : List α} (h : SwR a b L L') : List.Perm L' L := by
  induction h with
  | refl => exact List.Perm.refl _
  | step hs _ _ _ _ _ ih => exact (W3 (by rw [hs.len]; omega) (by rw [hs.len]; omega)).trans ih
theorem SwR.trans {a b : Nat} {L L' L'' : List α} (h : SwR a b L L') (k : SwR a b L' L'') : SwR a b L L'' := by
  induction k with
  | refl => exact h
  | step _ h1 h2 h3 h4 h5 ih => exact .step ih h1 h2 h3 h4 (by rw [← h.len]; exact h5)
theorem SwR.mono {a b a' b' : Nat} {L L' : List α} (h : SwR a b L L') (ha : a' ≤ a) (hb : b ≤ b') (hl : b' ≤ L.length) : SwR a' b' L L' := by
  induction h with
  | refl => exact .refl
  | step _ h1 h2 h3 h4 _ ih => exact .step ih (by omega) (by omega) (by omega) (by omega) hl
theorem SwR.out {a b : Nat} {L L' : List α} (h : SwR a b L L') {k : Nat} (hk : k < a ∨ b ≤ k) : gt L' k = gt L k := by
  induction h with
  | refl => rfl
  | step hs h1 h2 h3 h4 h5 ih => rw [gt_sw (by rw [hs.len]; omega) (by rw [hs.len]; omega), if_neg (by omega), if_neg (by omega), ih]
theorem SwR.all {a b : Nat} {L L' : List α} (h : SwR a b L L') {p : α → Prop} (hp : ∀ k, a ≤ k → k < b → p (gt L k)) : ∀ k, a ≤ k → k < b → p (gt L' k) := by
  induction h with
  | refl => exact hp
  | step hs h1 h2 h3 h4 h5 ih =>
    intro k hk hk'
    rw [gt_sw (by rw [hs.len]; omega) (by rw [hs.len]; omega)]
    split
    · exact ih _ h1 h2
    · split
      · exact ih _ h3 h4
      · exact ih _ hk hk'
theorem SwR.one {a b i j : Nat} {L : List α} (h1 : a ≤ i) (h2 : i < b) (h3 : a ≤ j) (h4 : j < b) (h5 : b ≤ L.length) : SwR a b L (sw L i j) := .step .refl h1 h2 h3 h4 h5
structure Ordr (lt : α → α → Bool) : Prop where
  asym : ∀ {a b}, lt a b = true → lt b a = false
  tr : ∀ {a b c}, lt b a = false → lt c b = false → lt c a = false
variable {lt : α → α → Bool}
 omit [Inhabited α] in
theorem Ordr.rfl (O : Ordr lt) (a : α) : lt a a = false := by
  cases h : lt a a
  · exact Eq.refl _
  · have := O.asym h; rw [h] at this; exact this
 omit [Inhabited α] in
theorem Ordr.lt_le (O : Ordr lt) {a b c : α} (h : lt a b = true) (k : lt c b = false) : lt a c = true := by
  cases h' : lt a c
  · have := O.tr (a := b) (b := c) (c := a) k h'; rw [h] at this; cases this
  · exact Eq.refl _
 omit [Inhabited α] in
def Srt (lt : α → α → Bool) (a b : Nat) (L : List α) : Prop := ∀ p q, a ≤ p → p < q → q < b → lt (gt L q) (gt L p) = false
theorem Srt.mono {a b a' b' : Nat} {L : List α} (h : Srt lt a b L) (ha : a ≤ a') (hb : b' ≤ b) : Srt lt a' b' L := fun p q h1 h2 h3 => h p q (by omega) h2 (by omega)
theorem Srt.short {a b : Nat} {L : List α} (h : b ≤ a + 1) : Srt lt a b L := fun p q h1 h2 h3 => by omega
theorem Srt.out {a b c d : Nat} {L L' : List α} (h : Srt lt a b L) (hs : SwR c d L L') (hd : d ≤ a ∨ b ≤ c) : Srt lt a b L' := fun p q h1 h2 h3 => by
  rw [hs.out (by omega), hs.out (by omega)]; exact h p q h1 h2 h3
/-! ### Insertion -/
def Ins (lt : α → α → Bool) (a i j : Nat) (L : List α) : Prop := ∀ p q, a ≤ p → p < q → q ≤ i → q ≠ j → lt (gt L q) (gt L p) = false
theorem Ins.init {a i : Nat} {L : List α} (h : Srt lt a i L) : Ins lt a i i L := fun p q h1 h2 h3 h4 => h p q h1 h2 (by omega)
theorem Ins.done (O : Ordr lt) {a i j : Nat} {L : List α} (h : Ins lt a i j L) (hj : j ≤ a ∨ (a < j ∧ lt (gt L j) (gt L (j - 1)) = false)) (hji : j ≤ i) : Srt lt a (i + 1) L := fun p q h1 h2 h3 => by
  by_cases hq : q = j
  · subst hq
    rcases hj with hj | ⟨h4, h5⟩
    · omega
    · by_cases hp : p = q - 1
      · subst hp; exact h5
      · exact O.tr (h p (q - 1) h1 (by omega) (by omega) (by omega)) h5
  · exact h p q h1 h2 (by omega) hq
theorem Ins.swap (O : Ordr lt) {a i j : Nat} {L : List α} (h : Ins lt a i j L) (haj : a < j) (hji : j ≤ i) (hi : i < L.length) (hlt : lt (gt L j) (gt L (j - 1)) = true) : Ins lt a i (j - 1) (sw L j (j - 1)) := fun p q h1 h2 h3 h4 => by
  rw [gt_sw (by omega) (by omega), gt_sw (by omega) (by omega)]
  rw [if_neg h4]
  by_cases hq : q = j
  · subst hq
    rw [if_pos rfl]
    by_cases hp : p = q - 1
    · rw [if_pos hp]; exact O.asym hlt
    · rw [if_neg hp, if_neg (by omega)]; exact h p (q - 1) h1 (by omega) (by omega) (by omega)
  · rw [if_neg hq]
    by_cases hp : p = j - 1
    · rw [if_pos hp]; exact h j q (by omega) (by omega) h3 hq
    · rw [if_neg hp]
      by_cases hp2 : p = j
      · rw [if_pos hp2]; exact h (j - 1) q (by omega) (by omega) h3 hq
      · rw [if_neg hp2]; exact h p q h1 h2 h3 hq
/-! ### Heaps -/
def Heap (lt : α → α → Bool) (first lo hi : Nat) (L : List α) : Prop := ∀ p c, lo ≤ p → (c = 2 * p + 1 ∨ c = 2 * p + 2) → c < hi → lt (gt L (first + p)) (gt L (first + c)) = false
def Sift (lt : α → α → Bool) (first lo hi r : Nat) (L : List α) : Prop :=
  (∀ p c, lo ≤ p → p ≠ r → (c = 2 * p + 1 ∨ c = 2 * p + 2) → c < hi → lt (gt L (first + p)) (gt L (first + c)) = false) ∧
  (∀ p c, lo ≤ p → (r = 2 * p + 1 ∨ r = 2 * p + 2) → (c = 2 * r + 1 ∨ c = 2 * r + 2) → c < hi → lt (gt L (first + p)) (gt L (first + c)) = false)
theorem Sift.init {first lo hi : Nat} {L : List α} (h : Heap lt first (lo + 1) hi L) : Sift lt first lo hi lo L :=
  ⟨fun p c h1 h2 h3 h4 => h p c (by omega) h3 h4, fun p c h1 h2 h3 h4 => by omega⟩
theorem Sift.done {first lo hi r : Nat} {L : List α} (h : Sift lt first lo hi r L) (hr : ∀ c, (c = 2 * r + 1 ∨ c = 2 * r + 2) → c < hi → lt (gt L (first + r)) (gt L (first + c)) = false) : Heap lt first lo hi L := fun p c h1 h2 h3 => by
  by_cases hp : p = r
  · subst hp; exact hr c h2 h3
  · exact h.1 p c h1 hp h2 h3
theorem Sift.swap (O : Ordr lt) {first lo hi r c : Nat} {L : List α} (h : Sift lt first lo hi r L) (hlo : lo ≤ r) (hc : c = 2 * r + 1 ∨ c = 2 * r + 2) (hch : c < hi) (hl : first + hi ≤ L.length)
    (hlt : lt (gt L (first + r)) (gt L (first + c)) = true) (hmax : ∀ d, (d = 2 * r + 1 ∨ d = 2 * r + 2) → d < hi → lt (gt L (first + c)) (gt L (first + d)) = false) :
    Sift lt first lo hi c (sw L (first + r) (first + c)) := by
  have e : ∀ k, k < hi → gt (sw L (first + r) (first + c)) (first + k) = if k = c then gt L (first + r) else if k = r then gt L (first + c) else gt L (first + k) := fun k hk => by
    rw [gt_sw (by omega) (by omega)]
    simp only [Nat.add_left_cancel_iff]
  constructor
  · intro p d h1 h2 h3 h4
    rw [e p (by omega), e d h4, if_neg h2]
    by_cases hp : p = r
    · subst hp
      rw [if_pos rfl]
      by_cases hd : d = c
      · rw [if_pos hd]; exact O.asym hlt
      · rw [if_neg hd, if_neg (by omega)]; exact hmax d h3 h4
    · rw [if_neg hp]
      have hdc : d ≠ c := by omega
      rw [if_neg hdc]
      by_cases hd : d = r
      · rw [if_pos hd]; subst hd; exact h.2 p c h1 h3 hc hch
      · rw [if_neg hd]; exact h.1 p d h1 hp h3 h4
  · intro p d h1 h2 h3 h4
    have hp : p = r := by omega
    subst hp
    rw [e p (by omega), e d h4, if_neg (by omega), if_pos rfl, if_neg (by omega), if_neg (by omega)]
    exact h.1 c d (by omega) (by omega) h3 h4
theorem Heap.top (O : Ordr lt) {first hi : Nat} {L : List α} (h : Heap lt first 0 hi L) : ∀ k, k < hi → lt (gt L first) (gt L (first + k)) = false := by
  intro k
  induction k using Nat.strongRecOn with
  | ind k ih =>
    intro hk
    by_cases h0 : k = 0
    · subst h0; exact O.rfl _
    · exact O.tr (h ((k - 1) / 2) k (Nat.zero_le _) (by omega) hk) (ih ((k - 1) / 2) (by omega) (by omega))
/-! ### Windows -/
def Crs (lt : α → α → Bool) (a0 b0 a b : Nat) (L : List α) : Prop := ∀ p q, a0 ≤ p → p < q → q < b0 → ¬ (a ≤ p ∧ q < b) → lt (gt L q) (gt L p) = false
def Blw (lt : α → α → Bool) (a b : Nat) (L : List α) : Prop := ∀ k, a ≤ k → k < b → 1 ≤ a → lt (gt L k) (gt L (a - 1)) = false
theorem Crs.all {a b : Nat} {L : List α} : Crs lt a b a b L := fun _ _ h1 _ h3 h4 => (h4 ⟨h1, h3⟩).elim
theorem Crs.keep {a0 b0 a b : Nat} {L L' : List α} (h : Crs lt a0 b0 a b L) (hs : SwR a b L L') (ha : a0 ≤ a) (hb : b ≤ b0) : Crs lt a0 b0 a b L' := fun p q h1 h2 h3 h4 => by
  by_cases hp : a ≤ p ∧ p < b
  · rw [hs.out (k := q) (by omega)]
    exact hs.all (p := fun x => lt (gt L q) x = false) (fun k hk hk' => h k q (by omega) (by omega) h3 (by omega)) p hp.1 hp.2
  · rw [hs.out (k := p) (by omega)]
    by_cases hq : a ≤ q ∧ q < b
    · exact hs.all (p := fun x => lt x (gt L p) = false) (fun k hk hk' => h p k h1 (by omega) (by omega) (by omega)) q hq.1 hq.2
    · rw [hs.out (k := q) (by omega)]; exact h p q h1 h2 h3 h4
theorem Crs.done {a0 b0 a b : Nat} {L L' : List α} (h : Crs lt a0 b0 a b L) (hs : SwR a b L L') (ha : a0 ≤ a) (hb : b ≤ b0) (k : Srt lt a b L') : Srt lt a0 b0 L' := fun p q h1 h2 h3 => by
  by_cases hw : a ≤ p ∧ q < b
  · exact k p q hw.1 h2 hw.2
  · exact h.keep hs ha hb p q h1 h2 h3 hw
theorem Blw.keep {a b a' b' : Nat} {L L' : List α} (h : Blw lt a b L) (hs : SwR a' b' L L') (ha : a ≤ a') (hb : b' ≤ b) : Blw lt a b L' := fun k h1 h2 h3 => by
  rw [hs.out (k := a - 1) (by omega)]
  by_cases hk : a' ≤ k ∧ k < b'
  · exact hs.all (p := fun x => lt x (gt L (a - 1)) = false) (fun k hk hk' => h k (by omega) (by omega) h3) k hk.1 hk.2
  · rw [hs.out (k := k) (by omega)]; exact h k h1 h2 h3
theorem Blw.low {a b m : Nat} {L : List α} (h : Blw lt a b L) (hm : m ≤ b) : Blw lt a m L := fun k h1 h2 h3 => h k h1 (by omega) h3
def fW (lt : α → α → Bool) (a b m : Nat) (L : List α) : Prop := (∀ k, a ≤ k → k < m → lt (gt L k) (gt L m) = true) ∧ ∀ k, m < k → k < b → lt (gt L k) (gt L m) = false
theorem fW.lowS {a b m : Nat} {L L' : List α} (h : fW lt a b m L) (hs : SwR a m L L') : fW lt a b m L' :=
  ⟨fun k h1 h2 => by rw [hs.out (k := m) (by omega)]; exact hs.all (p := fun x => lt x (gt L m) = true) h.1 k h1 h2,
   fun k h1 h2 => by rw [hs.out (k := m) (by omega), hs.out (k := k) (by omega)]; exact h.2 k h1 h2⟩
theorem fW.highS {a b m : Nat} {L L' : List α} (h : fW lt a b m L) (hs : SwR (m + 1) b L L') : fW lt a b m L' :=
  ⟨fun k h1 h2 => by rw [hs.out (k := m) (by omega), hs.out (k := k) (by omega)]; exact h.1 k h1 h2,
   fun k h1 h2 => by rw [hs.out (k := m) (by omega)]; exact hs.all (p := fun x => lt x (gt L m) = false) (fun k h1 h2 => h.2 k (by omega) h2) k (by omega) h2⟩
theorem fW.blw {a b m : Nat} {L : List α} (h : fW lt a b m L) : Blw lt (m + 1) b L := fun k h1 h2 _ => h.2 k (by omega) h2
theorem fW.up (O : Ordr lt) {a0 b0 a b m : Nat} {L : List α} (h : fW lt a b m L) (hc : Crs lt a0 b0 a b L) (hs : Srt lt a m L) : Crs lt a0 b0 (m + 1) b L := fun p q h1 h2 h3 h4 => by
  by_cases hw : a ≤ p ∧ q < b
  · rcases Nat.lt_trichotomy q m with hq | hq | hq
    · exact hs p q hw.1 h2 hq
    · subst hq; exact O.asym (h.1 p hw.1 h2)
    · rcases Nat.lt_trichotomy p m with hp | hp | hp
      · exact O.tr (O.asym (h.1 p hw.1 hp)) (h.2 q hq hw.2)
      · subst hp; exact h.2 q hq hw.2
      · omega
  · exact hc p q h1 h2 h3 hw
theorem fW.down (O : Ordr lt) {a0 b0 a b m : Nat} {L : List α} (h : fW lt a b m L) (hc : Crs lt a0 b0 a b L) (hs : Srt lt (m + 1) b L) : Crs lt a0 b0 a m L := fun p q h1 h2 h3 h4 => by
  by_cases hw : a ≤ p ∧ q < b
  · rcases Nat.lt_trichotomy p m with hp | hp | hp
    · rcases Nat.lt_trichotomy q m with hq | hq | hq
      · omega
      · subst hq; exact O.asym (h.1 p hw.1 h2)
      · exact O.tr (O.asym (h.1 p hw.1 hp)) (h.2 q hq hw.2)
    · subst hp; exact h.2 q h2 hw.2
    · exact hs p q hp h2 hw.2
  · exact hc p q h1 h2 h3 hw
theorem VH (O : Ordr lt) {a0 b0 a b m : Nat} {L : List α} {x : α} (hc : Crs lt a0 b0 a b L) (hx : ∀ k, a ≤ k → k < b → lt (gt L k) x = false) (h1 : ∀ k, a ≤ k → k < m → lt x (gt L k) = false) (_ : m ≤ b) : Crs lt a0 b0 m b L := fun p q g1 g2 g3 g4 => by
  by_cases hw : a ≤ p ∧ q < b
  · exact O.tr (h1 p hw.1 (by omega)) (hx q (by omega) hw.2)
  · exact hc p q g1 g2 g3 hw
theorem TM (O : Ordr lt) {a b m : Nat} {L : List α} {x : α} (hx : ∀ k, a ≤ k → k < b → lt (gt L k) x = false) (h1 : ∀ k, a ≤ k → k < m → lt x (gt L k) = false) (ham : a < m) : Blw lt m b L := fun k g1 g2 _ =>
  O.tr (h1 (m - 1) (by omega) (by omega)) (hx k (by omega) g2)
theorem Srt.pairwise {L : List α} (h : Srt lt 0 L.length L) : L.Pairwise fun x y => lt y x = false := by
  rw [List.pairwise_iff_getElem]
  intro i j hi hj hij
  rw [← gt_eq hi, ← gt_eq hj]
  exact h i j (Nat.zero_le _) hij hj
theorem ordrS : Ordr ltS := ⟨FB, fun {a b c} h k => by
  cases h' : ltS c a
  · rfl
  · rcases pT b c with e | e | e
    · have := mG e h'; rw [h] at this; cases this
    · subst e; rw [h] at h'; cases h'
    · rw [k] at e; cases e⟩
end
end Go.Vc

namespace Go.Vc
section
universe u
variable {α : Type u} {enc : α → Value} {P : Program}
structure Turn (lo : Nat) (e : TypeId) (enc : α → Value) (v : Value) (w w' : World) (L' : List α) : Prop where
  ow : Ow lo e w' v (L'.map enc)
  ch : Ch (fun c => v.ownBlock = some c) w w'
theorem Turn.refl {lo : Nat} {e : TypeId} {v : Value} {w : World} {L : List α} (h : Ow lo e w v (L.map enc)) : Turn lo e enc v w w L := ⟨h, (Ext.refl w).ch⟩
theorem Turn.ext {lo : Nat} {e : TypeId} {v : Value} {w w' w'' : World} {L : List α} (h : Turn lo e enc v w w' L) (k : Ext w' w'') : Turn lo e enc v w w'' L :=
  ⟨h.ow.ext k, h.ch.trans (k.ch (S := fun _ => False)) fun _ e => e.elim⟩
theorem Turn.trans {lo : Nat} {e : TypeId} {v : Value} {w w' w'' : World} {L L' : List α} (h : Turn lo e enc v w w' L) (k : Turn lo e enc v w' w'' L') : Turn lo e enc v w w'' L' :=
  ⟨k.ow, h.ch.trans k.ch fun _ e => .inl e⟩
theorem iRdO [Inhabited α] {lo : Nat} {e : TypeId} {w : World} {v : Value} {L : List α} {z : Int} {j : Nat} {k : IntKind} {K : Value → Prop} (hs : Ow lo e w v (L.map enc)) (hz : z = (j : Int)) (hj : j < L.length) (h : K (enc (gt L j))) : xIa 1 v (.int k z) fun p => xLd w p K := by
  subst hz
  refine iIaOw hs (by omega) (by rw [List.length_map]; omega) fun b o _ _ _ hc _ _ => iLd (hc.trans ?_) h
  rw [Int.toNat_natCast, gt_eq hj]
  simp [hj]
theorem iWr2 {lo : Nat} {e : TypeId} {w : World} {v : Value} {L : List α} {z z' : Int} {i j : Nat} {k k' : IntKind} {x y : α} {K : World → Prop} (hE : ∀ x, aC (enc x) = true) (hs : Ow lo e w v (L.map enc)) (hz : z = (i : Int)) (hz' : z' = (j : Int)) (hi : i < L.length) (hj : j < L.length)
    (h : ∀ w', Turn lo e enc v w w' ((L.set i x).set j y) → K w') :
    xIa 1 v (.int k z) fun p => ∀ w1, Ext w w1 → xSt w1 p (enc x) fun w2 => xIa 1 v (.int k' z') fun q => ∀ w3, Ext w2 w3 → xSt w3 q (enc y) fun w4 => ∀ w5, Ext w4 w5 → K w5 := by
  subst hz
  subst hz'
  refine UZ hs (by rw [List.length_map]; exact hi) fun b hb H => ?_
  intro w1 h1
  obtain ⟨hc, hf, hset⟩ := H w1 _ rfl (hs.ext h1)
  refine iSt (hc.trans (List.getElem?_eq_getElem (by rw [List.length_map]; exact hi))) hf (hE x) ?_
  have hs2 := hset (enc x)
  have hc2 : Ch (fun c => v.ownBlock = some c) w (w1.setCell ⟨b, i, none⟩ (enc x)) := (h1.ch (S := fun c => v.ownBlock = some c)).trans ((Upd.setCell w1 b i _).ch (S := fun c => v.ownBlock = some c) hb) fun _ e => .inl e
  refine UZ hs2 (by rw [List.length_set, List.length_map]; exact hj) fun b' hb' H' => ?_
  intro w3 h3
  obtain ⟨hc3, hf3, hset3⟩ := H' w3 _ rfl (hs2.ext h3)
  refine iSt (hc3.trans (List.getElem?_eq_getElem (by rw [List.length_set, List.length_map]; exact hj))) hf3 (hE y) ?_
  intro w5 h5
  refine h w5 (Turn.ext ⟨?_, ?_⟩ h5)
  · have := hset3 (enc y)
    rwa [← List.map_set, ← List.map_set] at this
  · exact (hc2.trans (h3.ch (S := fun c => v.ownBlock = some c)) fun _ e => .inl e).trans ((Upd.setCell w3 b' j _).ch (S := fun c => v.ownBlock = some c) hb') fun _ e => .inl e
end
section
variable {P : Program} {w : World} {lo : Nat} {e : TypeId}
theorem Ow.open {v : Value} {xs : List Value} (hs : Ow lo e w v xs) (hne : xs ≠ []) : ∃ g cap, v = .slice (some ⟨g, 0, none⟩) xs.length cap ∧ xs.length ≤ cap ∧ cap ≤ 9223372036854775807 := by
  obtain ⟨_, ⟨_, h0⟩ | ⟨g, cap, cur, hv, _, _, h1, h2, _⟩⟩ := hs
  · exact absurd (List.length_eq_zero_iff.1 h0) hne
  · exact ⟨g, cap, hv, h1, h2⟩
theorem Ow.at {g n cap : Nat} {xs : List Value} (hs : Ow lo e w (.slice (some ⟨g, 0, none⟩) n cap) xs) (hn : xs.length = n) {j : Nat} (hj : j < n) : w.cell? ⟨g, j, none⟩ = xs[j]? := by
  have h : w.ownsRow lo e 1 (.slice (some ⟨g, 0, none⟩) n cap) n xs := by unfold Ow at hs; rw [hn] at hs; exact hs
  exact h.cellAt j (by omega)
theorem MU {g n cap k : Nat} {ki : IntKind} {K : Value → Prop} (hk : k < n) (hc : n ≤ cap) (h : K (.slice (some ⟨g, k, none⟩) (n - k) (cap - k))) : xSl 1 (.slice (some ⟨g, 0, none⟩) n cap) (some (.int ki (k : Int))) none K := by
  refine ⟨_, _, _, k, n, rfl, rfl, ⟨ki, rfl⟩, by omega, hc, ?_⟩
  rw [if_neg (by omega), Option.map_some, bE, Nat.zero_add, Nat.mul_one]
  exact h
theorem FO {g n cap k : Nat} {ki : IntKind} {K : Value → Prop} (hk : k ≤ n) (hc : n ≤ cap) (h : K (.slice (some ⟨g, 0, none⟩) k cap)) : xSl 1 (.slice (some ⟨g, 0, none⟩) n cap) none (some (.int ki (k : Int))) K := by
  refine ⟨_, _, _, 0, k, rfl, ⟨ki, rfl⟩, rfl, Nat.zero_le _, by omega, ?_⟩
  have e : (if cap = 0 then some (⟨g, 0, none⟩ : Addr) else (some (⟨g, 0, none⟩ : Addr)).map (·.add (0 * 1))) = some ⟨g, 0, none⟩ := by
    split
    · rfl
    · simp [Addr.add]
  rw [e, Nat.sub_zero, Nat.sub_zero]
  exact h
theorem iClr {t ty : TypeId} {z : Value} {bytes g n cap k : Nat} {xs : List Value} {K : Value → World → Prop} (ht : P.underlying t = some (.slice e)) (hi : (P.info? e).map (fun i => (i.zero, i.size, i.bytes)) = some (some z, 1, bytes)) (hz : aC z = true)
    (hs : Ow lo e w (.slice (some ⟨g, 0, none⟩) n cap) xs) (hn : xs.length = n) (hk : k < n) (h : ∀ w', Ow lo e w' (.slice (some ⟨g, 0, none⟩) k cap) (xs.take k) → Ch (fun c => c = g) w w' → K (.tuple #[]) w') :
    xOp P (Builtin.clear_ #[t] ty #[.slice (some ⟨g, k, none⟩) (n - k) (cap - k)]) w K := by
  obtain ⟨i, hi, h3⟩ := Option.map_eq_some_iff.1 hi
  simp only [Prod.mk.injEq] at h3
  obtain ⟨hz0, -, -⟩ := h3
  obtain ⟨-, ⟨hv, -⟩ | ⟨g', cap', cur, hv, hg, hh, h1, h2, h3, h4⟩⟩ := hs
  · cases hv
  · injection hv with e1 e2 e3
    injection e1 with e1
    injection e1 with e1
    subst e1
    subst e3
    rw [hn] at h1 h4
    rw [Nat.mul_one] at h3 h4
    have hzc : (Builtin.zeroCells z.cells (n - k)).toList = List.replicate (n - k) z := by
      rw [aM hz]
      simp [Builtin.zeroCells]
      apply List.ext_getElem
      · simp
      · intro i h1 h2
        simp [Nat.mod_one]
    have hrun := run_storeCells_at P g k e (List.replicate (n - k) z) 0 cur w hh (by rw [List.length_replicate]; omega) (fun v hv => dU (by rw [List.eq_of_mem_replicate hv]; exact hz))
    refine ⟨_, _, ?_, h (w.setRow g (cur.toList.take (k + 0) ++ List.replicate (n - k) z ++ cur.toList.drop (k + 0 + (List.replicate (n - k) z).length)).toArray) ?_ ?_⟩
    · obtain ⟨m, hm⟩ : ∃ m, n - k = m + 1 := ⟨n - k - 1, by omega⟩
      rw [hm] at hrun hzc ⊢
      simp [Builtin.clear_, run_underlying ht, zeroValue, iJ hi, hz0, hzc, hrun]
    · refine ⟨by simp, .inr ⟨g, cap, _, ?_, hg, setRow_heap w g cur _ e (0, 0) hh, by rw [List.length_take]; omega, h2, ?_, ?_⟩⟩
      · rw [List.length_take, hn, Nat.min_eq_left (by omega)]
      · simp; omega
      · rw [List.length_take, hn, Nat.min_eq_left (by omega), Nat.mul_one, Nat.add_zero, List.take_append_of_le_length (by simp; omega), List.take_append_of_le_length (by simp; omega), List.take_take, Nat.min_self, ← h4, List.take_take, Nat.min_eq_left (by omega)]
    · exact ⟨rfl, rfl, rfl, by rw [setRow_size]; exact Nat.le_refl _, fun c _ hc => setRow_other w g c _ hc⟩
end
end Go.Vc

namespace Go.Proofs.YtcfnoofghbmiiaaGreatDoor
open Go.Vc
theorem DL (a : Str) (w : World) : Ret Tryz.prog qB #[sv a] w (.bool false) := by
  apply EE; unfold pW
  refine iNeT ?_
  rw [show decide (¬ a = a) = false by simp]
  exact ⟨by first | trivial | rfl, Ext.refl _⟩
theorem aR (a b : Str) (w : World) : Ret Tryz.prog rX #[sv a, sv b] w (.bool (ltS a b)) := by
  apply GF; unfold qY
  refine iJnB (ltS a b) w (fun J hJ => ?_) (fun w4 h4 => ?_)
  · refine iRet (DL a w) fun w3 h3 => ?_
    refine iCndF rfl ?_
    refine iLtT ?_
    exact hJ w3 h3
  · intro _
    simp only [gx]
    exact ⟨by first | trivial | rfl, h4⟩
theorem jE {lo : Nat} {w : World} {v : Value} {L : List Str} {a b : Nat} (hs : Ow lo aA w v (strs L)) (hab : a ≤ b) (hb : b ≤ L.length) (hL : L.length ≤ 1152921504606846976) :
    Cal Tryz.prog d6 #[v, .int .i64 (a : Int), .int .i64 (b : Int)] w fun _ w' => ∃ L', Turn lo aA sv v w w' L' ∧ SwR a b L L' ∧ Srt ltS a b L' := by
  apply j6; unfold d7
  (refine iAdd (by omega) ?_)
  refine iLp (fun i : Nat => [.int .i64 (i : Int)]) (fun i w' => a + 1 ≤ i ∧ i ≤ b + 1 ∧ ∃ L', Turn lo aA sv v w w' L' ∧ SwR a b L L' ∧ Srt ltS a i L') (fun i => b + 1 - i) (a + 1) (by simp) ⟨Nat.le_refl _, by omega, L, Turn.refl hs, .refl, Srt.short (Nat.le_refl _)⟩ ?_
  rintro i w2 Kn ⟨hi, hib, L1, ht1, hw1, hs1⟩ hKn
  intro _
  simp only [gx]
  refine iLt ?_
  refine iCndP (fun h => ?_) (fun h => ?_)
  · have hl1 := hw1.len
    refine iLp (fun j : Nat => [.int .i64 (j : Int)]) (fun j w' => a ≤ j ∧ j ≤ i ∧ ∃ L', Turn lo aA sv v w w' L' ∧ SwR a b L L' ∧ Ins ltS a i j L') (fun j => j) i rfl ⟨by omega, Nat.le_refl _, L1, ht1, hw1, Ins.init hs1⟩ ?_
    rintro j w4 Kn2 ⟨haj, hji, L2, ht2, hw2, hin⟩ hKn2
    have hl2 := hw2.len
    intro _
    simp only [gx]
    refine iJnB (decide (a < j) && ltS (gt L2 j) (gt L2 (j - 1))) w4 (fun J hJ => ?_) (fun w6 h6 => ?_)
    · refine iLt ?_
      refine iCndP (fun h5 => ?_) (fun h5 => ?_)
      · rw [decide_eq_true (show a < j by omega), Bool.true_and] at hJ
        refine iRdO (j := j) ht2.ow rfl (by omega) ?_
        (refine iSub (by omega) ?_)
        refine iRdO (j := j - 1) ht2.ow (by omega) (by omega) ?_
        exact iRetQ (fun w' _ => aR _ _ w') hJ
      · rw [decide_eq_false (show ¬ a < j by omega), Bool.false_and] at hJ
        exact hJ
    · intro _
      simp only [gx]
      have ht6 := ht2.ext h6
      cases hc : decide (a < j) && ltS (gt L2 j) (gt L2 (j - 1))
      · refine iCndF rfl ?_
        (refine iAdd (by omega) ?_)
        refine hKn (i + 1) _ ⟨by omega, by omega, L2, ht6, hw2, hin.done ordrS ?_ hji⟩ (by omega)
        rw [Bool.and_eq_false_iff, decide_eq_false_iff_not] at hc
        rcases hc with hc | hc
        · exact .inl (by omega)
        · rcases Nat.lt_or_ge a j with h' | h'
          · exact .inr ⟨h', hc⟩
          · exact .inl h'
      · rw [Bool.and_eq_true, decide_eq_true_eq] at hc
        refine iCndT rfl ?_
        (refine iSub (by omega) ?_; refine iSub (by omega) ?_)
        refine iRdO (j := j - 1) ht6.ow (by omega) (by omega) ?_
        refine iRdO (j := j) ht6.ow rfl (by omega) ?_
        refine iWr2 (i := j) (j := j - 1) (fun _ => rfl) ht6.ow rfl (by omega) (by omega) (by omega) fun w13 h13 => ?_
        (refine iSub (by omega) ?_)
        rw [show (j : Int) - 1 = ((j - 1 : Nat) : Int) by omega]
        exact hKn2 (j - 1) _ ⟨by omega, by omega, sw L2 j (j - 1), ht6.trans h13, .step hw2 (by omega) (by omega) (by omega) (by omega) hb, hin.swap ordrS hc.1 hji (by omega) hc.2⟩ (by omega)
  · exact ⟨L1, ht1, hw1, hs1.mono (Nat.le_refl _) (by omega)⟩
theorem jV {lo : Nat} {w : World} {v : Value} {L : List Str} {a b : Nat} (hs : Ow lo aA w v (strs L)) (hab : a ≤ b) (hb : b ≤ L.length) (hL : L.length ≤ 1152921504606846976) :
    Cal Tryz.prog eL #[v, .int .i64 (a : Int), .int .i64 (b : Int)] w fun _ w' => ∃ L', Turn lo aA sv v w w' L' ∧ SwR a b L L' := by
  apply kE; unfold eK
  (refine iSub (by omega) ?_)
  refine iLp (fun s : Nat × Int => [.int .i64 (s.1 : Int), .int .i64 s.2]) (fun s w' => a ≤ s.1 ∧ s.1 ≤ b ∧ -1 ≤ s.2 ∧ s.2 < b ∧ (b : Int) - s.2 ≤ s.1 - a + 1 ∧ ∃ L', Turn lo aA sv v w w' L' ∧ SwR a b L L') (fun s => b - s.1) (a, (b : Int) - 1) rfl ⟨Nat.le_refl _, hab, by show -1 ≤ (b : Int) - 1; omega, by show (b : Int) - 1 < b; omega, by show (b : Int) - ((b : Int) - 1) ≤ a - a + 1; omega, L, Turn.refl hs, .refl⟩ ?_
  rintro ⟨i, j⟩ w2 Kn ⟨hi, hib, hj, hjb, hij, L1, ht1, hw1⟩ hKn
  have hi : a ≤ i := hi
  have hib : i ≤ b := hib
  have hj : -1 ≤ j := hj
  have hjb : j < b := hjb
  have hij : (b : Int) - j ≤ i - a + 1 := hij
  have hl1 := hw1.len
  intro _
  simp only [gx]
  refine iLt ?_
  refine iCndP (fun h => ?_) (fun h => ?_)
  · refine iRdO (j := j.toNat) ht1.ow (by omega) (by omega) ?_
    refine iRdO (j := i) ht1.ow rfl (by omega) ?_
    refine iWr2 (i := i) (j := j.toNat) (fun _ => rfl) ht1.ow rfl (by omega) (by omega) (by omega) fun w7 h7 => ?_
    (refine iAdd (by omega) ?_; refine iSub (by omega) ?_)
    exact hKn (i + 1, j - 1) _ ⟨by show a ≤ i + 1; omega, by show i + 1 ≤ b; omega, by show -1 ≤ j - 1; omega, by show j - 1 < b; omega, by show (b : Int) - (j - 1) ≤ ((i + 1 : Nat) : Int) - a + 1; omega, sw L1 i j.toNat, ht1.trans h7, .step hw1 hi (by omega) (by omega) (by omega) hb⟩ (by show b - (i + 1) < b - i; omega)
  · exact ⟨L1, ht1, hw1⟩
theorem fI {lo0 : Nat} {w : World} {v : Value} {L : List Str} {lo hi first : Nat} (hs : Ow lo0 aA w v (strs L)) (hlo : lo ≤ hi) (hb : first + hi ≤ L.length) (hL : L.length ≤ 1152921504606846976) (hh : Heap ltS first (lo + 1) hi L) :
    Cal Tryz.prog fR #[v, .int .i64 (lo : Int), .int .i64 (hi : Int), .int .i64 (first : Int)] w fun _ w' => ∃ L', Turn lo0 aA sv v w w' L' ∧ SwR (first + lo) (first + hi) L L' ∧ Heap ltS first lo hi L' := by
  apply mZ; unfold fO
  refine iLp (fun r : Nat => [.int .i64 (r : Int)]) (fun r w' => lo ≤ r ∧ r ≤ hi ∧ ∃ L', Turn lo0 aA sv v w w' L' ∧ SwR (first + lo) (first + hi) L L' ∧ Sift ltS first lo hi r L') (fun r => hi - r) lo rfl ⟨Nat.le_refl _, hlo, L, Turn.refl hs, .refl, Sift.init hh⟩ ?_
  rintro r w2 Kn ⟨hr, hrh, L1, ht1, hw1, hsf⟩ hKn
  have hl1 := hw1.len
  intro _
  simp only [gx]
  refine iMul (by omega) ?_
  (refine iAdd (by omega) ?_; (with_reducible refine iLe ?_))
  refine iCndP (fun h => ?_) (fun h => ?_)
  · exact ⟨L1, ht1, hw1, hsf.done fun c hc hch => by omega⟩
  · have hlr : r < hi := by omega
    refine iJnB (decide (2 * r + 2 < hi) && ltS (gt L1 (first + (2 * r + 1))) (gt L1 (first + (2 * r + 2)))) w2 (fun J hJ => ?_) (fun w4 h4 => ?_)
    · (refine iAdd (by omega) ?_; (with_reducible refine iLt ?_))
      refine iCndP (fun h5 => ?_) (fun h5 => ?_)
      · rw [decide_eq_true (show 2 * r + 2 < hi by omega), Bool.true_and] at hJ
        (refine iAdd (by omega) ?_)
        refine iRdO (j := first + (2 * r + 1)) ht1.ow (by omega) (by omega) ?_
        (refine iAdd (by omega) ?_; refine iAdd (by omega) ?_)
        refine iRdO (j := first + (2 * r + 2)) ht1.ow (by omega) (by omega) ?_
        exact iRetQ (fun w' _ => aR _ _ w') hJ
      · rw [decide_eq_false (show ¬ 2 * r + 2 < hi by omega), Bool.false_and] at hJ
        exact hJ
    · intro _
      simp only [gx]
      have ht4 := ht1.ext h4
      refine iJnX (fun xs w8 => Ext w4 w8 ∧ ∃ c : Nat, xs = [.int .i64 (c : Int)] ∧ (c = 2 * r + 1 ∨ c = 2 * r + 2) ∧ c < hi ∧ ∀ d, (d = 2 * r + 1 ∨ d = 2 * r + 2) → d < hi → ltS (gt L1 (first + c)) (gt L1 (first + d)) = false) (fun J hJ => ?_) ?_
      · cases hc : decide (2 * r + 2 < hi) && ltS (gt L1 (first + (2 * r + 1))) (gt L1 (first + (2 * r + 2)))
        · refine iCndF rfl ?_
          refine hJ _ _ ⟨Ext.refl _, 2 * r + 1, rfl, .inl rfl, by omega, fun d hd hdh => ?_⟩
          rcases hd with hd | hd
          · subst hd; exact ordrS.rfl _
          · subst hd; rw [decide_eq_true hdh, Bool.true_and] at hc; exact hc
        · rw [Bool.and_eq_true, decide_eq_true_eq] at hc
          refine iCndT rfl ?_
          (refine iAdd (by omega) ?_)
          refine hJ _ _ ⟨Ext.refl _, 2 * r + 2, rfl, .inr rfl, hc.1, fun d hd hdh => ?_⟩
          rcases hd with hd | hd
          · subst hd; exact ordrS.asym hc.2
          · subst hd; exact ordrS.rfl _
      · rintro xs w8 ⟨h8, c, rfl, hc, hch, hmax⟩
        intro _
        simp only [gx]
        have ht8 := ht4.ext h8
        (refine iAdd (by omega) ?_)
        refine iRdO (j := first + r) ht8.ow (by omega) (by omega) ?_
        (refine iAdd (by omega) ?_)
        refine iRdO (j := first + c) ht8.ow (by omega) (by omega) ?_
        refine iRetQ (fun w' _ => aR _ _ w') ?_
        refine iNot ?_
        intro w9 h9
        have ht9 := ht8.ext h9
        refine iCnd (fun h5 => ?_) (fun h5 => ?_)
        · refine ⟨L1, ht9, hw1, hsf.done fun d hd hdh => ?_⟩
          have h5 : ltS (gt L1 (first + r)) (gt L1 (first + c)) = false := by simpa using h5
          exact ordrS.tr (hmax d hd hdh) h5
        · have h5 : ltS (gt L1 (first + r)) (gt L1 (first + c)) = true := by simpa using h5
          (refine iAdd (by omega) ?_; refine iAdd (by omega) ?_; refine iAdd (by omega) ?_)
          refine iRdO (j := first + c) ht9.ow (by omega) (by omega) ?_
          (refine iAdd (by omega) ?_)
          refine iRdO (j := first + r) ht9.ow (by omega) (by omega) ?_
          refine iWr2 (i := first + r) (j := first + c) (fun _ => rfl) ht9.ow (by omega) (by omega) (by omega) (by omega) fun w14 h14 => ?_
          exact hKn c _ ⟨by omega, by omega, sw L1 (first + r) (first + c), ht9.trans h14, .step hw1 (by omega) (by omega) (by omega) (by omega) (by omega), hsf.swap ordrS hr hc hch (by omega) h5 hmax⟩ (by omega)
theorem mA {lo : Nat} {w : World} {v : Value} {L : List Str} {a b : Nat} (hs : Ow lo aA w v (strs L)) (hab : a < b) (hb : b ≤ L.length) (hL : L.length ≤ 1152921504606846976) :
    Cal Tryz.prog fM #[v, .int .i64 (a : Int), .int .i64 (b : Int)] w fun _ w' => ∃ L', Turn lo aA sv v w w' L' ∧ SwR a b L L' ∧ Srt ltS a b L' := by
  apply m4; unfold fN
  obtain ⟨n, rfl⟩ : ∃ n, b = a + n := ⟨b - a, by omega⟩
  (refine iSub (by omega) ?_; refine iSub (by omega) ?_)
  refine iQuo (by omega) ?_
  refine iLp (fun s : Nat => [.int .i64 ((s : Int) - 1)]) (fun s w' => s ≤ n ∧ ∃ L', Turn lo aA sv v w w' L' ∧ SwR a (a + n) L L' ∧ Heap ltS a s n L') (fun s => s) ((n - 1) / 2 + 1) (by congr 2; omega) ⟨by omega, L, Turn.refl hs, .refl, fun p c h1 h2 h3 => by omega⟩ ?_
  rintro s w2 Kn ⟨hsn, L1, ht1, hw1, hh⟩ hKn
  have hl1 := hw1.len
  intro _
  simp only [gx]
  refine iLe ?_
  refine iCndP (fun h => ?_) (fun h => ?_)
  · rw [show (s : Int) - 1 = ((s - 1 : Nat) : Int) by omega, show ((a + n : Nat) : Int) - a = (n : Int) by omega]
    refine iCall ?_
    refine (fI (lo := s - 1) (hi := n) (first := a) ht1.ow (by omega) (by omega) (by omega) (by rw [show s - 1 + 1 = s by omega]; exact hh)).mono fun _ w3 h3 => ?_
    obtain ⟨L2, ht2, hw2, hh2⟩ := h3
    (refine iSub (by omega) ?_)
    exact hKn (s - 1) _ ⟨by omega, L2, ht1.trans ht2, hw1.trans (hw2.mono (by omega) (Nat.le_refl _) (by omega)), hh2⟩ (by omega)
  · (refine iSub (by omega) ?_)
    have hs0 : s = 0 := by omega
    subst hs0
    refine iLp (fun s : Nat => [.int .i64 ((s : Int) - 1)]) (fun s w' => s ≤ n ∧ ∃ L', Turn lo aA sv v w w' L' ∧ SwR a (a + n) L L' ∧ Heap ltS a 0 s L' ∧ (∀ p q, a ≤ p → p < q → a + s ≤ q → q < a + n → ltS (gt L' q) (gt L' p) = false)) (fun s => s) n (by congr 2; omega) ⟨Nat.le_refl _, L1, ht1, hw1, hh, fun p q h1 h2 h3 h4 => by omega⟩ ?_
    rintro s w5 Kn5 ⟨hsn, L2, ht2, hw2, hh2, hpr⟩ hKn5
    have hl2 := hw2.len
    intro _
    simp only [gx]
    refine iLe ?_
    refine iCndP (fun h5 => ?_) (fun h5 => ?_)
    · (refine iAdd (by omega) ?_; refine iAdd (by omega) ?_)
      refine iRdO (j := a + (s - 1)) ht2.ow (by omega) (by omega) ?_
      refine iRdO (j := a) ht2.ow rfl (by omega) ?_
      refine iWr2 (i := a) (j := a + (s - 1)) (fun _ => rfl) ht2.ow rfl (by omega) (by omega) (by omega) fun w10 h10 => ?_
      rw [show (s : Int) - 1 = ((s - 1 : Nat) : Int) by omega]
      have e : ∀ k, gt (sw L2 a (a + (s - 1))) k = if k = a + (s - 1) then gt L2 a else if k = a then gt L2 (a + (s - 1)) else gt L2 k := gt_sw (by omega) (by omega)
      have hw3 : SwR a (a + n) L2 (sw L2 a (a + (s - 1))) := .one (by omega) (by omega) (by omega) (by omega) (by omega)
      have htop := Heap.top ordrS hh2
      refine iCall ?_
      refine (fI (L := sw L2 a (a + (s - 1))) (lo := 0) (hi := s - 1) (first := a) h10.ow (by omega) (by rw [hw3.len]; omega) (by rw [hw3.len]; omega) (fun p c h1 h2 h3 => by
        rw [e, e, if_neg (by omega), if_neg (by omega), if_neg (by omega), if_neg (by omega)]
        exact hh2 p c (by omega) h2 (by omega))).mono fun _ w11 h11 => ?_
      obtain ⟨L4, ht4, hw4, hh4⟩ := h11
      (refine iSub (by omega) ?_)
      refine hKn5 (s - 1) _ ⟨by omega, L4, (ht2.trans h10).trans ht4, (hw2.trans hw3).trans (hw4.mono (by omega) (by omega) (by rw [hw3.len]; omega)), hh4, fun p q h1 h2 h3 h4 => ?_⟩ (by omega)
      rw [hw4.out (k := q) (by omega)]
      have main : ∀ p, a ≤ p → p < q → ltS (gt (sw L2 a (a + (s - 1))) q) (gt (sw L2 a (a + (s - 1))) p) = false := fun p h1 h2 => by
        rw [e, e]
        by_cases hq : q = a + (s - 1)
        · rw [if_pos hq, if_neg (by omega)]
          split
          · exact htop _ (by omega)
          · obtain ⟨k, rfl⟩ : ∃ k, p = a + k := ⟨p - a, by omega⟩
            exact htop _ (by omega)
        · rw [if_neg hq, if_neg (by omega)]
          split
          · exact hpr a q (by omega) (by omega) (by omega) h4
          · split
            · exact hpr _ q (by omega) (by omega) (by omega) h4
            · exact hpr p q h1 h2 (by omega) h4
      rcases Nat.lt_or_ge p (a + (s - 1)) with hp | hp
      · exact hw4.all (p := fun x => ltS (gt (sw L2 a (a + (s - 1))) q) x = false) (fun k hk hk' => main k (by omega) (by omega)) p (by omega) hp
      · rw [hw4.out (k := p) (by omega)]; exact main p h1 h2
    · exact ⟨L2, ht2, hw2, fun p q h1 h2 h3 => hpr p q h1 h2 (by omega) h3⟩
end Go.Proofs.YtcfnoofghbmiiaaGreatDoor

namespace Go.Vc
def len8T : Str := [0, 1, 2, 2, 3, 3, 3, 3, 4, 4, 4, 4, 4, 4, 4, 4, 5, 5, 5, 5, 5, 5, 5, 5, 5, 5, 5, 5, 5, 5, 5, 5, 6, 6, 6, 6, 6, 6, 6, 6, 6, 6, 6, 6, 6, 6, 6, 6, 6, 6, 6, 6, 6, 6, 6, 6, 6, 6, 6, 6, 6, 6, 6, 6,
  7, 7, 7, 7, 7, 7, 7, 7, 7, 7, 7, 7, 7, 7, 7, 7, 7, 7, 7, 7, 7, 7, 7, 7, 7, 7, 7, 7, 7, 7, 7, 7, 7, 7, 7, 7, 7, 7, 7, 7, 7, 7, 7, 7, 7, 7, 7, 7, 7, 7, 7, 7, 7, 7, 7, 7, 7, 7, 7, 7, 7, 7, 7, 7,
  8, 8, 8, 8, 8, 8, 8, 8, 8, 8, 8, 8, 8, 8, 8, 8, 8, 8, 8, 8, 8, 8, 8, 8, 8, 8, 8, 8, 8, 8, 8, 8, 8, 8, 8, 8, 8, 8, 8, 8, 8, 8, 8, 8, 8, 8, 8, 8, 8, 8, 8, 8, 8, 8, 8, 8, 8, 8, 8, 8, 8, 8, 8, 8,
  8, 8, 8, 8, 8, 8, 8, 8, 8, 8, 8, 8, 8, 8, 8, 8, 8, 8, 8, 8, 8, 8, 8, 8, 8, 8, 8, 8, 8, 8, 8, 8, 8, 8, 8, 8, 8, 8, 8, 8, 8, 8, 8, 8, 8, 8, 8, 8, 8, 8, 8, 8, 8, 8, 8, 8, 8, 8, 8, 8, 8, 8, 8, 8]
theorem V6 : ∀ x : Fin 256, x.val < 2 ^ (len8T.getD x.val 0).toNat ∧ (1 ≤ x.val → 2 ^ (len8T.getD x.val 0).toNat ≤ 2 * x.val) ∧ (len8T.getD x.val 0).toNat ≤ 8 := by decide +kernel
theorem YA {a : Int} {m : Nat} {K : Value → Prop} (hm : m < 2 ^ 64) (h : ∀ x : Nat, x ≤ m → K (.int .u64 (x : Int))) : xBits iAnd .u64 (.int .u64 a) (.int .u64 (m : Int)) K := by
  refine ⟨_, _, rfl, rfl, ?_⟩
  have e : iAnd .u64 a (m : Int) = (((BitVec.ofInt 64 a &&& BitVec.ofInt 64 (m : Int)).toNat : Nat) : Int) := by
    rw [show iAnd .u64 a (m : Int) = IntKind.u64.wrap ((BitVec.ofInt 64 a &&& BitVec.ofInt 64 (m : Int)).toNat : Nat) from rfl]
    exact IntWalk.u64_in _ (by have := (BitVec.ofInt 64 a &&& BitVec.ofInt 64 (m : Int)).isLt; omega)
  rw [e]
  refine h _ ?_
  rw [BitVec.toNat_and, EK, BitVec.toNat_ofNat, Nat.mod_eq_of_lt (a := m) (by omega)]
  exact Nat.and_le_right
theorem iStC {e : TypeId} {w : World} {b : Nat} {old v : Value} {K : World → Prop} (hb : Blk e w b [old]) (hv : aC v = true) (h : ∀ w', Blk e w' b [v] → Ch (fun c => c = b) w w' → K w') : xSt w (.pointer (some ⟨b, 0, none⟩)) v K :=
  iStB hb (by simp) hv fun h2 => h _ h2 ((Upd.setCell w b 0 v).ch rfl)
theorem I8 {a j : Nat} {K : Value → Prop} (hj : j ≤ 64) (h : K (.int .u64 ((a / 2 ^ j : Nat) : Int))) : xSh iShr .u64 (.int .u64 (a : Int)) (.int .u64 (j : Int)) K := by
  refine ⟨_, _, _, rfl, rfl, by omega, ?_⟩
  rw [show iShr .u64 (a : Int) (j : Int) = ((a / 2 ^ j : Nat) : Int) by
    unfold iShr
    rw [Int.toNat_natCast, show IntKind.u64.bits = 64 from rfl, Nat.min_eq_left hj, Int.fdiv_eq_ediv_of_nonneg _ (Int.le_of_lt (Int.pow_pos (by omega)))]
    push_cast
    rfl]
  exact h
end Go.Vc
namespace Go.Proofs.YtcfnoofghbmiiaaGreatDoor
open Go.Vc
set_option maxRecDepth 20000 in
theorem DK {n : Nat} (hn : n < 2 ^ 63) (w : World) : Cal Tryz.prog rR #[.int .u64 (n : Int)] w fun r w' => Ext w w' ∧ ∃ k : Nat, r = .int .i64 (k : Int) ∧ n < 2 ^ k ∧ (1 ≤ n → 2 ^ k ≤ 2 * n) ∧ k ≤ 64 := by
  apply F5; unfold rN
  -- at each join: what is left of n, and by how many bits it was shifted
  have stage : ∀ {x m s : Nat}, x = n / 2 ^ m → x / 2 ^ s = n / 2 ^ (m + s) := fun {x m s} h => by rw [h, Nat.div_div_eq_div_mul, ← Nat.pow_add]
  ((with_reducible refine iLe ?_))
  refine iJnX (fun xs w' => Ext w w' ∧ ∃ x m : Nat, xs = [.int .u64 (x : Int), .int .i64 (m : Int)] ∧ x = n / 2 ^ m ∧ x < 2 ^ 32 ∧ (1 ≤ m → 1 ≤ x) ∧ m ≤ 32) (fun J hJ => ?_) ?_
  · refine iCndP (fun h => ?_) (fun h => ?_)
    · refine I8 (j := 32) (by omega) ?_
      exact hJ _ _ ⟨Ext.refl _, _, 32, rfl, rfl, by omega, by omega, by omega⟩
    · exact hJ _ _ ⟨Ext.refl _, n, 0, rfl, by simp, by omega, by omega, by omega⟩
  rintro xs w2 ⟨h2, x, m, rfl, hx, hx32, hm1, hm⟩
  intro _
  simp only [gx]
  ((with_reducible refine iLe ?_))
  refine iJnX (fun xs w' => Ext w w' ∧ ∃ x m : Nat, xs = [.int .u64 (x : Int), .int .i64 (m : Int)] ∧ x = n / 2 ^ m ∧ x < 2 ^ 16 ∧ (1 ≤ m → 1 ≤ x) ∧ m ≤ 48) (fun J hJ => ?_) ?_
  · refine iCndP (fun h => ?_) (fun h => ?_)
    · refine I8 (j := 16) (by omega) ?_
      (refine iAdd (by omega) ?_)
      exact hJ _ _ ⟨h2, _, m + 16, rfl, stage hx, by omega, by omega, by omega⟩
    · exact hJ _ _ ⟨h2, x, m, rfl, hx, by omega, hm1, by omega⟩
  rintro xs w4 ⟨h4, x, m, rfl, hx, hx16, hm1, hm⟩
  intro _
  simp only [gx]
  ((with_reducible refine iLe ?_))
  refine iJnX (fun xs w' => Ext w w' ∧ ∃ x m : Nat, xs = [.int .u64 (x : Int), .int .i64 (m : Int)] ∧ x = n / 2 ^ m ∧ x < 2 ^ 8 ∧ (1 ≤ m → 1 ≤ x) ∧ m ≤ 56) (fun J hJ => ?_) ?_
  · refine iCndP (fun h => ?_) (fun h => ?_)
    · refine I8 (j := 8) (by omega) ?_
      (refine iAdd (by omega) ?_)
      exact hJ _ _ ⟨h4, _, m + 8, rfl, stage hx, by omega, by omega, by omega⟩
    · exact hJ _ _ ⟨h4, x, m, rfl, hx, by omega, hm1, by omega⟩
  rintro xs w6 ⟨h6, x, m, rfl, hx, hx8, hm1, hm⟩
  intro _
  simp only [gx]
  obtain ⟨t1, t2, t3⟩ : x < 2 ^ (len8T.getD x 0).toNat ∧ (1 ≤ x → 2 ^ (len8T.getD x 0).toNat ≤ 2 * x) ∧ (len8T.getD x 0).toNat ≤ 8 := V6 ⟨x, hx8⟩
  refine ⟨_, _, rfl, ?_⟩
  rw [IntWalk.u8_in _ (by omega)]
  refine iIs (l := len8T) (j := x) (by show x < 256; omega) ?_
  refine pJ (by omega) ?_
  refine iAdd (by omega) ?_
  refine ⟨h6, m + (len8T.getD x 0).toNat, by first | rfl | (push_cast; rfl), ?_, fun h1 => ?_, by omega⟩
  · have := Nat.lt_div_mul_add (a := n) (b := 2 ^ m) (Nat.two_pow_pos m)
    rw [← hx] at this
    have h3 : (x + 1) * 2 ^ m ≤ 2 ^ (len8T.getD x 0).toNat * 2 ^ m := Nat.mul_le_mul_right _ t1
    rw [Nat.pow_add, Nat.mul_comm (2 ^ m)]
    rw [Nat.add_mul] at h3
    omega
  · rcases Nat.eq_zero_or_pos x with h0 | h0
    · have hm0 : m = 0 := by omega
      subst hm0
      simp at hx
      omega
    · have h3 := Nat.mul_le_mul_left (2 ^ m) (t2 h0)
      have h4 : 2 ^ m * x ≤ n := by rw [hx]; exact Nat.mul_div_le n (2 ^ m)
      rw [Nat.pow_add]
      rw [Nat.mul_left_comm] at h3
      omega
theorem rW {n : Nat} (hn : n < 2 ^ 63) (w : World) : Cal Tryz.prog xD #[.int .u64 (n : Int)] w fun r w' => Ext w w' ∧ ∃ k : Nat, r = .int .i64 (k : Int) ∧ n < 2 ^ k ∧ (1 ≤ n → 2 ^ k ≤ 2 * n) ∧ k ≤ 64 := by
  apply JR; unfold wK
  exact iCall (DK hn w)
theorem uC {n : Nat} (h1 : 1 ≤ n) (hn : n ≤ 1152921504606846976) (w : World) : Cal Tryz.prog kQ #[.int .i64 (n : Int)] w fun r w' => Ext w w' ∧ ∃ m : Nat, r = .int .u64 (m : Int) ∧ 1 ≤ m ∧ m ≤ 2 * n := by
  apply uK; unfold kJ
  refine zZ (by omega) ?_
  refine iCall ?_
  refine (rW (by omega) w).mono fun r w1 h => ?_
  obtain ⟨h1', k, rfl, hk1, hk2, hk3⟩ := h
  have hk := hk2 h1
  refine ⟨_, _, _, rfl, rfl, by omega, ?_⟩
  have e : iShl .u64 1 (k : Int) = ((2 ^ k : Nat) : Int) := by
    rw [show iShl .u64 1 (k : Int) = IntKind.u64.wrap (1 * 2 ^ min (k : Int).toNat 64) from rfl, Int.toNat_natCast, Nat.min_eq_left hk3, Int.one_mul, show ((2 : Int) ^ k) = ((2 ^ k : Nat) : Int) by push_cast; rfl]
    exact IntWalk.u64_in _ (by omega)
  rw [e]
  exact ⟨h1', 2 ^ k, rfl, Nat.two_pow_pos k, hk⟩
theorem uT {e : TypeId} {w : World} {b : Nat} {x : Int} (hb : Blk e w b [.int .u64 x]) : Cal Tryz.prog lP #[.pointer (some ⟨b, 0, none⟩)] w fun r w' => ∃ y : Int, r = .int .u64 y ∧ Blk e w' b [.int .u64 y] ∧ Ch (fun c => c = b) w w' := by
  apply xY; unfold kZ
  ((with_reducible refine iNil ?_); refine iLdB (by assumption) (by first | rfl | simp) ?_; (with_reducible refine iNil ?_); refine iLdB (by assumption) (by first | rfl | simp) ?_)
  refine ⟨_, _, _, rfl, rfl, by omega, ?_⟩
  refine ⟨_, _, rfl, rfl, ?_⟩
  ((with_reducible refine iNil ?_))
  intro w1 h1
  refine iStC (hb.ext h1) rfl fun w2 hb2 h2 => ?_
  intro w3 h3
  have hb3 := hb2.ext h3
  have c3 := aO ((h1.ch.trans h2 fun _ e => .inl e)) h3
  clear hb2 h2
  ((with_reducible refine iNil ?_); refine iLdB (by assumption) (by first | rfl | simp) ?_; (with_reducible refine iNil ?_); refine iLdB (by assumption) (by first | rfl | simp) ?_)
  refine ⟨_, _, _, rfl, rfl, by omega, ?_⟩
  refine ⟨_, _, rfl, rfl, ?_⟩
  ((with_reducible refine iNil ?_))
  intro w4 h4
  refine iStC (hb3.ext h4) rfl fun w5 hb5 h5 => ?_
  intro w6 h6
  have hb6 := hb5.ext h6
  have c6 := aO (aB (aO c3 h4) h5) h6
  clear hb5 hb3 hb c3
  ((with_reducible refine iNil ?_); refine iLdB (by assumption) (by first | rfl | simp) ?_; (with_reducible refine iNil ?_); refine iLdB (by assumption) (by first | rfl | simp) ?_)
  refine ⟨_, _, _, rfl, rfl, by omega, ?_⟩
  refine ⟨_, _, rfl, rfl, ?_⟩
  ((with_reducible refine iNil ?_))
  intro w7 h7
  refine iStC (hb6.ext h7) rfl fun w8 hb8 h8 => ?_
  intro w9 h9
  have hb9 := hb8.ext h9
  have c9 := aO (aB (aO c6 h7) h8) h9
  clear hb8 hb6 c6
  ((with_reducible refine iNil ?_); refine iLdB (by assumption) (by first | rfl | simp) ?_)
  exact ⟨_, rfl, hb9, c9⟩
theorem jF {lo : Nat} {w : World} {v : Value} {L : List Str} {a b : Nat} (hs : Ow lo aA w v (strs L)) (hab : a ≤ b) (hb : b ≤ L.length) (hL : L.length ≤ 1152921504606846976) :
    Cal Tryz.prog eF #[v, .int .i64 (a : Int), .int .i64 (b : Int)] w fun _ w' => ∃ L', Turn lo aA sv v w w' L' ∧ SwR a b L L' := by
  apply j4; unfold d8
  obtain ⟨n, rfl⟩ : ∃ n, b = a + n := ⟨b - a, by omega⟩
  refine iSub (by omega) ?_
  rw [show ((a + n : Nat) : Int) - a = (n : Int) by omega]
  refine iLe ?_
  refine iCndP (fun h => ?_) (fun h => ?_)
  · refine zZ (by omega) ?_
    refine iNew fun c w1 hc1 h1 hb1 => ?_
    refine iStB hb1 (by simp [Value.cells]) rfl fun hb2 => ?_
    have x2 : Ext w (w1.setCell ⟨c, 0, none⟩ (.int .u64 (n : Int))) := WJ h1 (by show w.heap.size ≤ c; omega) _
    refine iCall ?_
    refine (uC (by omega) (by omega) _).mono fun r w3 h3 => ?_
    obtain ⟨h3, m, rfl, hm1, hm2⟩ := h3
    have hb3 := hb2.ext h3
    have hs3 := (hs.ext x2).ext h3
    have hne : v.ownBlock ≠ some c := hs.lt (by omega)
    refine iQuo (by omega) ?_
    refine iMul (by omega) ?_
    refine iAdd (by omega) ?_
    refine iSub (by omega) ?_
    refine iLp (fun i : Nat => [.int .i64 (i : Int)]) (fun i w' => a + n / 4 * 2 - 1 ≤ i ∧ (∃ x, Blk 195 w' c [.int .u64 x]) ∧ ∃ L', Turn lo aA sv v w w' L' ∧ SwR a (a + n) L L') (fun i => a + n - i) (a + n / 4 * 2 - 1) (by congr 2; omega)
      ⟨Nat.le_refl _, ⟨_, hb3⟩, L, ⟨hs3, ((x2.trans h3).ch)⟩, .refl⟩ ?_
    rintro i w5 Kn ⟨hi, ⟨x, hb5⟩, L1, ht1, hw1⟩ hKn
    have hl1 := hw1.len
    intro _
    simp only [gx]
    refine iQuo (by omega) ?_
    refine iMul (by omega) ?_
    refine iAdd (by omega) ?_
    refine iAdd (by omega) ?_
    refine iLe ?_
    refine iCndP (fun h5 => ?_) (fun h5 => ?_)
    · refine iCall ?_
      refine (uT hb5).mono fun r w6 h6 => ?_
      obtain ⟨y, rfl, hb6, hc6⟩ := h6
      have hs6 := ht1.ow.ch hc6 fun c' hc' e => hne (e ▸ hc')
      refine ⟨_, _, rfl, rfl, ?_⟩
      rw [show IntKind.u64.wrap ((m : Int) - 1) = ((m - 1 : Nat) : Int) by rw [IntWalk.u64_in _ (by omega)]; omega]
      refine YA (by omega) fun x hx => ?_
      refine pJ (by omega) ?_
      refine iLe ?_
      refine iJnX (fun xs w8 => Ext w6 w8 ∧ ∃ z : Nat, xs = [.int .i64 (z : Int)] ∧ z < n) (fun J hJ => ?_) ?_
      · refine iCndP (fun h7 => ?_) (fun h7 => ?_)
        · refine iSub (by omega) ?_
          rw [show (x : Int) - n = ((x - n : Nat) : Int) by omega]
          exact hJ _ _ ⟨Ext.refl _, x - n, rfl, by omega⟩
        · exact hJ _ _ ⟨Ext.refl _, x, rfl, by omega⟩
      rintro xs w8 ⟨h8, z, rfl, hz⟩
      intro _
      simp only [gx]
      have hs8 := hs6.ext h8
      have hb8 := hb6.ext h8
      have hc8 := aO hc6 h8
      refine iAdd (by omega) ?_
      refine iAdd (by omega) ?_
      refine iRdO (j := a + z) hs8 (by omega) (by omega) ?_
      refine iRdO (j := i) hs8 rfl (by omega) ?_
      refine iWr2 (i := i) (j := a + z) (fun _ => rfl) hs8 rfl (by omega) (by omega) (by omega) fun w13 h13 => ?_
      refine iAdd (by omega) ?_
      refine hKn (i + 1) _ ⟨by omega, ⟨_, hb8.ch h13.ch fun e => hne e⟩, sw L1 i (a + z), ⟨h13.ow, ?_⟩, .step hw1 (by omega) (by omega) (by omega) (by omega) hb⟩ (by omega)
      refine (ht1.ch.trans hc8 fun c' e => .inr ?_).trans h13.ch fun _ e => .inl e
      omega
    · exact ⟨L1, ht1, hw1⟩
  · exact ⟨L, Turn.refl hs, .refl⟩
end Go.Proofs.YtcfnoofghbmiiaaGreatDoor
