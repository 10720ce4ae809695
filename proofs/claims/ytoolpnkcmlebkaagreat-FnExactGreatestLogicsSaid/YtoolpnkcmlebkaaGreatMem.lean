/- Words for memory and one lemma for each step of a proposition that 'den' makes. Conditions: none. -/
import Derived.Test.YtoolpnkcmlebkaaGreatVj
import Derived.Laws.AppendOwn
import Derived.Laws.OwnMore
import Derived.Laws.MakeOwn
import Derived.IntWalk
import Derived.Maps.AppendAt
namespace Go.Vc
open Go.RowKit (Below)

/-! ### Memory -/
/-- Block b holds these cells (of element type e), none of them frozen. -/
def Blk (e : TypeId) (w : World) (b : Nat) (cs : List Value) : Prop := w.heap[b]? = some (.cells cs.toArray e (0, 0))
theorem heap_lt {w : World} {b : Nat} {o : Obj} (h : w.heap[b]? = some o) : b < w.heap.size := by
  rcases Nat.lt_or_ge b w.heap.size with h' | h'
  · exact h'
  · simp [Array.getElem?_eq_none h'] at h
theorem Blk.lt {e : TypeId} {w : World} {b : Nat} {cs : List Value} (h : Blk e w b cs) : b < w.heap.size := heap_lt h
theorem Blk.ext {e : TypeId} {w w' : World} {b : Nat} {cs : List Value} (h : Blk e w b cs) (he : Ext w w') : Blk e w' b cs := by
  unfold Blk at *
  rw [Below.block he b (heap_lt h)]; exact h
theorem Blk.cell {e : TypeId} {w : World} {b : Nat} {cs : List Value} (h : Blk e w b cs) (i : Nat) : w.cell? ⟨b, i, none⟩ = cs[i]? := by
  unfold Blk at h
  simp [World.cell?, h]
theorem Blk.frozen {e : TypeId} {w : World} {b : Nat} {cs : List Value} (h : Blk e w b cs) (i : Nat) : w.frozen? ⟨b, i, none⟩ = false := by
  unfold Blk at h
  simp [World.frozen?, h]
theorem Blk.set {e : TypeId} {w : World} {b : Nat} {cs : List Value} (h : Blk e w b cs) (i : Nat) (v : Value) : Blk e (w.setCell ⟨b, i, none⟩ v) b (cs.set i v) := by
  unfold Blk at *
  simp [World.setCell, Array.getElem?_modify, h]
theorem Blk.other {e : TypeId} {w : World} {b c i : Nat} {cs : List Value} (h : Blk e w b cs) (hne : b ≠ c) (v : Value) : Blk e (w.setCell ⟨c, i, none⟩ v) b cs := by
  unfold Blk at *
  rw [Below.heap_setCell _ _ _ _ hne]; exact h
theorem Blk.new (w : World) (cs : Array Value) (e : TypeId) : Blk e (w.alloc (.cells cs e)) w.heap.size cs.toList := heap_alloc_new w _

/-- A slice value that reads as these cells (elements of one cell each). -/
def Sl (w : World) (v : Value) (xs : List Value) : Prop :=
  ∃ a c, v = .slice a xs.length c ∧ xs.length ≤ c ∧ c ≤ 9223372036854775807 ∧ (xs = [] ∨ ∃ b o, a = some ⟨b, o, none⟩ ∧ ∀ i, i < xs.length → w.cell? ⟨b, o + i, none⟩ = xs[i]?)
theorem Sl.ext {w w' : World} {v : Value} {xs : List Value} (h : Sl w v xs) (he : Ext w w') : Sl w' v xs := by
  obtain ⟨a, c, h1, h2, h3, h4⟩ := h
  refine ⟨a, c, h1, h2, h3, h4.imp id fun ⟨b, o, ha, hc⟩ => ⟨b, o, ha, fun i hi => ?_⟩⟩
  have := hc i hi
  rw [List.getElem?_eq_getElem hi] at this ⊢
  exact he.cell this
theorem Sl.len {w : World} {v : Value} {xs : List Value} (h : Sl w v xs) : xs.length ≤ 9223372036854775807 := let ⟨_, _, _, h2, h3, _⟩ := h; Nat.le_trans h2 h3
theorem Sl.nil (w : World) : Sl w (.slice none 0 0) [] := ⟨none, 0, rfl, Nat.le_refl _, by omega, .inl rfl⟩
def ints (l : List Int) : List Value := l.map (.int .i64)
theorem ints_length (l : List Int) : (ints l).length = l.length := by simp [ints]
/-- A slice of int64. -/
def SlI (w : World) (v : Value) (l : List Int) : Prop := Sl w v (ints l)
theorem SlI.ext {w w' : World} {v : Value} {l : List Int} (h : SlI w v l) (he : Ext w w') : SlI w' v l := Sl.ext h he
theorem SlI.len {w : World} {v : Value} {l : List Int} (h : SlI w v l) : l.length ≤ 9223372036854775807 := by have := Sl.len h; rwa [ints_length] at this

/-- A slice of the call's own: a row from block lo on that nobody else holds (or nil). -/
def Ow (lo : Nat) (e : TypeId) (w : World) (v : Value) (xs : List Value) : Prop := w.ownsRow lo e 1 v xs.length xs
theorem Ow.sl {lo : Nat} {e : TypeId} {w : World} {v : Value} {xs : List Value} (h : Ow lo e w v xs) : Sl w v xs := by
  obtain ⟨_, h | ⟨g, cap, cur, hv, _, hh, h1, h2, h3, h4⟩⟩ := h
  · obtain ⟨rfl, h0⟩ := h
    have : xs = [] := List.length_eq_zero_iff.1 h0
    subst this
    exact Sl.nil w
  · refine ⟨_, cap, hv, h1, h2, .inr ⟨g, 0, rfl, fun i hi => ?_⟩⟩
    simp only [Nat.zero_add, World.cell?, hh]
    rw [← h4]
    simp only [Nat.mul_one, Option.isSome_none, Bool.false_eq_true, if_false, List.getElem?_take]
    rw [if_pos hi]; simp
theorem Ow.ext {lo : Nat} {e : TypeId} {w w' : World} {v : Value} {xs : List Value} (h : Ow lo e w v xs) (he : Ext w w') : Ow lo e w' v xs := by
  obtain ⟨h0, h | ⟨g, cap, cur, hv, hg, hh, h1⟩⟩ := h
  · exact ⟨h0, .inl h⟩
  · exact ⟨h0, .inr ⟨g, cap, cur, hv, hg, by rw [Below.block he g (heap_lt hh)]; exact hh, h1⟩⟩
theorem Ow.mono {lo lo' : Nat} {e : TypeId} {w : World} {v : Value} {xs : List Value} (h : Ow lo e w v xs) (hl : lo' ≤ lo) : Ow lo' e w v xs := by
  obtain ⟨h0, h | ⟨g, cap, cur, hv, hg, hh, h1⟩⟩ := h
  · exact ⟨h0, .inl h⟩
  · exact ⟨h0, .inr ⟨g, cap, cur, hv, Nat.le_trans hl hg, hh, h1⟩⟩
theorem Ow.nil (lo : Nat) (e : TypeId) (w : World) : Ow lo e w (.slice none 0 0) [] := World.ownsRow_nil w lo e 1
theorem Ow.blk {lo : Nat} {e : TypeId} {w : World} {v : Value} {xs : List Value} (h : Ow lo e w v xs) : ∀ k, v.ownBlock = some k → lo ≤ k ∧ k < w.heap.size := World.ownsRow.lt h
/-- A store into another block. -/
theorem Ow.other {lo : Nat} {e : TypeId} {w : World} {v : Value} {xs : List Value} (h : Ow lo e w v xs) {c i : Nat} (hne : v.ownBlock ≠ some c) (u : Value) : Ow lo e (w.setCell ⟨c, i, none⟩ u) v xs := by
  obtain ⟨h0, h | ⟨g, cap, cur, hv, hg, hh, h1⟩⟩ := h
  · exact ⟨h0, .inl h⟩
  · refine ⟨h0, .inr ⟨g, cap, cur, hv, hg, ?_, h1⟩⟩
    rw [Below.heap_setCell _ _ _ _ (fun e => hne (by rw [hv]; simp [Value.ownBlock, e]))]; exact hh

/-- Nothing older than lo has turned (lo: the heap's size when the call began). -/
theorem ext_set {w0 w : World} (h : Ext w0 w) {p : Addr} (hp : w0.heap.size ≤ p.block) (u : Value) : Ext w0 (w.setCell p u) := Below.setCell h hp u
theorem ext_new {w0 w : World} (h : Ext w0 w) (o : Obj) : Ext w0 (w.alloc o) := h.trans (Ext.alloc w o)

/-- Only block b may have turned. -/
structure Upd (b : Nat) (w w' : World) : Prop where
  os : w'.os = w.os
  tape : w'.tape = w.tape
  output : w'.output = w.output
  size : w'.heap.size = w.heap.size
  block : ∀ c, c ≠ b → w'.heap[c]? = w.heap[c]?
theorem Upd.refl (b : Nat) (w : World) : Upd b w w := ⟨rfl, rfl, rfl, rfl, fun _ _ => rfl⟩
theorem Upd.trans {b : Nat} {w w' w'' : World} (h : Upd b w w') (k : Upd b w' w'') : Upd b w w'' :=
  ⟨k.os.trans h.os, k.tape.trans h.tape, k.output.trans h.output, k.size.trans h.size, fun c hc => (k.block c hc).trans (h.block c hc)⟩
theorem Upd.setCell (w : World) (b i : Nat) (v : Value) : Upd b w (w.setCell ⟨b, i, none⟩ v) :=
  ⟨rfl, rfl, rfl, by simp, fun c hc => Below.heap_setCell _ _ _ _ hc⟩
theorem Ext.upd {w0 w w' : World} {b : Nat} (h : Ext w0 w) (hu : Upd b w w') (hb : w0.heap.size ≤ b) : Ext w0 w' :=
  ⟨hu.os.trans h.os, hu.tape.trans h.tape, hu.output.trans h.output, by rw [hu.size]; exact h.size, fun k hk => (hu.block k (by omega)).trans (h.block k hk)⟩
theorem Blk.upd {e : TypeId} {w w' : World} {b c : Nat} {cs : List Value} (h : Blk e w c cs) (hu : Upd b w w') (hne : c ≠ b) : Blk e w' c cs := by
  unfold Blk at *
  rw [hu.block c hne]; exact h
theorem Ow.upd {lo : Nat} {e : TypeId} {w w' : World} {v : Value} {xs : List Value} {b : Nat} (h : Ow lo e w v xs) (hu : Upd b w w') (hne : v.ownBlock ≠ some b) : Ow lo e w' v xs := by
  obtain ⟨h0, h | ⟨g, cap, cur, hv, hg, hh, h1⟩⟩ := h
  · exact ⟨h0, .inl h⟩
  · exact ⟨h0, .inr ⟨g, cap, cur, hv, hg, by rw [hu.block g (fun e => hne (by rw [hv]; simp [Value.ownBlock, e]))]; exact hh, h1⟩⟩
theorem storeCells_run {P : Program} {e : TypeId} {b : Nat} : ∀ (vs : List Value) (i : Nat) (w : World) (cs : List Value), Blk e w b cs → i + vs.length ≤ cs.length → (∀ v ∈ vs, isCell v = true) →
    ∃ w', (storeCells ⟨b, 0, none⟩ vs i).run P w = .ok () w' ∧ Upd b w w' ∧ Blk e w' b (cs.take i ++ vs ++ cs.drop (i + vs.length))
  | [], i, w, cs, hb, _, _ => ⟨w, by simp [storeCells], Upd.refl _ _, by simpa using hb⟩
  | v :: vs, i, w, cs, hb, hl, hc => by
    simp only [List.length_cons] at hl
    have ha : (⟨b, 0, none⟩ : Addr).add i = ⟨b, i, none⟩ := by
      simp only [Addr.add]; split
      · rename_i e; simp [e]
      · simp
    have h1 : (store ⟨b, i, none⟩ v).run P w = .ok () (w.setCell ⟨b, i, none⟩ v) := by
      rw [run_store P w _ _ _ (isCell_one (hc v (by simp))), hb.cell i, List.getElem?_eq_getElem (by omega)]
      simp [hb.frozen i]
    obtain ⟨w', h2, h3, h4⟩ := storeCells_run (P := P) vs (i + 1) (w.setCell ⟨b, i, none⟩ v) (cs.set i v) (hb.set i v) (by simp; omega) (fun v' hv' => hc v' (by simp [hv']))
    refine ⟨w', ?_, (Upd.setCell w b i v).trans h3, ?_⟩
    · simp only [storeCells, Sem.run_bind, ha, h1, Result.andThen_ok, h2]
    · have : (cs.set i v).take (i + 1) ++ vs ++ (cs.set i v).drop (i + 1 + vs.length) = cs.take i ++ v :: vs ++ cs.drop (i + (v :: vs).length) := by
        rw [List.take_succ_eq_append_getElem (by simp; omega), List.take_set_of_le (by omega), List.drop_set_of_lt (by omega)]
        simp [Nat.add_assoc, Nat.add_comm 1]
      rw [this] at h4; exact h4

/-! ### One step -/
section
variable {P : Program} {w : World}

theorem iPick {t : Bool} {a b : Value} {K : Value → Prop} (h : K (if t then a else b)) : xPick (.bool t) a b K := ⟨t, rfl, h⟩
theorem iNil {a : Addr} {K : Value → Prop} (h : K (.pointer (some a))) : xNil (.pointer (some a)) K := ⟨trivial, h⟩
theorem iNilF {f : FuncId} {a b : Array Value} {K : Value → Prop} (h : K (.func (.func f) a b)) : xNil (.func (.func f) a b) K := ⟨trivial, h⟩
theorem iFa {off b o : Nat} {K : Value → Prop} (h : K (.pointer (some ⟨b, o + off, none⟩))) : xFa off (.pointer (some ⟨b, o, none⟩)) K := by
  refine ⟨_, rfl, ?_⟩
  have : (⟨b, o, none⟩ : Addr).add off = ⟨b, o + off, none⟩ := by
    simp only [Addr.add]; split
    · rename_i e; simp [e]
    · rfl
  rw [this]; exact h
theorem iLd {p : Addr} {v : Value} {K : Value → Prop} (hc : w.cell? p = some v) (h : K v) : xLd w (.pointer (some p)) K := ⟨_, _, rfl, hc, h⟩
theorem iLdB {e : TypeId} {b i : Nat} {cs : List Value} {v : Value} {K : Value → Prop} (hb : Blk e w b cs) (hi : cs[i]? = some v) (h : K v) : xLd w (.pointer (some ⟨b, i, none⟩)) K := iLd (by rw [hb.cell i]; exact hi) h
/-- A whole struct out of its block. -/
theorem iLdA {e : TypeId} {b n : Nat} {cs : List Value} {K : Value → Prop} (hb : Blk e w b cs) (hn : cs.length = n) (h : K (.agg cs.toArray)) : xLdA w n (.pointer (some ⟨b, 0, none⟩)) K := by
  refine ⟨_, cs.toArray, rfl, by simpa using hn, fun i hi => ?_, h⟩
  have : (⟨b, 0, none⟩ : Addr).add i = ⟨b, i, none⟩ := by
    simp only [Addr.add]; split
    · rename_i e; simp [e]
    · simp
  rw [this, hb.cell i]; simp
/-- A part of a block: n cells from o on. -/
theorem iLdP {e : TypeId} {b o n : Nat} {cs : List Value} {K : Value → Prop} (hb : Blk e w b cs) (hn : o + n ≤ cs.length) (h : K (.agg (cs.extract o (o + n)).toArray)) : xLdA w n (.pointer (some ⟨b, o, none⟩)) K := by
  refine ⟨_, (cs.extract o (o + n)).toArray, rfl, by simp; omega, fun i hi => ?_, h⟩
  have : (⟨b, o, none⟩ : Addr).add i = ⟨b, o + i, none⟩ := by
    simp only [Addr.add]; split
    · rename_i e; simp [e]
    · simp
  rw [this, hb.cell (o + i)]; simp [hi]
theorem iIa {v : Value} {xs : List Value} {j : Int} {k : IntKind} {K : Value → Prop} (hs : Sl w v xs) (h0 : 0 ≤ j) (h1 : j < xs.length)
    (h : ∀ p, w.cell? p = xs[j.toNat]? → K (.pointer (some p))) : xIa 1 v (.int k j) K := by
  obtain ⟨a, c, rfl, h2, h3, h4⟩ := hs
  rcases h4 with rfl | ⟨b, o, rfl, hc⟩
  · simp at h1; omega
  · refine ⟨_, _, _, _, _, rfl, rfl, h0, h1, h _ ?_⟩
    have : (⟨b, o, none⟩ : Addr).add (j.toNat * 1) = ⟨b, o + j.toNat, none⟩ := by
      simp only [Addr.add]; split
      · rename_i e; simp at e; simp [e]
      · simp
    rw [this]; exact hc _ (by omega)
theorem iIaI {v : Value} {l : List Int} {j : Int} {k : IntKind} {K : Value → Prop} (hs : SlI w v l) (h0 : 0 ≤ j) (h1 : j < l.length)
    (h : ∀ p, w.cell? p = some (.int .i64 (l.getD j.toNat 0)) → K (.pointer (some p))) : xIa 1 v (.int k j) K := by
  refine iIa hs h0 (by rw [ints_length]; exact h1) fun p hp => h p (hp.trans ?_)
  have : j.toNat < l.length := by omega
  simp [ints, this]
theorem iLenS {v : Value} {xs : List Value} {K : Value → Prop} (hs : Sl w v xs) (h : K (.int .i64 (xs.length : Nat))) : xLenS v K := by
  obtain ⟨a, c, rfl, _⟩ := hs; exact ⟨_, _, _, rfl, h⟩
theorem iLenI {v : Value} {l : List Int} {K : Value → Prop} (hs : SlI w v l) (h : K (.int .i64 (l.length : Nat))) : xLenS v K := iLenS hs (by rw [ints_length]; exact h)
theorem iLenL {a : Option Addr} {n c : Nat} {K : Value → Prop} (h : K (.int .i64 (n : Nat))) : xLenS (.slice a n c) K := ⟨_, _, _, rfl, h⟩
theorem iAdd {a b : Int} {K : Value → Prop} (hb : -9223372036854775808 ≤ a + b ∧ a + b ≤ 9223372036854775807) (h : K (.int .i64 (a + b))) : xAdd .i64 (.int .i64 a) (.int .i64 b) K :=
  ⟨_, _, rfl, rfl, by rw [IntWalk.i64_in _ hb]; exact h⟩
theorem iSub {a b : Int} {K : Value → Prop} (hb : -9223372036854775808 ≤ a - b ∧ a - b ≤ 9223372036854775807) (h : K (.int .i64 (a - b))) : xSub .i64 (.int .i64 a) (.int .i64 b) K :=
  ⟨_, _, rfl, rfl, by rw [IntWalk.i64_in _ hb]; exact h⟩
theorem iMul {a b : Int} {K : Value → Prop} (hb : -9223372036854775808 ≤ a * b ∧ a * b ≤ 9223372036854775807) (h : K (.int .i64 (a * b))) : xMul .i64 (.int .i64 a) (.int .i64 b) K :=
  ⟨_, _, rfl, rfl, by rw [IntWalk.i64_in _ hb]; exact h⟩
theorem iQuo {a b : Int} {K : Value → Prop} (hb : 0 ≤ a ∧ a ≤ 9223372036854775807 ∧ 1 ≤ b) (h : K (.int .i64 (a / b))) : xQuo .i64 (.int .i64 a) (.int .i64 b) K :=
  ⟨_, _, rfl, rfl, by omega, by rw [IntWalk.i64_quo _ _ hb]; exact h⟩
theorem iRem {a b : Int} {K : Value → Prop} (hb : 0 ≤ a ∧ b ≠ 0) (h : K (.int .i64 (a % b))) : xRem .i64 (.int .i64 a) (.int .i64 b) K :=
  ⟨_, _, rfl, rfl, hb.2, by rw [IntWalk.rem_in _ _ hb.1]; exact h⟩
theorem iEq {k : IntKind} {a b : Int} {K : Value → Prop} (h : K (.bool (decide (a = b)))) : xEq k (.int k a) (.int k b) K := ⟨_, _, rfl, rfl, h⟩
theorem iNe {k : IntKind} {a b : Int} {K : Value → Prop} (h : K (.bool (decide (¬ a = b)))) : xNe k (.int k a) (.int k b) K := ⟨_, _, rfl, rfl, h⟩
theorem iLt {k : IntKind} {a b : Int} {K : Value → Prop} (h : K (.bool (decide (a < b)))) : xLt k (.int k a) (.int k b) K := ⟨_, _, rfl, rfl, h⟩
theorem iLe {k : IntKind} {a b : Int} {K : Value → Prop} (h : K (.bool (decide (a ≤ b)))) : xLe k (.int k a) (.int k b) K := ⟨_, _, rfl, rfl, h⟩
theorem iNot {b : Bool} {K : Value → Prop} (h : K (.bool (!b))) : xNot (.bool b) K := ⟨_, rfl, h⟩
theorem iEx {vs : Array Value} {v : Value} {i : Nat} {K : Value → Prop} (hv : vs[i]? = some v) (h : K v) : xEx (.tuple vs) i K := ⟨_, _, rfl, hv, h⟩
theorem iE20 {a b : Value} {K : Value → Prop} (h : K a) : xEx (.tuple #[a, b]) 0 K := ⟨_, _, rfl, rfl, h⟩
theorem iE21 {a b : Value} {K : Value → Prop} (h : K b) : xEx (.tuple #[a, b]) 1 K := ⟨_, _, rfl, rfl, h⟩
theorem iE30 {a b c : Value} {K : Value → Prop} (h : K a) : xEx (.tuple #[a, b, c]) 0 K := ⟨_, _, rfl, rfl, h⟩
theorem iE31 {a b c : Value} {K : Value → Prop} (h : K b) : xEx (.tuple #[a, b, c]) 1 K := ⟨_, _, rfl, rfl, h⟩
theorem iE32 {a b c : Value} {K : Value → Prop} (h : K c) : xEx (.tuple #[a, b, c]) 2 K := ⟨_, _, rfl, rfl, h⟩
theorem iE40 {a b c d : Value} {K : Value → Prop} (h : K a) : xEx (.tuple #[a, b, c, d]) 0 K := ⟨_, _, rfl, rfl, h⟩
theorem iE41 {a b c d : Value} {K : Value → Prop} (h : K b) : xEx (.tuple #[a, b, c, d]) 1 K := ⟨_, _, rfl, rfl, h⟩
theorem iE42 {a b c d : Value} {K : Value → Prop} (h : K c) : xEx (.tuple #[a, b, c, d]) 2 K := ⟨_, _, rfl, rfl, h⟩
theorem iE43 {a b c d : Value} {K : Value → Prop} (h : K d) : xEx (.tuple #[a, b, c, d]) 3 K := ⟨_, _, rfl, rfl, h⟩
theorem iBuild {z : Array Value} {pl : Array (Nat × Nat)} {ps : List (Nat × Value)} {cs : Array Value} {K : Value → Prop} (hf : Instr.fill (pl[·]?) z ps = some cs) (h : K (.agg cs)) : xBuild z pl ps K := ⟨_, hf, h⟩
theorem iConv64 {a : Int} {k : IntKind} {K : Value → Prop} (hb : -9223372036854775808 ≤ a ∧ a ≤ 9223372036854775807) (h : K (.int .i64 a)) : xConv .i64 (.int k a) K :=
  ⟨_, _, rfl, by rw [IntWalk.i64_in _ hb]; exact h⟩
theorem iConvU {a : Int} {k : IntKind} {K : Value → Prop} (hb : 0 ≤ a ∧ a ≤ 18446744073709551615) (h : K (.int .u64 a)) : xConv .u64 (.int k a) K :=
  ⟨_, _, rfl, by rw [IntWalk.u64_in _ hb]; exact h⟩
/-- A new block, under a name of its own. -/
theorem iNew {cs : Array Value} {e : TypeId} {K : Value → World → Prop} (h : ∀ b w', b = w.heap.size ∧ w'.heap.size = b + 1 → Ext w w' → Blk e w' b cs.toList → K (.pointer (some ⟨b, 0, none⟩)) w') : xNew cs e w K :=
  h _ _ ⟨rfl, by simp⟩ (Ext.alloc w _) (Blk.new w cs e)
theorem iStB {e : TypeId} {b i : Nat} {cs : List Value} {v : Value} {K : World → Prop} (hb : Blk e w b cs) (hi : i < cs.length) (hv : isCell v = true) (h : Blk e (w.setCell ⟨b, i, none⟩ v) b (cs.set i v) → K (w.setCell ⟨b, i, none⟩ v)) :
    xSt w (.pointer (some ⟨b, i, none⟩)) v K :=
  ⟨_, _, rfl, by rw [hb.cell i, List.getElem?_eq_getElem hi], hb.frozen i, hv, h (hb.set i v)⟩

/-- make([]T, n): a new block of n zeros. -/
theorem iMk {e : TypeId} {z : Value} {bytes n : Nat} {k : IntKind} {K : Value → World → Prop} (h1 : bytes * n ≤ 2 ^ 48) (h2 : (n : Int) ≤ 9223372036854775807) (hz : isCell z = true)
    (h : ∀ b w', b = w.heap.size ∧ w'.heap.size = b + 1 → Ext w w' → Blk e w' b (List.replicate n z) → K (.slice (some ⟨b, 0, none⟩) n n) w') : xMk e (Value.cells z) 1 bytes (.int k (n : Int)) (.int k (n : Int)) w K := by
  refine ⟨k, k, n, n, rfl, rfl, Nat.le_refl _, h2, by exact_mod_cast h1, ?_⟩
  have hb := Blk.new w ((Array.range (n * 1)).map (fun i => z.cells[i % z.cells.size]!)) e
  have hc : ((Array.range (n * 1)).map (fun i => z.cells[i % z.cells.size]!)).toList = List.replicate n z := by
    rw [isCell_cells hz]
    apply List.ext_getElem
    · simp
    · intro i h1 h2
      simp [Nat.mod_one]
  rw [hc] at hb
  exact h _ _ ⟨rfl, by simp⟩ (Ext.alloc w _) hb
theorem iIaL {b o n c : Nat} {j : Nat} {k : IntKind} {K : Value → Prop} (hj : j < n) (h : K (.pointer (some ⟨b, o + j, none⟩))) : xIa 1 (.slice (some ⟨b, o, none⟩) n c) (.int k (j : Int)) K := by
  refine ⟨_, _, _, _, _, rfl, rfl, by omega, by omega, ?_⟩
  have : (⟨b, o, none⟩ : Addr).add ((j : Int).toNat * 1) = ⟨b, o + j, none⟩ := by
    simp only [Addr.add, Int.toNat_natCast, Nat.mul_one]; split
    · rename_i e; simp [e]
    · rfl
  rw [this]; exact h
theorem Ow.ofBlk {lo : Nat} {e : TypeId} {w : World} {b n : Nat} {cs : List Value} (h : Blk e w b cs) (hl : lo ≤ b) (hn : cs.length = n) (hm : n ≤ 9223372036854775807) : Ow lo e w (.slice (some ⟨b, 0, none⟩) n n) cs := by
  subst hn
  exact ⟨by simp, .inr ⟨b, cs.length, cs.toArray, rfl, hl, h, Nat.le_refl _, hm, by simp, by simp⟩⟩
/-- An element of a slice of the call's own, to be read or written. -/
theorem iIaOw {lo : Nat} {e : TypeId} {v : Value} {xs : List Value} {j : Int} {k : IntKind} {K : Value → Prop} (hs : Ow lo e w v xs) (h0 : 0 ≤ j) (h1 : j < xs.length)
    (h : ∀ b o, v.ownBlock = some b → lo ≤ b → b < w.heap.size → w.cell? ⟨b, o, none⟩ = xs[j.toNat]? → w.frozen? ⟨b, o, none⟩ = false → (∀ u, Ow lo e (w.setCell ⟨b, o, none⟩ u) v (xs.set j.toNat u)) → K (.pointer (some ⟨b, o, none⟩))) :
    xIa 1 v (.int k j) K := by
  obtain ⟨m, rfl⟩ := Int.eq_ofNat_of_zero_le h0
  obtain ⟨hl, hc | ⟨g, cap, cur, hv, hg, hh, h2, h3, h4, h5⟩⟩ := hs
  · omega
  · subst hv
    have hs' : w.ownsRow lo e 1 (.slice (some ⟨g, 0, none⟩) xs.length cap) xs.length xs := ⟨hl, .inr ⟨g, cap, cur, rfl, hg, hh, h2, h3, h4, h5⟩⟩
    refine iIaL (j := m) (by omega) ?_
    rw [Nat.zero_add]
    refine h g m rfl hg (heap_lt hh) ?_ ?_ ?_
    · rw [Int.toNat_natCast]; exact hs'.cellAt m (by omega)
    · exact hs'.frozenAt m
    · intro u
      rw [Int.toNat_natCast]
      have := hs'.stored m u
      unfold Ow
      rw [List.length_set]
      exact this.1
theorem iSt {b o : Nat} {old v : Value} {K : World → Prop} (hc : w.cell? ⟨b, o, none⟩ = some old) (hf : w.frozen? ⟨b, o, none⟩ = false) (hv : isCell v = true) (h : K (w.setCell ⟨b, o, none⟩ v)) : xSt w (.pointer (some ⟨b, o, none⟩)) v K :=
  ⟨_, _, rfl, hc, hf, hv, h⟩

/-- A struct stored whole into its block. -/
theorem iStAB {e : TypeId} {b n : Nat} {cs : List Value} {a : Array Value} {K : World → Prop} (hb : Blk e w b cs) (hn : cs.length = n) (ha : a.size = n) (hc : ∀ v ∈ a.toList, isCell v = true)
    (h : ∀ w', Upd b w w' → Blk e w' b a.toList → K w') : xStA P w n (.pointer (some ⟨b, 0, none⟩)) (.agg a) K := by
  obtain ⟨w', h1, h2, h3⟩ := storeCells_run (P := P) a.toList 0 w cs hb (by simp; omega) hc
  refine ⟨_, w', rfl, by simpa [Value.cells] using ha, h1, h w' h2 ?_⟩
  have : cs.drop (0 + a.toList.length) = [] := List.drop_of_length_le (by simp; omega)
  rw [this] at h3
  simpa using h3

/-! ### Worlds in which one row may have turned and new blocks lie -/
theorem Ext.toGrown {w w' : World} (h : Ext w w') (row : Option Nat) : w.grownBy w' row := ⟨h.os, h.tape, h.output, h.size, fun k hk _ => h.block k hk⟩
theorem Upd.toGrown {b : Nat} {w w' : World} (h : Upd b w w') : w.grownBy w' (some b) := ⟨h.os, h.tape, h.output, by rw [h.size]; exact Nat.le_refl _, fun k _ hne => h.block k (fun e => hne (by rw [e]))⟩
theorem grown_refl (w : World) (row : Option Nat) : w.grownBy w row := (Ext.refl w).toGrown row
theorem grown_trans {w w' w'' : World} {row : Option Nat} (h : w.grownBy w' row) (k : w'.grownBy w'' row) : w.grownBy w'' row :=
  ⟨k.os.trans h.os, k.tape.trans h.tape, k.output.trans h.output, Nat.le_trans h.size k.size, fun i hi hne => (k.block i (by have := h.size; omega) hne).trans (h.block i hi hne)⟩
/-- Behind it another row, which is new, has turned. -/
theorem grown_new {w w' w'' : World} {row row' : Option Nat} (h : w.grownBy w' row) (k : w'.grownBy w'' row') (hn : ∀ b, row' = some b → w.heap.size ≤ b ∨ row = some b) : w.grownBy w'' row :=
  ⟨k.os.trans h.os, k.tape.trans h.tape, k.output.trans h.output, Nat.le_trans h.size k.size, fun i hi hne => (k.block i (by have := h.size; omega) (fun e => by
    rcases hn i e.symm with h1 | h1
    · omega
    · exact hne h1.symm)).trans (h.block i hi hne)⟩
theorem Ext.grown {w0 w w' : World} {row : Option Nat} (h : Ext w0 w) (hg : w.grownBy w' row) (hr : ∀ b, row = some b → w0.heap.size ≤ b) : Ext w0 w' :=
  Below.grown h hg h.size hr
theorem grown_none {w w' : World} (hg : w.grownBy w' none) : Ext w w' := (Ext.refl w).grown hg (fun b e => by cases e)
theorem Blk.grown {e : TypeId} {w w' : World} {c : Nat} {cs : List Value} {row : Option Nat} (h : Blk e w c cs) (hg : w.grownBy w' row) (hne : row ≠ some c) : Blk e w' c cs := by
  unfold Blk at *
  rw [hg.block c (heap_lt h) (fun e => hne e.symm)]; exact h
theorem Ow.grown {lo : Nat} {e : TypeId} {w w' : World} {v : Value} {xs : List Value} {row : Option Nat} (h : Ow lo e w v xs) (hg : w.grownBy w' row) (hne : v.ownBlock = none ∨ v.ownBlock ≠ row) : Ow lo e w' v xs :=
  World.ownsRow.kept h hg hne
theorem Ow.lt {lo : Nat} {e : TypeId} {w : World} {v : Value} {xs : List Value} (h : Ow lo e w v xs) {b : Nat} (hb : w.heap.size ≤ b) : v.ownBlock ≠ some b := fun e => by have := (h.blk b e).2; omega
theorem Sl.ofBlk {e : TypeId} {w : World} {b n : Nat} {cs : List Value} (h : Blk e w b cs) (hn : cs.length = n) (hm : n ≤ 9223372036854775807) : Sl w (.slice (some ⟨b, 0, none⟩) n n) cs := by
  subst hn
  exact ⟨_, cs.length, rfl, Nat.le_refl _, hm, .inr ⟨b, 0, rfl, fun i _ => by rw [Nat.zero_add]; exact h.cell i⟩⟩

theorem iBs0 {e : TypeId} {z : Value} {K : Value → World → Prop} (h : ∀ v w', w'.heap.size = w.heap.size + 1 → Ext w w' → Ow w.heap.size e w' v [] → K v w') : xBs e (Value.cells z) 1 0 [] w K := by
  refine ⟨_, rfl, h _ _ (by simp) (Ext.alloc w _) ?_⟩
  exact ⟨rfl, .inr ⟨w.heap.size, 0, _, rfl, Nat.le_refl _, heap_alloc_new w _, Nat.le_refl _, by simp [maxLen], by simp [show Array.range 0 = #[] from rfl], rfl⟩⟩
theorem iBs1 {e : TypeId} {z x : Value} {K : Value → World → Prop} (hz : isCell z = true) (hx : isCell x = true) (h : ∀ b w', b = w.heap.size ∧ w'.heap.size = b + 1 → Ext w w' → Blk e w' b [x] → K (.slice (some ⟨b, 0, none⟩) 1 1) w') :
    xBs e (Value.cells z) 1 1 [(0, x)] w K := by
  refine ⟨#[x], ?_, h _ _ ⟨rfl, by simp⟩ (Ext.alloc w _) (Blk.new w #[x] e)⟩
  rw [isCell_cells hz]
  simp [Instr.fill, isCell_cells hx, show Array.range 1 = #[0] from rfl]
/-- 'append(s, x...)', s the call's own. -/
theorem iAppA {lo : Nat} {t ty e : TypeId} {z v x : Value} {bytes : Nat} {xs ys : List Value} {K : Value → World → Prop} (ht : P.underlying t = some (.slice e)) (hi : (P.info? e).map (fun i => (i.zero, i.size, i.bytes)) = some (some z, 1, bytes)) (hz : isCell z = true)
    (hown : Ow lo e w v xs) (hs : Sl w x ys) (hy : ∀ u ∈ ys, isCell u = true) (hb : (xs.length + ys.length) * bytes ≤ 140737488355328) (hm : xs.length + ys.length ≤ 9223372036854775807) (hlo : lo ≤ w.heap.size)
    (h : ∀ v' w', Ow lo e w' v' (xs ++ ys) → w.grownBy w' v.ownBlock → (v'.ownBlock = v.ownBlock ∨ ∃ c, v'.ownBlock = some c ∧ w.heap.size ≤ c) → K v' w') : xOp P (Builtin.append_ #[t, t] ty #[v, x]) w K := by
  obtain ⟨i, hi, h3⟩ := Option.map_eq_some_iff.1 hi
  simp only [Prod.mk.injEq] at h3
  obtain ⟨hz0, hsz, hby⟩ := h3
  obtain ⟨a, c, rfl, hlc, hcm, hcells⟩ := hs
  have key : ∀ ad : Addr, a = some ad → (∀ j u, ys[j]? = some u → w.cell? (ad.add j) = some u) → xOp P (Builtin.append_ #[t, t] ty #[v, .slice a ys.length c]) w K := by
    rintro ad rfl hnews
    obtain ⟨v', w', h4, h5, h6, _, h7⟩ := run_append_own_at (P := P) (w := w) lo t ty e i z 1 bytes ht hi hz0 hsz hby (by rw [isCell_cells hz]; rfl) (by omega) v xs.length xs hown ad ys.length c ys (by simp) hnews (fun u hu => isCell_one (hy u hu)) (by simpa [maxLen] using hm) hb hlo
    refine ⟨v', w', h4, h v' w' ?_ h6 (h7.imp id fun e => ⟨_, e, Nat.le_refl _⟩)⟩
    unfold Ow
    rw [List.length_append]; exact h5
  rcases hcells with rfl | ⟨b, o, rfl, hc⟩
  · cases a with
    | some ad => exact key ad rfl (fun j u hu => by simp at hu)
    | none =>
      refine ⟨v, w, ?_, h v w (by simpa using hown) (grown_refl w _) (.inl rfl)⟩
      have hr := run_append_owned_none (P := P) w lo t ty e i 1 ht hi v xs.length xs hown
      rcases hown.2 with ⟨rfl, hn⟩ | ⟨g, cap, cur, rfl, _, _, hnc, _⟩
      · simp [Builtin.append_, run_underlying ht, sizeOf, typeInfo, hi, Builtin.lenOf, Builtin.firstCells]
      · simp [Builtin.append_, run_underlying ht, sizeOf, typeInfo, hi, Builtin.lenOf, Builtin.firstCells, hnc, storeCells]
  · refine key ⟨b, o, none⟩ rfl fun j u hu => ?_
    have hj : j < ys.length := (List.getElem?_eq_some_iff.1 hu).1
    have : (⟨b, o, none⟩ : Addr).add j = ⟨b, o + j, none⟩ := by
      simp only [Addr.add]; split
      · rename_i e; simp [e]
      · rfl
    rw [this, hc j hj, hu]
theorem iApp {lo : Nat} {t ty e : TypeId} {z v x : Value} {bytes : Nat} {xs ys : List Value} {K : Value → World → Prop} (ht : P.underlying t = some (.slice e)) (hi : (P.info? e).map (fun i => (i.zero, i.size, i.bytes)) = some (some z, 1, bytes)) (hz : isCell z = true)
    (hown : Ow lo e w v xs) (hs : Sl w x ys) (hy : ∀ u ∈ ys, isCell u = true) (hb : (xs.length + ys.length) * bytes ≤ 140737488355328) (hm : xs.length + ys.length ≤ 9223372036854775807) (hlo : lo ≤ w.heap.size)
    (h : ∀ v' w', Ow lo e w' v' (xs ++ ys) → w.grownBy w' v.ownBlock → K v' w') : xOp P (Builtin.append_ #[t, t] ty #[v, x]) w K :=
  iAppA ht hi hz hown hs hy hb hm hlo fun v' w' h1 h2 _ => h v' w' h1 h2
/-- 's = append(s, x)': one element. -/
theorem iApp1A {lo : Nat} {t ty e : TypeId} {z v x : Value} {bytes : Nat} {xs : List Value} {K : Value → World → Prop} (ht : P.underlying t = some (.slice e)) (hi : (P.info? e).map (fun i => (i.zero, i.size, i.bytes)) = some (some z, 1, bytes)) (hz : isCell z = true)
    (hown : Ow lo e w v xs) (hx : isCell x = true) (hb : (xs.length + 1) * bytes ≤ 140737488355328) (hm : xs.length + 1 ≤ 9223372036854775807) (hlo : lo ≤ w.heap.size)
    (h : ∀ v' w', Ow lo e w' v' (xs ++ [x]) → w.grownBy w' v.ownBlock → (v'.ownBlock = v.ownBlock ∨ ∃ c, v'.ownBlock = some c ∧ w.heap.size ≤ c) → K v' w') : xBs e (Value.cells z) 1 1 [(0, x)] w fun y w1 => xOp P (Builtin.append_ #[t, t] ty #[v, y]) w1 K := by
  refine iBs1 hz hx fun b w1 hb1 h1 hB => ?_
  refine iAppA ht hi hz (hown.ext h1) (Sl.ofBlk hB rfl (by omega)) (by simpa using hx) hb hm (by omega) fun v' w' ho hg hat => h v' w' ho ?_ (hat.imp id fun ⟨c, e, hc⟩ => ⟨c, e, Nat.le_trans h1.size hc⟩)
  exact grown_new (h1.toGrown v.ownBlock) hg (fun b hb => .inr hb)
theorem iApp1 {lo : Nat} {t ty e : TypeId} {z v x : Value} {bytes : Nat} {xs : List Value} {K : Value → World → Prop} (ht : P.underlying t = some (.slice e)) (hi : (P.info? e).map (fun i => (i.zero, i.size, i.bytes)) = some (some z, 1, bytes)) (hz : isCell z = true)
    (hown : Ow lo e w v xs) (hx : isCell x = true) (hb : (xs.length + 1) * bytes ≤ 140737488355328) (hm : xs.length + 1 ≤ 9223372036854775807) (hlo : lo ≤ w.heap.size)
    (h : ∀ v' w', Ow lo e w' v' (xs ++ [x]) → w.grownBy w' v.ownBlock → K v' w') : xBs e (Value.cells z) 1 1 [(0, x)] w fun y w1 => xOp P (Builtin.append_ #[t, t] ty #[v, y]) w1 K := by
  refine iBs1 hz hx fun b w1 hb1 h1 hB => ?_
  refine iApp ht hi hz (hown.ext h1) (Sl.ofBlk hB rfl (by omega)) (by simpa using hx) hb hm (by omega) fun v' w' ho hg => h v' w' ho ?_
  exact grown_new (h1.toGrown v.ownBlock) hg (fun b hb => .inr hb)
theorem grown_of_ext {w w1 w2 : World} {row : Option Nat} (h : Ext w w1) (hg : w1.grownBy w2 row) : w.grownBy w2 row := grown_trans (h.toGrown row) hg

/-! ### Calls -/
/-- The call hands back v and leaves old memory alone. -/
def Ret (P : Program) (f : FuncId) (args : Array Value) (w : World) (v : Value) : Prop := Cal P f args w fun v' w' => v' = v ∧ Ext w w'
theorem iCall {f : FuncId} {args : List Value} {K : Value → World → Prop} (hc : Cal P f args.toArray w K) : callV P (.func (.func f) #[] #[]) args w K := ⟨f, #[], #[], rfl, by simpa using hc⟩
theorem iRet {f : FuncId} {args : List Value} {v : Value} {K : Value → World → Prop} (hc : Ret P f args.toArray w v) (h : ∀ w', Ext w w' → K v w') : callV P (.func (.func f) #[] #[]) args w K :=
  iCall (hc.mono fun _ _ ⟨e, he⟩ => by subst e; exact h _ he)
theorem iRetQ {f : FuncId} {args : List Value} {v : Value} {K : Value → Prop} (hc : ∀ w', Ext w w' → Ret P f args.toArray w' v) (h : K v) : callQ P (.func (.func f) #[] #[]) args w K :=
  ⟨v, fun w' hw' => iCall (hc w' hw'), h⟩

/-! ### Control -/
theorem iCnd {b : Bool} {A B : Prop} (h1 : b = true → A) (h2 : b = false → B) : cnd (.bool b) A B := ⟨b, rfl, h1, h2⟩
theorem iCndP {p : Prop} [Decidable p] {A B : Prop} (h1 : p → A) (h2 : ¬ p → B) : cnd (.bool (decide p)) A B := ⟨_, rfl, fun h => h1 (of_decide_eq_true h), fun h => h2 (of_decide_eq_false h)⟩
theorem iCndT {b : Bool} {A B : Prop} (hb : b = true) (h : A) : cnd (.bool b) A B := ⟨b, rfl, fun _ => h, fun e => by rw [hb] at e; cases e⟩
theorem iCndF {b : Bool} {A B : Prop} (hb : b = false) (h : B) : cnd (.bool b) A B := ⟨b, rfl, (fun e => by rw [hb] at e; cases e), fun _ => h⟩
theorem iJn {F : (List Value → World → Prop) → Prop} {K : List Value → World → Prop} (h : F K) : jn F K := h
/-- A loop: 'st' lays the state in the slots; what holds; what goes down. -/
theorem iLp {σ : Type} (st : σ → List Value) (I : σ → World → Prop) (μ : σ → Nat) (s0 : σ) {body : (List Value → World → Prop) → List Value → World → Prop} {xs0 : List Value} {w0 : World}
    (h0 : st s0 = xs0) (hI : I s0 w0) (h : ∀ s w (Kn : List Value → World → Prop), I s w → (∀ s' w', I s' w' → μ s' < μ s → Kn (st s') w') → body Kn (st s) w) : lp body xs0 w0 := by
  refine ⟨fun m xs w => ∃ s, xs = st s ∧ I s w ∧ m = μ s, ⟨μ s0, s0, h0.symm, hI, rfl⟩, ?_⟩
  rintro m xs w ⟨s, rfl, hs, rfl⟩
  exact h s w _ hs fun s' w' hs' hlt => ⟨μ s', hlt, s', rfl, hs', rfl⟩

/-! ### Slices of natural numbers; bits -/
def nats (l : List Nat) : List Int := l.map Int.ofNat
theorem nats_length (l : List Nat) : (nats l).length = l.length := by simp [nats]
theorem nats_getD (l : List Nat) (k : Nat) : (nats l).getD k 0 = ((l.getD k 0 : Nat) : Int) := by
  simp only [nats, List.getD_eq_getElem?_getD, List.getElem?_map]
  cases l[k]? <;> simp
def SlN (w : World) (v : Value) (l : List Nat) : Prop := SlI w v (nats l)
theorem SlN.ext {w w' : World} {v : Value} {l : List Nat} (h : SlN w v l) (he : Ext w w') : SlN w' v l := Sl.ext h he
theorem SlN.len {w : World} {v : Value} {l : List Nat} (h : SlN w v l) : l.length ≤ 9223372036854775807 := by have := SlI.len h; rwa [nats_length] at this
theorem iLenN {v : Value} {l : List Nat} {K : Value → Prop} (hs : SlN w v l) (h : K (.int .i64 (l.length : Nat))) : xLenS v K := iLenI hs (by rw [nats_length]; exact h)
theorem iIaN {v : Value} {l : List Int} {j : Nat} {k : IntKind} {K : Value → Prop} (hs : SlI w v l) (h1 : j < l.length)
    (h : ∀ p, w.cell? p = some (.int .i64 (l.getD j 0)) → K (.pointer (some p))) : xIa 1 v (.int k (j : Int)) K :=
  iIaI hs (by omega) (by omega) fun p hp => h p (by rw [hp]; simp)
theorem iIaNN {v : Value} {l : List Nat} {j : Nat} {k : IntKind} {K : Value → Prop} (hs : SlN w v l) (h1 : j < l.length)
    (h : ∀ p, w.cell? p = some (.int .i64 ((l.getD j 0 : Nat) : Int)) → K (.pointer (some p))) : xIa 1 v (.int k (j : Int)) K :=
  iIaN hs (by rw [nats_length]; exact h1) fun p hp => h p (by rw [hp, nats_getD])

theorem ofInt_nat (a : Nat) : BitVec.ofInt 64 (a : Int) = BitVec.ofNat 64 a := by simp
theorem iOr_nat {a b : Nat} (ha : a < 2 ^ 63) (hb : b < 2 ^ 63) : iOr .i64 (a : Int) (b : Int) = ((a ||| b : Nat) : Int) := by
  have : a ||| b < 2 ^ 63 := Nat.or_lt_two_pow ha hb
  rw [show iOr .i64 (a : Int) (b : Int) = IntKind.i64.wrap ((BitVec.ofInt 64 (a : Int) ||| BitVec.ofInt 64 (b : Int)).toNat : Nat) from rfl, ofInt_nat, ofInt_nat]
  rw [BitVec.toNat_or, BitVec.toNat_ofNat, BitVec.toNat_ofNat, Nat.mod_eq_of_lt (by omega), Nat.mod_eq_of_lt (by omega)]
  exact IntWalk.i64_in _ (by omega)
theorem iAnd_nat {a b : Nat} (ha : a < 2 ^ 63) (hb : b < 2 ^ 63) : iAnd .i64 (a : Int) (b : Int) = ((a &&& b : Nat) : Int) := by
  have : a &&& b < 2 ^ 63 := Nat.and_lt_two_pow _ hb
  rw [show iAnd .i64 (a : Int) (b : Int) = IntKind.i64.wrap ((BitVec.ofInt 64 (a : Int) &&& BitVec.ofInt 64 (b : Int)).toNat : Nat) from rfl, ofInt_nat, ofInt_nat]
  rw [BitVec.toNat_and, BitVec.toNat_ofNat, BitVec.toNat_ofNat, Nat.mod_eq_of_lt (by omega), Nat.mod_eq_of_lt (by omega)]
  exact IntWalk.i64_in _ (by omega)
/-- The members of a that b has not. -/
def sdiff (a b : Nat) : Nat := a ^^^ (a &&& b)
theorem testBit_sdiff (a b i : Nat) : (sdiff a b).testBit i = (a.testBit i && !b.testBit i) := by
  simp only [sdiff, Nat.testBit_xor, Nat.testBit_and]
  cases a.testBit i <;> cases b.testBit i <;> rfl
theorem sdiff_lt {a b n : Nat} (ha : a < 2 ^ n) : sdiff a b < 2 ^ n := Nat.xor_lt_two_pow ha (Nat.lt_of_le_of_lt Nat.and_le_left ha)
theorem iAndNot_nat {a b : Nat} (ha : a < 2 ^ 63) (_hb : b < 2 ^ 63) : iAndNot .i64 (a : Int) (b : Int) = ((sdiff a b : Nat) : Int) := by
  have h0 : sdiff a b < 2 ^ 63 := sdiff_lt ha
  rw [show iAndNot .i64 (a : Int) (b : Int) = IntKind.i64.wrap ((BitVec.ofInt 64 (a : Int) &&& ~~~ BitVec.ofInt 64 (b : Int)).toNat : Nat) from rfl, ofInt_nat, ofInt_nat]
  have : (BitVec.ofNat 64 a &&& ~~~BitVec.ofNat 64 b).toNat = sdiff a b := by
    apply Nat.eq_of_testBit_eq
    intro i
    rw [testBit_sdiff]
    by_cases hi : i < 64
    · rw [← BitVec.getLsbD, BitVec.getLsbD_and, BitVec.getLsbD_not]
      simp only [hi, BitVec.getLsbD_ofNat, decide_true, Bool.true_and]
    · have : a.testBit i = false := Nat.testBit_lt_two_pow (Nat.lt_of_lt_of_le ha (Nat.pow_le_pow_right (by omega) (by omega)))
      rw [this, Bool.false_and]
      exact Nat.testBit_lt_two_pow (Nat.lt_of_lt_of_le (BitVec.isLt _) (Nat.pow_le_pow_right (by omega) (by omega)))
  rw [this]
  exact IntWalk.i64_in _ (by omega)
theorem iShl_one {k : Nat} (hk : k < 63) : iShl .i64 1 (k : Int) = ((2 ^ k : Nat) : Int) := by
  have h1 : min k 64 = k := by omega
  have h2 : (2 : Nat) ^ k < 2 ^ 63 := Nat.pow_lt_pow_right (by omega) hk
  simp only [iShl, IntKind.bits, Int.toNat_natCast, h1]
  rw [Int.one_mul, show ((2 : Int) ^ k) = ((2 ^ k : Nat) : Int) by simp]
  generalize 2 ^ k = m at *
  exact IntWalk.i64_in _ (by omega)
theorem iShr_nat {a k : Nat} (hk : k ≤ 64) : iShr .i64 (a : Int) (k : Int) = ((a >>> k : Nat) : Int) := by
  simp only [iShr, IntKind.bits, Int.toNat_natCast, show min k 64 = k by omega]
  rw [show ((2 : Int) ^ k) = ((2 ^ k : Nat) : Int) by simp, Nat.shiftRight_eq_div_pow]
  rw [Int.fdiv_eq_ediv_of_nonneg _ (Int.natCast_nonneg _)]
  simp
theorem bit_of_shr {a k : Nat} (hk : k ≤ 64) (ha : a < 2 ^ 63) : iAnd .i64 (iShr .i64 (a : Int) (k : Int)) 1 = (((a.testBit k).toNat : Nat) : Int) := by
  rw [iShr_nat hk]
  have : a >>> k < 2 ^ 63 := Nat.lt_of_le_of_lt (Nat.shiftRight_le _ _) ha
  rw [show (1 : Int) = ((1 : Nat) : Int) by rfl, iAnd_nat this (by omega)]
  congr 1
  rw [Nat.and_one_is_mod, Nat.testBit_eq_decide_div_mod_eq, ← Nat.shiftRight_eq_div_pow]
  rcases Nat.mod_two_eq_zero_or_one (a >>> k) with h | h <;> simp [h]
theorem iBOr {a b : Nat} {K : Value → Prop} (ha : a < 2 ^ 63) (hb : b < 2 ^ 63) (h : K (.int .i64 ((a ||| b : Nat) : Int))) : xBits iOr .i64 (.int .i64 (a : Int)) (.int .i64 (b : Int)) K :=
  ⟨_, _, rfl, rfl, by rw [iOr_nat ha hb]; exact h⟩
theorem iBAnd {a b : Nat} {K : Value → Prop} (ha : a < 2 ^ 63) (hb : b < 2 ^ 63) (h : K (.int .i64 ((a &&& b : Nat) : Int))) : xBits iAnd .i64 (.int .i64 (a : Int)) (.int .i64 (b : Int)) K :=
  ⟨_, _, rfl, rfl, by rw [iAnd_nat ha hb]; exact h⟩
theorem iBAndNot {a b : Nat} {K : Value → Prop} (ha : a < 2 ^ 63) (hb : b < 2 ^ 63) (h : K (.int .i64 ((sdiff a b : Nat) : Int))) : xBits iAndNot .i64 (.int .i64 (a : Int)) (.int .i64 (b : Int)) K :=
  ⟨_, _, rfl, rfl, by rw [iAndNot_nat ha hb]; exact h⟩
theorem iShlOne {j : Nat} {yk : IntKind} {K : Value → Prop} (hj : j < 63) (h : K (.int .i64 ((2 ^ j : Nat) : Int))) : xSh iShl .i64 (.int .i64 1) (.int yk (j : Int)) K :=
  ⟨_, _, _, rfl, rfl, by omega, by rw [iShl_one hj]; exact h⟩
theorem iShrN {a j : Nat} {yk : IntKind} {K : Value → Prop} (hj : j ≤ 64) (h : K (.int .i64 ((a >>> j : Nat) : Int))) : xSh iShr .i64 (.int .i64 (a : Int)) (.int yk (j : Int)) K :=
  ⟨_, _, _, rfl, rfl, by omega, by rw [iShr_nat hj]; exact h⟩

end
end Go.Vc
