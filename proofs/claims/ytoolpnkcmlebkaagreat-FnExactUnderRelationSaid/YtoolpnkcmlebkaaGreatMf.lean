/- More words for memory: what a call may turn, lists of rows, visitors. Conditions: none. -/
import Derived.Test.YtoolpnkcmlebkaaGreatMem
namespace Go.Vc
open Go.RowKit (Below)

/-- Old blocks outside S are as before. -/
structure Ch (S : Nat → Prop) (w w' : World) : Prop where
  os : w'.os = w.os
  tape : w'.tape = w.tape
  output : w'.output = w.output
  size : w.heap.size ≤ w'.heap.size
  block : ∀ k, k < w.heap.size → ¬ S k → w'.heap[k]? = w.heap[k]?
theorem Ext.ch {S : Nat → Prop} {w w' : World} (h : Ext w w') : Ch S w w' := ⟨h.os, h.tape, h.output, h.size, fun k hk _ => h.block k hk⟩
theorem Upd.ch {S : Nat → Prop} {w w' : World} {b : Nat} (h : Upd b w w') (hb : S b) : Ch S w w' := ⟨h.os, h.tape, h.output, by rw [h.size]; exact Nat.le_refl _, fun k _ hn => h.block k fun e => hn (e ▸ hb)⟩
theorem grown_ch {S : Nat → Prop} {w w' : World} {row : Option Nat} (h : w.grownBy w' row) (hr : ∀ b, row = some b → S b) : Ch S w w' :=
  ⟨h.os, h.tape, h.output, h.size, fun k hk hn => h.block k hk fun e => hn (hr k e.symm)⟩
theorem Ch.trans {S S' : Nat → Prop} {w w' w'' : World} (h : Ch S w w') (k : Ch S' w' w'') (hs : ∀ b, S' b → S b ∨ w.heap.size ≤ b) : Ch S w w'' :=
  ⟨k.os.trans h.os, k.tape.trans h.tape, k.output.trans h.output, Nat.le_trans h.size k.size, fun i hi hn => (k.block i (by have := h.size; omega) fun hS => by
    rcases hs i hS with h1 | h1
    · exact hn h1
    · omega).trans (h.block i hi hn)⟩
theorem Ch.mono {S S' : Nat → Prop} {w w' : World} (h : Ch S w w') (hs : ∀ b, S b → S' b) : Ch S' w w' := ⟨h.os, h.tape, h.output, h.size, fun k hk hn => h.block k hk fun e => hn (hs k e)⟩
theorem Ext.thenCh {S : Nat → Prop} {w0 w w' : World} (h : Ext w0 w) (k : Ch S w w') (hs : ∀ b, S b → w0.heap.size ≤ b) : Ext w0 w' :=
  ⟨k.os.trans h.os, k.tape.trans h.tape, k.output.trans h.output, Nat.le_trans h.size k.size, fun i hi => (k.block i (by have := h.size; omega) fun hS => by have := hs i hS; omega).trans (h.block i hi)⟩
theorem Ch.toExt {w w' : World} {S : Nat → Prop} (k : Ch S w w') (hs : ∀ b, S b → w.heap.size ≤ b) : Ext w w' := (Ext.refl w).thenCh k hs
theorem Blk.ch {S : Nat → Prop} {e : TypeId} {w w' : World} {c : Nat} {cs : List Value} (h : Blk e w c cs) (k : Ch S w w') (hn : ¬ S c) : Blk e w' c cs := by
  unfold Blk at *
  rw [k.block c (heap_lt h) hn]; exact h
theorem Ow.ch {S : Nat → Prop} {lo : Nat} {e : TypeId} {w w' : World} {v : Value} {xs : List Value} (h : Ow lo e w v xs) (k : Ch S w w') (hn : ∀ c, v.ownBlock = some c → ¬ S c) : Ow lo e w' v xs := by
  obtain ⟨h0, h | ⟨g, cap, cur, hv, hg, hh, h1⟩⟩ := h
  · exact ⟨h0, .inl h⟩
  · exact ⟨h0, .inr ⟨g, cap, cur, hv, hg, by rw [k.block g (heap_lt hh) (hn g (by rw [hv]; rfl))]; exact hh, h1⟩⟩
theorem Ow.cell {lo : Nat} {e : TypeId} {w : World} {v : Value} {xs : List Value} (h : Ow lo e w v xs) : isCell v = true := by
  obtain ⟨_, h | ⟨g, cap, cur, hv, _⟩⟩ := h
  · rw [h.1]; rfl
  · rw [hv]; rfl
theorem Ow.pair {lo : Nat} {e : TypeId} {w : World} {v : Value} {xs : List Value} (h : Ow lo e w v xs) (n : Int) : ∀ u ∈ (#[.int .i64 n, v] : Array Value).toList, isCell u = true := by
  intro u hu
  simp at hu
  rcases hu with rfl | rfl
  · rfl
  · exact h.cell
/-- The type of the row's block. -/
theorem Ow.ty {lo : Nat} {e : TypeId} {w : World} {v : Value} {xs : List Value} (h : Ow lo e w v xs) {c : Nat} (hc : v.ownBlock = some c) : ∃ cur, w.heap[c]? = some (.cells cur e (0, 0)) := by
  obtain ⟨_, h | ⟨g, cap, cur, hv, hg, hh, h1⟩⟩ := h
  · rw [h.1] at hc; cases hc
  · rw [hv] at hc
    cases hc
    exact ⟨cur, hh⟩
theorem Ow.ne_blk {lo : Nat} {e e' : TypeId} {w : World} {v : Value} {xs cs : List Value} {b : Nat} (h : Ow lo e w v xs) (hb : Blk e' w b cs) (hne : e ≠ e') : v.ownBlock ≠ some b := by
  intro hc
  obtain ⟨cur, h1⟩ := h.ty hc
  unfold Blk at hb
  rw [h1] at hb
  injection hb with hb
  injection hb with _ hb _
  exact hne hb
theorem Ow.ne_ow {lo lo' : Nat} {e e' : TypeId} {w : World} {v v' : Value} {xs xs' : List Value} {c : Nat} (h : Ow lo e w v xs) (h' : Ow lo' e' w v' xs') (hne : e ≠ e') (hc : v.ownBlock = some c) : v'.ownBlock ≠ some c := by
  intro hc'
  obtain ⟨cur, h1⟩ := h.ty hc
  obtain ⟨cur', h2⟩ := h'.ty hc'
  rw [h1] at h2
  injection h2 with hb
  injection hb with _ hb _
  exact hne hb
theorem Blk.ne_blk {e e' : TypeId} {w : World} {b b' : Nat} {cs cs' : List Value} (h : Blk e w b cs) (h' : Blk e' w b' cs') (hne : e ≠ e') : b ≠ b' := by
  rintro rfl
  unfold Blk at h h'
  rw [h] at h'
  injection h' with h'
  injection h' with _ h' _
  exact hne h'
/-- 's = s[:len(s) - 1]'. -/
theorem iSlDown {w : World} {lo : Nat} {e : TypeId} {k : IntKind} {v x : Value} {xs : List Value} {K : Value → Prop} (hs : Ow lo e w v (xs ++ [x])) (h : ∀ v', v'.ownBlock = v.ownBlock → Ow lo e w v' xs → K v') :
    xSl 1 v none (some (.int k (xs.length : Int))) K := by
  obtain ⟨hl, hc | ⟨g, cap, cur, hv, hg, hh, h2, h3, h4, h5⟩⟩ := hs
  · simp at hc
  · subst hv
    rw [List.length_append, List.length_singleton] at h2 h5
    refine ⟨_, _, _, 0, xs.length, rfl, ⟨k, rfl⟩, rfl, Nat.zero_le _, by omega, ?_⟩
    have : (if cap = 0 then some (⟨g, 0, none⟩ : Addr) else (some (⟨g, 0, none⟩ : Addr)).map (·.add (0 * 1))) = some ⟨g, 0, none⟩ := by
      split
      · rfl
      · simp [Addr.add]
    rw [this]
    refine h _ rfl ⟨by simp, .inr ⟨g, cap, cur, by simp, hg, hh, by omega, h3, h4, ?_⟩⟩
    have := congrArg (List.take xs.length) h5
    rw [List.take_take, List.take_left] at this
    rw [Nat.mul_one] at this ⊢
    rw [show min xs.length (xs.length + 1) = xs.length by omega] at this
    exact this

/-- An element of a row of the call's own, to be written later on. -/
theorem iIaOwE {w : World} {lo : Nat} {e : TypeId} {v : Value} {xs : List Value} {j : Nat} {k : IntKind} {K : Value → Prop} (hs : Ow lo e w v xs) (h1 : j < xs.length)
    (h : ∀ b, v.ownBlock = some b → (∀ w' ys, ys.length = xs.length → Ow lo e w' v ys → w'.cell? ⟨b, j, none⟩ = ys[j]? ∧ w'.frozen? ⟨b, j, none⟩ = false ∧ ∀ u, Ow lo e (w'.setCell ⟨b, j, none⟩ u) v (ys.set j u)) → K (.pointer (some ⟨b, j, none⟩))) :
    xIa 1 v (.int k (j : Int)) K := by
  obtain ⟨hl, hc | ⟨g, cap, cur, hv, hg, hh, h2, h3, h4, h5⟩⟩ := hs
  · omega
  · subst hv
    refine iIaL (j := j) (by omega) ?_
    rw [Nat.zero_add]
    refine h g rfl fun w' ys hly hs => ?_
    have hs' : w'.ownsRow lo e 1 (.slice (some ⟨g, 0, none⟩) xs.length cap) xs.length ys := by
      unfold Ow at hs
      rw [hly] at hs
      exact hs
    refine ⟨?_, ?_, fun u => ?_⟩
    · exact hs'.cellAt j (by omega)
    · exact hs'.frozenAt j
    · have := hs'.stored j u
      unfold Ow
      rw [List.length_set, hly]
      exact this.1

/-! ### Lists of rows -/
/-- Slices that the call owns, each in a row of its own. -/
def OwL (lo : Nat) (e : TypeId) (w : World) (vs : List Value) (ls : List (List Value)) : Prop :=
  vs.length = ls.length ∧ (∀ (i : Nat) (v : Value) (l : List Value), vs[i]? = some v → ls[i]? = some l → Ow lo e w v l) ∧ vs.Pairwise fun a b => ∀ c, a.ownBlock = some c → b.ownBlock ≠ some c
theorem OwL.nil (lo : Nat) (e : TypeId) (w : World) : OwL lo e w [] [] := ⟨rfl, fun i v l h => by simp at h, List.Pairwise.nil⟩
theorem OwL.ow {lo : Nat} {e : TypeId} {w : World} {vs : List Value} {ls : List (List Value)} (h : OwL lo e w vs ls) {v : Value} (hv : v ∈ vs) : ∃ l, Ow lo e w v l := by
  obtain ⟨i, hi, rfl⟩ := List.getElem_of_mem hv
  exact ⟨ls[i]'(by rw [← h.1]; exact hi), h.2.1 i _ _ (List.getElem?_eq_getElem hi) (List.getElem?_eq_getElem _)⟩
theorem OwL.lt {lo : Nat} {e : TypeId} {w : World} {vs : List Value} {ls : List (List Value)} (h : OwL lo e w vs ls) {v : Value} (hv : v ∈ vs) {c : Nat} (hc : v.ownBlock = some c) : lo ≤ c ∧ c < w.heap.size := by
  obtain ⟨l, hl⟩ := h.ow hv
  exact hl.blk c hc
theorem OwL.ch {S : Nat → Prop} {lo : Nat} {e : TypeId} {w w' : World} {vs : List Value} {ls : List (List Value)} (h : OwL lo e w vs ls) (k : Ch S w w') (hn : ∀ v ∈ vs, ∀ c, v.ownBlock = some c → ¬ S c) : OwL lo e w' vs ls :=
  ⟨h.1, fun i v l hv hl => (h.2.1 i v l hv hl).ch k (hn v (List.mem_of_getElem? hv)), h.2.2⟩
theorem OwL.ext {lo : Nat} {e : TypeId} {w w' : World} {vs : List Value} {ls : List (List Value)} (h : OwL lo e w vs ls) (k : Ext w w') : OwL lo e w' vs ls := h.ch (S := fun _ => False) k.ch fun _ _ _ _ => id
theorem OwL.mono {lo lo' : Nat} {e : TypeId} {w : World} {vs : List Value} {ls : List (List Value)} (h : OwL lo e w vs ls) (hl : lo' ≤ lo) : OwL lo' e w vs ls := ⟨h.1, fun i v l hv hx => (h.2.1 i v l hv hx).mono hl, h.2.2⟩
theorem OwL.snoc {lo : Nat} {e : TypeId} {w : World} {vs : List Value} {ls : List (List Value)} {v : Value} {l : List Value} (h : OwL lo e w vs ls) (hv : Ow lo e w v l) (hne : ∀ u ∈ vs, ∀ c, u.ownBlock = some c → v.ownBlock ≠ some c) : OwL lo e w (vs ++ [v]) (ls ++ [l]) := by
  refine ⟨by simp [h.1], fun i u x hu hx => ?_, ?_⟩
  · by_cases hi : i < vs.length
    · rw [List.getElem?_append_left hi] at hu
      rw [List.getElem?_append_left (by rw [← h.1]; exact hi)] at hx
      exact h.2.1 i u x hu hx
    · have hlt := (List.getElem?_eq_some_iff.1 hu).1
      rw [List.length_append, List.length_singleton] at hlt
      obtain rfl : i = vs.length := by omega
      rw [List.getElem?_append_right (Nat.le_refl _), Nat.sub_self] at hu
      rw [h.1, List.getElem?_append_right (Nat.le_refl _), Nat.sub_self] at hx
      simp at hu hx
      subst hu; subst hx
      exact hv
  · rw [List.pairwise_append]
    refine ⟨h.2.2, List.pairwise_singleton _ _, fun a ha b hb => ?_⟩
    simp at hb
    subst hb
    exact hne a ha

/-- A join to which all ways lead with the same truth. -/
theorem iJnB {F : (List Value → World → Prop) → Prop} {K : List Value → World → Prop} (T : Bool) (w2 : World) (h : ∀ J : List Value → World → Prop, (∀ w4, Ext w2 w4 → J [.bool T] w4) → F J) (hK : ∀ w4, Ext w2 w4 → K [.bool T] w4) : jn F K := h K hK

/-- A join without values, to which all ways lead with the same fact. -/
theorem iJnE {F : (List Value → World → Prop) → Prop} {K : List Value → World → Prop} (C : Prop) (w2 : World) (h : ∀ J : List Value → World → Prop, (∀ w4, Ext w2 w4 → C → J [] w4) → F J) (hK : ∀ w4, Ext w2 w4 → C → K [] w4) : jn F K := h K hK

/-! ### Visitors -/
/-- Leaves are handed to the visitor one after the other, as long as it says 'go on'. -/
def visitAll (cont : List (List Nat) → Bool) : List (List Nat) → List (List Nat) → List (List Nat) × Bool
  | vis, [] => (vis, true)
  | vis, l :: ls => if cont (vis ++ [l]) then visitAll cont (vis ++ [l]) ls else (vis ++ [l], false)
theorem visitAll_append (cont : List (List Nat) → Bool) : ∀ (a vis b : List (List Nat)), visitAll cont vis (a ++ b) = if (visitAll cont vis a).2 then visitAll cont (visitAll cont vis a).1 b else ((visitAll cont vis a).1, false)
  | [], vis, b => by simp [visitAll]
  | l :: a, vis, b => by
    simp only [List.cons_append, visitAll]
    split
    · exact visitAll_append cont a _ b
    · simp
theorem visitAll_cont (cont : List (List Nat) → Bool) : ∀ (a vis : List (List Nat)), (vis = [] ∨ cont vis = true) → (visitAll cont vis a).2 = true → ((visitAll cont vis a).1 = [] ∨ cont (visitAll cont vis a).1 = true)
  | [], vis, h, _ => h
  | l :: a, vis, h, h2 => by
    simp only [visitAll] at h2 ⊢
    split at h2
    · rename_i hc
      rw [if_pos hc]
      exact visitAll_cont cont a _ (.inr hc) h2
    · cases h2
theorem visitAll_len (cont : List (List Nat) → Bool) : ∀ (a vis : List (List Nat)), (visitAll cont vis a).1.length ≤ vis.length + a.length
  | [], vis => by simp [visitAll]
  | l :: a, vis => by
    simp only [visitAll]
    split
    · have := visitAll_len cont a (vis ++ [l])
      simp at this ⊢; omega
    · simp
/-- What the search needs of a visitor: it keeps its data in blocks S of its own. -/
structure Visitor (P : Program) (e : TypeId) (vis : Value) (n m : Nat) (cont : List (List Nat) → Bool) where
  J : (Nat → Prop) → List (List Nat) → World → Prop
  below : ∀ {S l w}, J S l w → ∀ k, S k → k < w.heap.size
  keep : ∀ {S l w w'}, J S l w → w.heap.size ≤ w'.heap.size → (∀ k, S k → w'.heap[k]? = w.heap[k]?) → J S l w'
  visit : ∀ {S l w v lo im}, J S l w → (l = [] ∨ cont l = true) → l.length < 100000000 → Ow lo e w v (ints (nats im)) → im.length = n → (∀ y ∈ im, y < m) → (∀ c, v.ownBlock = some c → ¬ S c) →
    callV P vis [v] w fun u w' => u = .bool (cont (l ++ [im])) ∧ ∃ S', J S' (l ++ [im]) w' ∧ Ch S w w' ∧ ∀ k, S' k → S k ∨ w.heap.size ≤ k
end Go.Vc
