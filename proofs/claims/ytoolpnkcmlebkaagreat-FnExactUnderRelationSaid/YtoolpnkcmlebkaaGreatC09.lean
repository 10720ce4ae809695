/- Contracts of the reference's search for morphisms. Conditions: none. -/
import Derived.Test.YtoolpnkcmlebkaaGreatC08
import Derived.Test.YtoolpnkcmlebkaaGreatMf
namespace Go.Vc
theorem Ow.shape {lo : Nat} {e : TypeId} {w : World} {v : Value} {xs : List Value} (h : Ow lo e w v xs) : ∃ a n c, v = .slice a n c := by
  obtain ⟨_, h | ⟨g, cap, cur, hv, _⟩⟩ := h
  · exact ⟨_, _, _, h.1⟩
  · exact ⟨_, _, _, hv⟩
theorem ints_snoc (im : List Nat) (y : Nat) : ints (nats im) ++ [.int .i64 (y : Int)] = ints (nats (im ++ [y])) := by simp [ints, nats]
theorem dfs_succ (ok : List Nat → Bool) (m d : Nat) (im : List Nat) : dfs ok m (d + 1) im = (List.range m).flatMap fun y => if ok (im ++ [y]) then dfs ok m d (im ++ [y]) else [] := rfl
theorem dfs_lt (ok : List Nat → Bool) (m : Nat) : ∀ (d : Nat) (im : List Nat), ∀ l ∈ dfs ok m d im, l.length = im.length + d ∧ ∀ y ∈ l, y ∈ im ∨ y < m
  | 0, im, l, h => by simp [dfs] at h; subst h; exact ⟨by simp, fun y hy => .inl hy⟩
  | d + 1, im, l, h => by
    simp only [dfs, List.mem_flatMap, List.mem_range] at h
    obtain ⟨y, hy, h⟩ := h
    split at h
    · obtain ⟨h1, h2⟩ := dfs_lt ok m d _ l h
      refine ⟨by simp at h1; omega, fun z hz => ?_⟩
      rcases h2 z hz with h3 | h3
      · simp at h3
        rcases h3 with h3 | rfl
        · exact .inl h3
        · exact .inr hy
      · exact .inr h3
    · simp at h
/-- The state of the search: its block, what it found. -/
structure GoSt (f g : Fr) (onto one : Bool) (e ti ts : TypeId) (w0 : World) (fa ga : Value) (b most : Nat) (w : World) (found : Value) (vs : List Value) (ls : List (List Nat)) : Prop where
  ext : Ext w0 w
  blk : Blk e w b [.int .i64 (f.n : Int), fa, .int .i64 (g.n : Int), ga, .bool onto, .bool one, .int .i64 (most : Int), found]
  ow : Ow w0.heap.size ts w found vs
  owl : OwL w0.heap.size ti w vs (ls.map fun l => ints (nats l))
theorem GoSt.later {f g : Fr} {onto one : Bool} {e ti ts : TypeId} {w0 : World} {fa ga : Value} {b most : Nat} {w w' : World} {found : Value} {vs : List Value} {ls : List (List Nat)}
    (h : GoSt f g onto one e ti ts w0 fa ga b most w found vs ls) (he : Ext w w') : GoSt f g onto one e ti ts w0 fa ga b most w' found vs ls :=
  ⟨h.ext.trans he, h.blk.ext he, h.ow.ext he, h.owl.ext he⟩
theorem GoSt.len {f g : Fr} {onto one : Bool} {e ti ts : TypeId} {w0 : World} {fa ga : Value} {b most : Nat} {w : World} {found : Value} {vs : List Value} {ls : List (List Nat)}
    (h : GoSt f g onto one e ti ts w0 fa ga b most w found vs ls) : vs.length = ls.length := by simpa using h.owl.1
theorem take_all {α : Type} {A : List α} {k : Nat} (h : (A.take k).length < k) : A.take k = A := by
  rw [List.length_take] at h
  exact List.take_of_length_le (by omega)
/-- What the reference finds. -/
def refFound (f g : Fr) (onto one : Bool) (most : Nat) : List (List Nat) :=
  if (one && !decide (f.n = g.n)) || (onto && decide (f.n < g.n)) then [] else (dfs (mayB f g onto one) g.n f.n []).take most
end Go.Vc
namespace Go.Proofs.YtoolpnkcmlebkaaGreat
open Go.Vc
end Go.Proofs.YtoolpnkcmlebkaaGreat
