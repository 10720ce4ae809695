/- Contracts on lists of lists of int64; all maps between two frames. Conditions: none. -/
import Derived.Test.YtoolpnkcmlebkaaGreatC12
namespace Go.Vc
section
variable {w : World}
theorem iIaV {v : Value} {xs : List Value} {j : Nat} {k : IntKind} {K : Value → Prop} (hs : Sl w v xs) (h1 : j < xs.length) (h : ∀ p, w.cell? p = some xs[j] → K (.pointer (some p))) : xIa 1 v (.int k (j : Int)) K :=
  iIa hs (by omega) (by omega) fun p hp => h p (by rw [hp, Int.toNat_natCast, List.getElem?_eq_getElem h1])
end
theorem OwL.at {lo : Nat} {e : TypeId} {w : World} {vs : List Value} {ls : List (List Value)} (h : OwL lo e w vs ls) {i : Nat} (hi : i < vs.length) (hi' : i < ls.length) : Ow lo e w vs[i] ls[i] :=
  h.2.1 i _ _ (List.getElem?_eq_getElem hi) (List.getElem?_eq_getElem hi')
theorem OwL.ne {lo : Nat} {e : TypeId} {w : World} {vs : List Value} {ls : List (List Value)} (h : OwL lo e w vs ls) {i j : Nat} (hi : i < vs.length) (hj : j < vs.length) (hij : i ≠ j) {c : Nat} (hc : vs[i].ownBlock = some c) : vs[j].ownBlock ≠ some c := by
  have hp := List.pairwise_iff_getElem.1 h.2.2
  rcases Nat.lt_or_gt_of_ne hij with h1 | h1
  · exact hp i j hi hj h1 c hc
  · exact fun e => hp j i hj hi h1 c e hc
/-- One of the rows has turned. -/
theorem OwL.set {lo : Nat} {e : TypeId} {w w' : World} {vs : List Value} {ls : List (List Value)} (h : OwL lo e w vs ls) {i : Nat} (hi : i < vs.length) {l : List Value} (hch : Ch (fun c => vs[i].ownBlock = some c) w w') (ho : Ow lo e w' vs[i] l) : OwL lo e w' vs (ls.set i l) := by
  refine ⟨by simp [h.1], fun j v x hv hx => ?_, h.2.2⟩
  have hj := (List.getElem?_eq_some_iff.1 hv).1
  by_cases hij : i = j
  · subst hij
    rw [List.getElem?_set_self (by rw [← h.1]; exact hi)] at hx
    rw [List.getElem?_eq_getElem hi] at hv
    cases hv; cases hx
    exact ho
  · rw [List.getElem?_set_ne hij] at hx
    refine (h.2.1 j v x hv hx).ch hch fun c hc he => ?_
    rw [List.getElem?_eq_getElem hj] at hv
    cases hv
    exact h.ne hi hj hij he hc
def tot : List (List Int) → Nat
  | [] => 0
  | l :: r => l.length + tot r
theorem tot_append (a b : List (List Int)) : tot (a ++ b) = tot a + tot b := by
  induction a with
  | nil => simp [tot]
  | cons l a ih => simp only [List.cons_append, tot, ih]; omega
theorem tot_take_succ (x : List (List Int)) (k : Nat) (h : k < x.length) : tot (x.take (k + 1)) = tot (x.take k) + x[k].length := by
  rw [List.take_succ_eq_append_getElem h, tot_append]; simp [tot]
theorem tot_take_le (x : List (List Int)) (k : Nat) : tot (x.take k) ≤ tot x := by
  conv => rhs; rw [← List.take_append_drop k x]
  rw [tot_append]; omega
theorem tot_le {x : List (List Int)} {a b : Nat} (h1 : x.length ≤ a) (h2 : ∀ l ∈ x, l.length ≤ b) : tot x ≤ a * b := by
  have : ∀ x : List (List Int), (∀ l ∈ x, l.length ≤ b) → tot x ≤ x.length * b := by
    intro x
    induction x with
    | nil => simp [tot]
    | cons l x ih =>
      intro h
      have := ih fun y hy => h y (by simp [hy])
      have := h l (by simp)
      rw [tot, List.length_cons, Nat.succ_mul]; omega
  exact Nat.le_trans (this x h2) (Nat.mul_le_mul_right _ h1)
end Go.Vc
namespace Go.Proofs.YtoolpnkcmlebkaaGreat
open Go.Vc
end Go.Proofs.YtoolpnkcmlebkaaGreat
