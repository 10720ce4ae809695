/- Closed facts on FnExpanded's row. Conditions: none. -/
import Derived.Test.YtoojmhgpadkhmaaGreatDoorFa
import Derived.Test.YtoojmhgpadkhmaaGreatDoorCards
import Derived.SevenTiedAt
import Derived.JoinedOf
namespace Go.Proofs.YtoojmhgpadkhmaaGreatDoor
namespace R56
open Go
set_option maxRecDepth 100000
theorem same_at {α : Type} [BEq α] {a b l : α} (h : b = l) (k : (a == l) = true) : (a == b) = true := by rw [h]; exact k
theorem all_cut {α : Type} {l : List α} {f : α → Bool} (n : Nat) (h : (l.take n).all f = true) (k : (l.drop n).all f = true) : l.all f = true := by
  rw [← List.take_append_drop n l, List.all_append, h, k]
  rfl
theorem laidOut : laidOutB Tryz.prog = true := by
  unfold laidOutB
  refine and2 (and2 (all_cut 200 ?_ (all_cut 200 ?_ ?_)) ?_) ?_ <;> (as_aux_lemma => kernel_rfl)
set_option maxHeartbeats 0 in
theorem facts : joinedFacts Tryz.prog 3 Tryz.f3 Rows.fnExpandedSpec Rows.fnExpandedRow = true := by
  unfold joinedFacts
  (repeat with_reducible refine and2 ?_ ?_) <;> first
    | with_reducible exact laidOut
    | ((with_reducible refine same_at inp ?_); as_aux_lemma => kernel_rfl)
    | ((with_reducible refine same_at nam ?_); as_aux_lemma => kernel_rfl)
    | ((with_reducible refine same_at unf ?_); as_aux_lemma => kernel_rfl)
    | ((with_reducible refine same_at recu ?_); as_aux_lemma => kernel_rfl)
    | (as_aux_lemma => kernel_rfl)
end R56
end Go.Proofs.YtoojmhgpadkhmaaGreatDoor
