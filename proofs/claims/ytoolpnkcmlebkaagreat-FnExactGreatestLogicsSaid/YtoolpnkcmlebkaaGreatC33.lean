/- Contracts: FindPart, TellingElements, IsUnder, AreAlike in the program and the reference. Conditions: none. -/
import Derived.Test.YtoolpnkcmlebkaaGreatC32
namespace Go.Proofs.YtoolpnkcmlebkaaGreat
open Go.Vc
theorem posetOk_po {n : Int} {l : List Int} (h : posetOk n l = true) : Po (frOf n l) ∧ n = ((frOf n l).n : Int) ∧ l = nats (frOf n l).a := by
  have h0 := posetOk_frame h
  unfold posetOk at h
  rw [Bool.and_eq_true] at h
  obtain ⟨hf, hn, hl⟩ := frameOk_fr h0.1
  exact ⟨po_of hf h.2, hn, hl⟩
theorem codeS_two {n0 n1 : Int} {l0 l1 : List Int} (h : codeS [(n0, l0), (n1, l1)] = 0) : posetOk n0 l0 = true ∧ posetOk n1 l1 = true ∧ n0 ≤ 6 ∧ n1 ≤ 6 := by
  unfold codeS at h
  split at h
  · omega
  · rename_i h1
    split at h
    · omega
    · rename_i h2
      simp at h1 h2
      exact ⟨h1.1, h1.2, by omega, by omega⟩
def partRes (n0 : Int) (l0 : List Int) (n1 : Int) (l1 : List Int) : Int × List Int × Int :=
  if posetOk n0 l0 && posetOk n1 l1 then (((pmO (partOut (frOf n0 l0) (frOf n1 l1)) : Nat) : Int), nats (pfO (partOut (frOf n0 l0) (frOf n1 l1))), if (partOut (frOf n0 l0) (frOf n1 l1)).isSome then 0 else 4) else (0, [], 1)
def tellRes (n0 : Int) (l0 : List Int) (n1 : Int) (l1 : List Int) : Int × Int :=
  if codeS [(n0, l0), (n1, l1)] = 0 then (((tell (frOf n0 l0) (frOf n1 l1) : Nat) : Int), 0) else (0, codeS [(n0, l0), (n1, l1)])
def underRes (n0 : Int) (l0 : List Int) (n1 : Int) (l1 : List Int) : Bool × Int :=
  if codeS [(n0, l0), (n1, l1)] = 0 then (decide (tell (frOf n0 l0) (frOf n1 l1) = 0), 0) else (false, codeS [(n0, l0), (n1, l1)])
def alikeRes (n0 : Int) (l0 : List Int) (n1 : Int) (l1 : List Int) : Bool × Int :=
  if codeS [(n0, l0), (n1, l1)] = 0 then (decide (tell (frOf n0 l0) (frOf n1 l1) = 0) && decide (tell (frOf n1 l1) (frOf n0 l0) = 0), 0) else (false, codeS [(n0, l0), (n1, l1)])
end Go.Proofs.YtoolpnkcmlebkaaGreat
