/- Contracts of the functions on one frame that count or list its maps. Conditions: none. -/
import Derived.Test.YtoolpnkcmlebkaaGreatMa9
import Derived.Test.YtoolpnkcmlebkaaGreatC05
namespace Go.Proofs.YtoolpnkcmlebkaaGreat
open Go.Vc
theorem frameOk_fr {n : Int} {l : List Int} (h : frameOk n l = true) : (frOf n l).ok ∧ n = ((frOf n l).n : Int) ∧ l = nats (frOf n l).a := by
  unfold frameOk at h
  rw [Bool.and_eq_true, Bool.and_eq_true, decide_eq_true_eq, decide_eq_true_eq, List.all_eq_true] at h
  obtain ⟨⟨h1, h2⟩, h3⟩ := h
  have hx : ∀ x ∈ l, 0 ≤ x ∧ x ≤ ((2 ^ n.toNat - 1 : Nat) : Int) := fun x hx => by
    have := h3 x hx
    unfold maskB at this
    simpa using this
  refine ⟨⟨by show n.toNat ≤ 8; omega, by show (l.map Int.toNat).length = n.toNat; rw [List.length_map]; omega, ?_⟩, by show n = (n.toNat : Int); omega, ?_⟩
  · intro y hy
    obtain ⟨x, h4, rfl⟩ := List.mem_map.1 hy
    have := hx x h4
    have hp := Nat.two_pow_pos n.toNat
    show x.toNat < 2 ^ n.toNat
    omega
  · show l = (l.map Int.toNat).map Int.ofNat
    rw [List.map_map]
    conv => lhs; rw [← List.map_id l]
    refine List.map_congr_left fun x h4 => ?_
    have := hx x h4
    simp only [id, Function.comp, Int.ofNat_eq_natCast]
    omega
def autCount (f : Fr) : Nat := (leaves (fitsB f f true true) f.n f.n []).length
theorem pow88 {m n : Nat} (hm : m ≤ 8) (hn : n ≤ 8) : m ^ n ≤ 100000000 := by
  have h1 : m ^ n ≤ 8 ^ n := Nat.pow_le_pow_left hm n
  have h2 : 8 ^ n ≤ 8 ^ 8 := Nat.pow_le_pow_right (by omega) hn
  omega
def autRes (n : Int) (l : List Int) : Value := if frameOk n l then .tuple #[.int .i64 (autCount (frOf n l) : Int), .int .i64 0] else .tuple #[.int .i64 0, .int .i64 1]
end Go.Proofs.YtoolpnkcmlebkaaGreat
