/- The proof of FnExactIsQuery, part 4 of 4. Conditions: none. -/
import Derived.Test.YtnbelddmhlknkaaDoorKR14c
import Derived.Test.YtnbelddmhlknkaaDoorRows
import Derived.ProofKit
import Derived.Lib.SmallJoins
import Derived.Test.YtnbelddmhlknkaaDoorCards
import Derived.Test.YtnbelddmhlknkaaDoorTie
import Derived.LaidMore
import Derived.Lay
import Derived.OpenShut
import Derived.SevenTiedAt
import Derived.ChangeVars
import Derived.Stop.Joined
/- The rows' step: opening the arguments; from a law's contract to the given statement. Conditions: none. -/
namespace Go.Vc
open Go.ChangeShapes Go.WideShapes Go.ChangeAt Go.RowKit Go.Joins
section
variable {H : Type} {enc : TypeId × Value → H} {P : Program} {w : World} {base : Nat} {spare : Nat → Bool} {held : Bool}
theorem trod_true {t : TypeId} (ht : P.underlying t = some .bool) (b : Bool) : DataW.Trod enc P w base spare held t (.bool b) (.lit (.bool b)) [] := ⟨1, by simp [DataW.trod, ht, Value.cells]⟩
end
end Go.Vc

/- The given card on FnExactIsQuery: for every input the law returns true and leaves its arguments as they were; the listed variables are tied to the program's text. Conditions: none. -/
namespace Go.Proofs.YtnbelddmhlknkaaDoor.R14
open Go.ChangeShapes Go.WideShapes Go.ChangeAt Go.RowKit Go.Joins Go.Vc
theorem own : ownKnob Tryd.prog.godebug = none := by kernel_rfl
theorem laidOut : laidOutB Tryd.prog = true := by kernel_rfl
theorem var_below {P : Program} {B g : Nat} {W W' : World} {n : String} {cs : Array Value} (h : Below B W W') (hg : P.globalNamed n = some g) (hgB : g < B) (hv : W.var? P n = some cs) : W'.var? P n = some cs := by
  unfold World.var? at hv ⊢
  simp only [hg, Option.bind_some] at hv ⊢
  rw [h.block g hgB]
  exact hv
theorem gN : Tryd.prog.globalNamed "loop.example/g01089/impl.intermediateNames" = some 0 := by kernel_rfl
theorem tN : (Tryd.prog.globals[0]?).map (·.type) = some 46 := by kernel_rfl
/-- What the condition gives: the names' cells. -/
theorem nm_ok {W : World} (h : laidMetH Tryd.prog Rows.fnExactIsQueryRow.laid W) : NmOk W := by
  rw [MakeChecks.laidMetH_plain _ _ _ (by kernel_rfl)] at h
  obtain ⟨ps, ⟨_, _, _, _, _, _, _, _, _, _, ⟨g, t, cs, fuel, p, q, hg, ht, hv, hd, _, _⟩, _⟩, _, _⟩ := h
  obtain rfl := Option.some.inj (gN.symm.trans hg)
  obtain rfl := Option.some.inj (tN.symm.trans ht)
  obtain ⟨xs, m, _, ex, _, hl, hel⟩ := DataW.trod_array Tryd.underlying46 hd
  have c9 : Tryd.prog.cellsOf 9 = 1 := by kernel_rfl
  intro r hr
  have hE := hel r hr
  rw [c9, Nat.mul_one, List.getElem?_eq_getElem (by omega)] at hE
  obtain ⟨z, e1, e2, _⟩ := DataW.trod_string Tryd.underlying9 hE
  have e3 : (xs.map (·.1)) = iNames.map fun n => (DataW.lit (.string n) : DataW Unit) := (DataW.agg.inj (Prod.mk.inj ex).1).symm
  have e4 : (xs.map (·.1))[r]? = (iNames.map fun n => (DataW.lit (.string n) : DataW Unit))[r]? := by rw [e3]
  have hlen : iNames.length = 9 := rfl
  rw [List.getElem?_map, List.getElem?_map, List.getElem?_eq_getElem (by omega : r < xs.length), List.getElem?_eq_getElem (by omega : r < iNames.length), e2] at e4
  simp only [Option.map_some, Option.some.injEq, DataW.lit.injEq, Lit.string.injEq] at e4
  rw [World.var?_cell hg hv r, gt_eq (by omega : r < iNames.length), ← e4]
  have h0 : ((cs.toList.drop r).take 1)[0]? = some (.string z) := by rw [e1]; rfl
  have : cs.toList[r]? = some (.string z) := by simpa using h0
  simpa using this
set_option maxRecDepth 100000 in
theorem lifted (os : Os) (started : os.Started) (H : Type) (enc : TypeId × Value → H) :
    ReturnsInHanded {} Tryd.checked os 3 .any (fun w args => (Rows.fnExactIsQuerySpec.pre enc Tryd.prog Tryd.f3 Rows.fnExactIsQueryRow.domain false w args ∧ laidMetH Tryd.prog Rows.fnExactIsQueryRow.laid w) ∧ sizedMet enc Tryd.prog Tryd.f3 (OpenSpec.ofChange Rows.fnExactIsQuerySpec) false w args)
      (Rows.fnExactIsQuerySpec.post enc Tryd.prog Tryd.f3 false true false false) := by
  refine returnsInHanded_of_change_and (C := Tryd.checked) (X := fun w _ => laidMetH Tryd.prog Rows.fnExactIsQueryRow.laid w) (fun _ _ _ hh h => h.of_heap hh) own started (by kernel_rfl) Tryd.func3
    (ChangeSpec.witness_shaped (enc := enc) (C := Tryd.checked) (os := os) (X := fun w _ => laidMetH Tryd.prog Rows.fnExactIsQueryRow.laid w) false (World.laidAll Tryd.prog os Rows.fnExactIsQueryRow.laid) #[.string ⟨#[]⟩] 8 (World.laidAll_os _ _ _)
      (World.shaped_of_ZipB (by kernel_rfl) (by kernel_rfl)) (by kernel_rfl) (by kernel_rfl) (by kernel_rfl)
      (by rw [MakeChecks.laidMetH_plain _ _ _ (by kernel_rfl)]; exact laidMet_laidAll _ (by kernel_rfl) (by kernel_rfl))) ?_
  intro W base args ds gs before hval0 hW _ _ hL _
  have hval : ∀ (j : Nat) t v, Tryd.f3.params[j]? = some t → args[j]? = some v → Value.okWide Tryd.prog W .any base t v := hval0
  have hW' := hW
  obtain ⟨p, q, hA0, hV0, rfl, _, _⟩ := hW
  have hA : DataW.TrodAll enc Tryd.prog W 0 (fun _ => true) true Tryd.f3.params.toList args.toList ds p := hA0
  have hV : DataW.TrodVars enc Tryd.prog W (fun _ => true) ["loop.example/g01089/impl.intermediateNames"] gs q := hV0
  rw [Tryd.params3] at hA hval
  obtain ⟨v0, d0, rfl, rfl, h0⟩ := trodAll_one hA
  obtain ⟨g, t, cs, fuel, d, p', rfl, hg, ht, hvar, hd, rfl⟩ := trodVars_one hV
  obtain rfl := Option.some.inj (gN.symm.trans hg)
  obtain rfl := Option.some.inj (tN.symm.trans ht)
  clear hA0 hval0
  have hlt : ∀ x ∈ p, x.block < W.heap.size := fun x hx => hW'.lt x (by first | exact List.mem_append_left _ hx | (simp at hx ⊢; exact .inl hx))
  have hargs0 : ∀ (W' : World), Ext W W' → DataW.Trod enc Tryd.prog W' 0 (fun b => decide (b < W.heap.size)) true 9 v0 d0 p :=
    fun W' hn => Below.trod laidOut (by kernel_rfl) (of_decide_eq_true (by kernel_rfl)) h0 hn (fun x hx => hlt x (by simp [hx]))
  have hN := nm_ok hL
  obtain ⟨s0, rfl⟩ := okWide_string Tryd.underlying9 (hval 0 9 v0 rfl rfl)
  obtain ⟨l0, rfl⟩ : ∃ l : Str, s0 = ⟨l.toArray⟩ := ⟨s0.data.toList, by simp⟩
  refine (ok_laws_FnExactIsQuery hN l0).2.mono fun e W' he => ?_
  obtain ⟨_, rfl, rfl, hx⟩ := he
  have hgl : 0 < W.heap.size := cell_lt (hN 0 (by decide))
  obtain ⟨fuel', hd'⟩ := Below.trod laidOut (by kernel_rfl) (of_decide_eq_true (by kernel_rfl)) (v := .agg cs) (⟨fuel, by simpa [Value.cells] using hd⟩ : DataW.Trod enc Tryd.prog W 0 (fun _ => true) true 46 (.agg cs) d p') hx (fun x hx => hW'.lt x (List.mem_append_right _ (List.mem_append_right _ hx)))
  have hv' := trodVars_mk1 (enc := enc) (spare := fun b => decide (b < W.heap.size)) hg ht (var_below hx hg hgl hvar) (by simpa [Value.cells] using hd')
  exact ⟨_, rfl, _, _, _, [], _, (MemPlace.row ⟨0, 0, none⟩ cs.size ++ p'), hW', trodAll_mk1 (trod_true Tryd.underlying4 true), trodAll_mk1 (hargs0 _ hx), hv', hx.frame _, fun h => by cases h⟩
theorem holds : Rows.FnExactIsQuerySaid :=
  OpenClaim.holds_of_wide 3 Tryd.f3 rfl rfl rfl rfl rfl rfl rfl ⟨rfl, rfl, rfl, rfl, rfl⟩ rfl rfl rfl rfl rfl (by kernel_rfl) Tryd.func3 (by kernel_rfl)
    (of_decide_eq_true (by kernel_rfl)) (by unfold Func.isWrapper; rw [if_neg (of_decide_eq_false (by kernel_rfl))]; exact ⟨rfl, rfl⟩)
    (fun os started H enc _ => lifted os started H enc)
theorem proved : Rows.FnExactIsQueryCardSaid :=
  Claim7.holds_tied_plain_at .later [] [.data, .data, .pinned] true (true, "5f6d54abfbb8c0b0bdd66551b6b8e26b2505e278b23e822af3aad56a8d87887e") false holds (fun _ h => by cases h) (by kernel_rfl) (fun _ h => by cases h) fnExactIsQuery_row_tie rfl ⟨rfl, rfl⟩ (by kernel_rfl) rfl
    (fun f fn hf hfn => by
      obtain rfl : f = 3 := Option.some.inj ((show Tryd.prog.funcNamed "loop.example/g01089/laws.FnExactIsQuery" = some 3 by kernel_rfl).symm.trans hf) |>.symm
      obtain rfl : fn = Tryd.f3 := (Option.some.inj (Tryd.func3.symm.trans hfn)).symm
      exact ⟨by kernel_rfl, fun j t ht => by
        rw [Tryd.params3] at ht
        have hm : t ∈ [9] := by simpa using Array.mem_of_getElem? ht
        have hall : ([9].all fun u => !Tryd.prog.wantsStandIn u) = true := by kernel_rfl
        exact (show Tryd.prog.wantsStandIn t = false by simpa using List.all_eq_true.1 hall t hm)⟩)
    (by kernel_rfl)
end Go.Proofs.YtnbelddmhlknkaaDoor.R14
