/- The proof of FnExactAppendEntryCard, part 6 of 6. Conditions: none. -/
import Derived.Test.YtombcpghgdabaaaGreatDoorKR43e
import Derived.Test.YtombcpghgdabaaaGreatDoorRows
import Derived.ProofKit
import Derived.Lib.SmallJoins
import Derived.Deep.Strs
import Derived.Deep.Fields
import Derived.Test.YtombcpghgdabaaaGreatDoorCards
import Derived.Test.YtombcpghgdabaaaGreatDoorTie
import Derived.LaidMore
import Derived.Lay
import Derived.OpenShut
import Derived.SevenTiedAt
import Derived.ChangeVars
import Derived.Stop.Joined
import Derived.Lib.LaidTab
/- The rows' step: opening the arguments; from a law's contract to the given statement. Conditions: none. -/
namespace Go.Vc
open Go.ChangeShapes Go.WideShapes Go.ChangeAt Go.RowKit Go.Joins
section
variable {H : Type} {enc : TypeId × Value → H} {P : Program} {w : World} {base : Nat} {spare : Nat → Bool} {held : Bool}
theorem trod_true {t : TypeId} (ht : P.underlying t = some .bool) (b : Bool) : DataW.Trod enc P w base spare held t (.bool b) (.lit (.bool b)) [] := ⟨1, by simp [DataW.trod, ht, Value.cells]⟩
end
end Go.Vc

/- The rows' step: opening arguments that are slices of strings and slices of items. Conditions: none. -/
namespace Go.Vc
open Go.ChangeShapes Go.WideShapes Go.ChangeAt Go.RowKit Go.Joins Go.Deep
section
variable {H : Type} {enc : TypeId × Value → H} {P : Program} {w : World} {base : Nat} {held : Bool}
theorem str_of {s : ByteArray} : Value.string s = sv s.data.toList := by simp [sv]
theorem len_of {s : ByteArray} (h : s.size ≤ maxLen) : s.data.toList.length ≤ 9223372036854775807 := by
  have e : s.data.toList.length = s.size := by rw [Array.length_toList]; rfl
  unfold maxLen at h
  omega
end
end Go.Vc

/- The rows' step: opening arguments that are entries or slices of entries. Conditions: none. -/
namespace Go.Vc
open Go.ChangeShapes Go.WideShapes Go.ChangeAt Go.RowKit Go.Joins Go.Deep
section
variable {H : Type} {enc : TypeId × Value → H} {P : Program} {w : World} {base : Nat} {held : Bool}
/-- A struct of an int64 and two strings. -/
theorem open_ent {r : Go.Reach} {b0 : Nat} {t : TypeId} {f0 f1 f2 : Field} {v : Value} {d : DataW H} {p : List MemPlace} (hs : P.underlying t = some (.struct #[f0, f1, f2])) (hone : Go.Deep.oneCellFields P #[f0, f1, f2] = true) (hC : P.cellsOf t = 3)
    (h0 : P.underlying f0.type = some (.int .i64)) (h1 : P.underlying f1.type = some .string) (h2 : P.underlying f2.type = some .string) (hv : Value.okWide P w r b0 t v) (h : DataW.Trod enc P w base (fun _ => true) held t v d p) :
    ∃ e : Ent, v = e.val ∧ e.nm.length ≤ 9223372036854775807 ∧ e.fm.length ≤ 9223372036854775807 := by
  obtain ⟨c0, c1, c2, y0, y1, y2, m, rfl, _, _, g0, g1, g2⟩ := open_agg3 hs hone hC hv h
  obtain ⟨z, e0, _, _⟩ := DataW.trod_int h0 g0
  obtain ⟨s0, e1, _, b0⟩ := DataW.trod_string h1 g1
  obtain ⟨s1, e2, _, b1⟩ := DataW.trod_string h2 g2
  simp at e0 e1 e2
  subst e0
  subst e1
  subst e2
  exact ⟨⟨z, s0.data.toList, s1.data.toList⟩, by unfold Ent.val; rw [← str_of, ← str_of], len_of b0, len_of b1⟩
end
end Go.Vc

/- The given card on FnExactAppendEntry: for every input the law returns true and leaves its arguments as they were; the listed variables are tied to the program's text. Conditions: none. -/
namespace Go.Proofs.YtombcpghgdabaaaGreatDoor.R43
open Go.ChangeShapes Go.WideShapes Go.ChangeAt Go.RowKit Go.Joins Go.Vc
theorem own : ownKnob Tryz.prog.godebug = none := by kernel_rfl
theorem laidOut : laidOutB Tryz.prog = true := by kernel_rfl
/-- What the condition gives: the table of powers of ten. -/
theorem tab_ok {W : World} (h : laidMetH Tryz.prog Rows.fnExactAppendEntryRow.laid W) : TabOk W := by
  rw [MakeChecks.laidMetH_plain _ _ _ (by kernel_rfl)] at h
  obtain ⟨ps, ⟨_, _, _, _, _, _, _, _, _, _, ⟨_, _, _, _, _, _, _, _, _, _, ⟨g, t, cs, fuel, p, q, hg, ht, hv, hd, _, _⟩, _⟩, _⟩, _, _⟩ := h
  have hg2 : Tryz.prog.globalNamed "internal/strconv.uint64pow10" = some 1 := by kernel_rfl
  have ht2 : (Tryz.prog.globals[1]?).map (·.type) = some 195 := by kernel_rfl
  obtain rfl := Option.some.inj (hg2.symm.trans hg)
  obtain rfl := Option.some.inj (ht2.symm.trans ht)
  unfold TabOk Lib.TabIs
  have hd2 : DataW.trod _ Tryz.prog W _ _ _ fuel 195 cs.toList = some (Lib.tabData .u64 Lib.pow10Tab, _) := hd
  rw [hv, ← Lib.cells_of_tab Tryz.underlying195 (by kernel_rfl) (by kernel_rfl) (by kernel_rfl) hd2]
set_option maxRecDepth 100000 in
theorem lifted (os : Os) (started : os.Started) (H : Type) (enc : TypeId × Value → H) :
    ReturnsInHanded {} Tryz.checked os 7 .any (fun w args => (Rows.fnExactAppendEntrySpec.pre enc Tryz.prog Tryz.f7 Rows.fnExactAppendEntryRow.domain false w args ∧ laidMetH Tryz.prog Rows.fnExactAppendEntryRow.laid w) ∧ sizedMet enc Tryz.prog Tryz.f7 (OpenSpec.ofChange Rows.fnExactAppendEntrySpec) false w args)
      (Rows.fnExactAppendEntrySpec.post enc Tryz.prog Tryz.f7 false true false false) := by
  refine returnsInHanded_of_change_and (C := Tryz.checked) (X := fun w _ => laidMetH Tryz.prog Rows.fnExactAppendEntryRow.laid w) (fun _ _ _ hh h => h.of_heap hh) own started (by kernel_rfl) Tryz.func7
    (ChangeSpec.witness_shaped (enc := enc) (C := Tryz.checked) (os := os) (X := fun w _ => laidMetH Tryz.prog Rows.fnExactAppendEntryRow.laid w) false (World.laidAll Tryz.prog os Rows.fnExactAppendEntryRow.laid) #[.string ⟨#[]⟩, .agg #[.int .i64 0, .string ⟨#[]⟩, .string ⟨#[]⟩]] 8 (World.laidAll_os _ _ _)
      (World.shaped_of_ZipB (by kernel_rfl) (by kernel_rfl)) (by kernel_rfl) (by kernel_rfl) (by kernel_rfl)
      (by rw [MakeChecks.laidMetH_plain _ _ _ (by kernel_rfl)]; exact laidMet_laidAll _ (by kernel_rfl) (by kernel_rfl))) ?_
  intro W base args ds gs before hval0 hW _ _ hL _
  have hval : ∀ (j : Nat) t v, Tryz.f7.params[j]? = some t → args[j]? = some v → Value.okWide Tryz.prog W .any base t v := hval0
  have hW' := hW
  obtain ⟨p, q, hA0, hV0, rfl, _, _⟩ := hW
  have hA : DataW.TrodAll enc Tryz.prog W 0 (fun _ => true) true Tryz.f7.params.toList args.toList ds p := hA0
  rw [Tryz.params7] at hA hval
  obtain ⟨v0, v1, d0, d1, p0, p1, rfl, rfl, rfl, h0, h1⟩ := trodAll_two hA
  obtain ⟨rfl, rfl⟩ := trodVars_none hV0
  clear hA0 hval0
  simp only [List.append_nil] at hW'
  have hlt : ∀ x ∈ p0 ++ p1, x.block < W.heap.size := fun x hx => hW'.lt x (by first | exact hx | exact List.mem_append_left _ hx | (simp at hx ⊢; exact .inl hx))
  have hargs0 : ∀ (W' : World), Ext W W' → DataW.Trod enc Tryz.prog W' 0 (fun b => decide (b < W.heap.size)) true 9 v0 d0 p0 :=
    fun W' hn => Below.trod laidOut (by kernel_rfl) (of_decide_eq_true (by kernel_rfl)) h0 hn (fun x hx => hlt x (by simp [hx]))
  have hargs1 : ∀ (W' : World), Ext W W' → DataW.Trod enc Tryz.prog W' 0 (fun b => decide (b < W.heap.size)) true 42 v1 d1 p1 :=
    fun W' hn => Below.trod laidOut (by kernel_rfl) (of_decide_eq_true (by kernel_rfl)) h1 hn (fun x hx => hlt x (by simp [hx]))
  obtain ⟨s0, rfl⟩ := okWide_string Tryz.underlying9 (hval 0 9 v0 rfl rfl)
  obtain ⟨l0, rfl⟩ : ∃ l : Str, s0 = ⟨l.toArray⟩ := ⟨s0.data.toList, by simp⟩
  obtain ⟨e1, rfl, hb1⟩ := open_ent Tryz.underlying42 (by kernel_rfl) (by kernel_rfl) Tryz.underlying2 Tryz.underlying9 Tryz.underlying9 (hval 1 42 v1 rfl rfl) h1
  refine (ok_laws_FnExactAppendEntryG (tab_ok hL) l0 e1 hb1).2.mono fun e W' he => ?_
  obtain ⟨_, rfl, rfl, hx⟩ := he
  exact ⟨_, rfl, _, _, _, [], _, [], hW', trodAll_mk1 (trod_true Tryz.underlying4 true), trodAll_mk2 (hargs0 _ hx) (hargs1 _ hx), rfl, hx.frame _, fun h => by cases h⟩
theorem and2 {a b : Bool} (h : a = true) (k : b = true) : (a && b) = true := by rw [h, k]; rfl
set_option maxHeartbeats 0 in
theorem facts : joinedFacts Tryz.pinned.checked.prog 7 Tryz.f7 Rows.fnExactAppendEntrySpec Rows.fnExactAppendEntryRow = true := by
  unfold joinedFacts
  (repeat refine and2 ?_ ?_) <;> (as_aux_lemma => kernel_rfl)
theorem holds : Rows.FnExactAppendEntrySaid :=
  OpenClaim.holds_of_wide 7 Tryz.f7 rfl rfl rfl rfl rfl rfl rfl ⟨rfl, rfl, rfl, rfl, rfl⟩ rfl rfl rfl rfl rfl (by as_aux_lemma => kernel_rfl) Tryz.func7 facts
    (of_decide_eq_true (by kernel_rfl)) (by unfold Func.isWrapper; rw [if_neg (of_decide_eq_false (by kernel_rfl))]; exact ⟨rfl, rfl⟩)
    (fun os started H enc _ => lifted os started H enc)
set_option maxHeartbeats 0 in
theorem proved : Rows.FnExactAppendEntryCardSaid :=
  Claim7.holds_tied_plain_at .later [] [.data, .data, .data, .data, .pinned] true (true, "09bbc5b45745a936017e98962b67032d417e35f7d40f2c7982e891b5db055a78") false holds (fun _ h => by cases h) (by as_aux_lemma => kernel_rfl) (fun _ h => by cases h) fnExactAppendEntry_row_tie rfl ⟨rfl, rfl⟩ (by as_aux_lemma => kernel_rfl) rfl
    (fun f fn hf hfn => by
      obtain rfl : f = 7 := Option.some.inj ((show Tryz.prog.funcNamed "loop.example/g01089/laws.FnExactAppendEntry" = some 7 by as_aux_lemma => kernel_rfl).symm.trans hf) |>.symm
      obtain rfl : fn = Tryz.f7 := (Option.some.inj (Tryz.func7.symm.trans hfn)).symm
      exact ⟨by as_aux_lemma => kernel_rfl, fun j t ht => by
        rw [Tryz.params7] at ht
        have hm : t ∈ [9, 42] := by simpa using Array.mem_of_getElem? ht
        have hall : ([9, 42].all fun u => !Tryz.prog.wantsStandIn u) = true := by as_aux_lemma => kernel_rfl
        exact (show Tryz.prog.wantsStandIn t = false by simpa using List.all_eq_true.1 hall t hm)⟩)
    (by as_aux_lemma => kernel_rfl)
end Go.Proofs.YtombcpghgdabaaaGreatDoor.R43
