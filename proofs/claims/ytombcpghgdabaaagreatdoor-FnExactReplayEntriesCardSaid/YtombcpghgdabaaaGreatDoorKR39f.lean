/- The proof of FnExactReplayEntriesCard, part 6 of 6. Conditions: none. -/
import Derived.Test.YtombcpghgdabaaaGreatDoorKR39e
import Derived.Test.YtombcpghgdabaaaGreatDoorRows
import Derived.ProofKit
import Derived.Lib.SmallJoins
import Derived.Deep.Strs
import Derived.Deep.Fields
import Derived.Test.YtombcpghgdabaaaGreatDoorCards
import Derived.Test.YtombcpghgdabaaaGreatDoorTie
import Derived.LaidMore
import Derived.Lay
import Derived.OpenShut
import Derived.SevenTiedAt
import Derived.ChangeVars
import Derived.Stop.Joined
import Derived.Lib.LaidTab
/- The rows' step: opening the arguments; from a law's contract to the given statement. Conditions: none. -/
namespace Go.Vc
open Go.ChangeShapes Go.WideShapes Go.ChangeAt Go.RowKit Go.Joins
section
variable {H : Type} {enc : TypeId × Value → H} {P : Program} {w : World} {base : Nat} {spare : Nat → Bool} {held : Bool}
theorem trod_true {t : TypeId} (ht : P.underlying t = some .bool) (b : Bool) : DataW.Trod enc P w base spare held t (.bool b) (.lit (.bool b)) [] := ⟨1, by simp [DataW.trod, ht, Value.cells]⟩
end
end Go.Vc

/- The rows' step: opening arguments that are slices of strings and slices of items. Conditions: none. -/
namespace Go.Vc
open Go.ChangeShapes Go.WideShapes Go.ChangeAt Go.RowKit Go.Joins Go.Deep
theorem list_of' {α : Type} {Q : Nat → α → Prop} : ∀ n, (∀ i, i < n → ∃ q, Q i q) → ∃ l : List α, l.length = n ∧ ∀ i q, l[i]? = some q → Q i q
  | 0, _ => ⟨[], rfl, fun i q h => by simp at h⟩
  | n + 1, h => by
    obtain ⟨l, hl, hq⟩ := list_of' n fun i hi => h i (by omega)
    obtain ⟨q, hq1⟩ := h n (by omega)
    refine ⟨l ++ [q], by simp [hl], fun i q' hi => ?_⟩
    rcases Nat.lt_or_ge i n with h1 | h1
    · rw [List.getElem?_append_left (by omega)] at hi
      exact hq i q' hi
    · have hlt := (List.getElem?_eq_some_iff.1 hi).1
      rw [List.length_append, List.length_singleton] at hlt
      obtain rfl : i = n := by omega
      rw [List.getElem?_append_right (by omega), hl, Nat.sub_self] at hi
      simp at hi
      subst hi; exact hq1
section
variable {H : Type} {enc : TypeId × Value → H} {P : Program} {w : World} {base : Nat} {held : Bool}
theorem str_of {s : ByteArray} : Value.string s = sv s.data.toList := by simp [sv]
theorem len_of {s : ByteArray} (h : s.size ≤ maxLen) : s.data.toList.length ≤ 9223372036854775807 := by
  have e : s.data.toList.length = s.size := by rw [Array.length_toList]; rfl
  unfold maxLen at h
  omega
end
end Go.Vc

/- The rows' step: opening arguments that are entries or slices of entries. Conditions: none. -/
namespace Go.Vc
open Go.ChangeShapes Go.WideShapes Go.ChangeAt Go.RowKit Go.Joins Go.Deep
section
variable {H : Type} {enc : TypeId × Value → H} {P : Program} {w : World} {base : Nat} {held : Bool}
/-- A slice of structs of an int64 and two strings. -/
theorem open_en {t e : TypeId} {f0 f1 f2 : Field} {n : Nat} {v : Value} {x : DataW H × List MemPlace} (ht : P.underlying t = some (.slice e)) (hs : P.underlying e = some (.struct #[f0, f1, f2])) (hone : Go.Deep.oneCellFields P #[f0, f1, f2] = true) (hC : P.cellsOf e = 3)
    (h0 : P.underlying f0.type = some (.int .i64)) (h1 : P.underlying f1.type = some .string) (h2 : P.underlying f2.type = some .string) (h : DataW.trod enc P w base (fun _ => true) held n t [v] = some x) : ∃ L : List Ent, SlK 3 w v L.length (cellsE L) ∧ ∀ y ∈ L, y.nm.length ≤ 9223372036854775807 ∧ y.fm.length ≤ 9223372036854775807 := by
  rcases DataW.trod_slice ht h with ⟨hcs, _⟩ | ⟨a, len, cap, elems, rest, m, _, hcs, _, _, hl, hm, hlen, hel, _, _⟩
  · cases hcs
    exact ⟨[], ⟨rfl, none, 0, rfl, Nat.le_refl _, by omega, .inl rfl⟩, fun y hy => by cases hy⟩
  · cases hcs
    have each : ∀ i, i < len → ∃ q : Ent, w.cell? ((a.add (i * 3)).add 0) = some (.int .i64 q.kd) ∧ w.cell? ((a.add (i * 3)).add 1) = some (sv q.nm) ∧ w.cell? ((a.add (i * 3)).add 2) = some (sv q.fm) ∧ q.nm.length ≤ 9223372036854775807 ∧ q.fm.length ≤ 9223372036854775807 := by
      intro i hi
      have hb := hel i hi
      rw [hC, List.getElem?_eq_getElem (by omega), Option.bind_eq_some_iff] at hb
      obtain ⟨cs, hcs, hy⟩ := hb
      obtain ⟨_, hcl, hcell⟩ := World.cells?_some hcs
      obtain ⟨c0, c1, c2, rfl⟩ : ∃ c0 c1 c2, cs = [c0, c1, c2] := by
        match cs, hcl with
        | [c0, c1, c2], _ => exact ⟨c0, c1, c2, rfl⟩
      obtain ⟨y0, y1, y2, m', _, _, g0, g1, g2⟩ := trod_struct3 hs hy
      obtain ⟨o0, k0⟩ := hone_of hone 0 f0 rfl
      obtain ⟨o1, k1⟩ := hone_of hone 1 f1 rfl
      obtain ⟨o2, k2⟩ := hone_of hone 2 f2 rfl
      have g0' : DataW.trod enc P w base (fun _ => true) held m' f0.type [c0] = some y0 := by simpa [o0, k0] using g0
      have g1' : DataW.trod enc P w base (fun _ => true) held m' f1.type [c1] = some y1 := by simpa [o1, k1] using g1
      have g2' : DataW.trod enc P w base (fun _ => true) held m' f2.type [c2] = some y2 := by simpa [o2, k2] using g2
      obtain ⟨z, e0, _, _⟩ := DataW.trod_int h0 g0'
      obtain ⟨s0, e1, _, b0⟩ := DataW.trod_string h1 g1'
      obtain ⟨s1, e2, _, b1⟩ := DataW.trod_string h2 g2'
      simp at e0 e1 e2
      subst e0
      subst e1
      subst e2
      refine ⟨⟨z, s0.data.toList, s1.data.toList⟩, ?_, ?_, ?_, len_of b0, len_of b1⟩
      · simpa using hcell 0 (by omega)
      · rw [← str_of]; simpa using hcell 1 (by omega)
      · rw [← str_of]; simpa using hcell 2 (by omega)
    obtain ⟨L, hLl, hL⟩ := list_of' len each
    refine ⟨L, ⟨cellsE_len L, some a, cap, by rw [hLl], by omega, by simpa [maxLen] using hm, ?_⟩, fun y hy => ?_⟩
    · cases len with
      | zero => exact .inl hLl
      | succ len =>
        right
        obtain ⟨b, off, spot⟩ := a
        have hspot : spot = none := by
          have hq := (hL 0 _ (List.getElem?_eq_getElem (by omega))).1
          simpa [Addr.add] using World.cell?_spot hq
        subst hspot
        refine ⟨b, off, rfl, fun k hk => ?_⟩
        obtain ⟨i, f, rfl, hf⟩ : ∃ i f, k = i * 3 + f ∧ f < 3 := ⟨k / 3, k % 3, by omega, by omega⟩
        have hi : i < L.length := by omega
        obtain ⟨q0, q1, q2, _⟩ := hL i _ (List.getElem?_eq_getElem hi)
        rw [addr_add, addr_add] at q0 q1 q2
        have hc := cellsE_at hi
        rw [gt_eq hi] at hc
        rcases f with _ | _ | _ | f
        · rw [hc.1, ← q0]; rfl
        · rw [hc.2.1, ← q1]; rfl
        · rw [hc.2.2, ← q2]; rfl
        · omega
    · obtain ⟨i, hi, rfl⟩ := List.getElem_of_mem hy
      exact (hL i _ (List.getElem?_eq_getElem hi)).2.2.2
end
end Go.Vc

/- The given card on FnExactReplayEntries: for every input the law returns true and leaves its arguments as they were; the listed variables are tied to the program's text. Conditions: none. -/
namespace Go.Proofs.YtombcpghgdabaaaGreatDoor.R39
open Go.ChangeShapes Go.WideShapes Go.ChangeAt Go.RowKit Go.Joins Go.Vc
theorem own : ownKnob Tryz.prog.godebug = none := by kernel_rfl
theorem laidOut : laidOutB Tryz.prog = true := by kernel_rfl
/-- What the condition gives: the table of powers of ten. -/
theorem tab_ok {W : World} (h : laidMetH Tryz.prog Rows.fnExactReplayEntriesRow.laid W) : TabOk W := by
  rw [MakeChecks.laidMetH_plain _ _ _ (by kernel_rfl)] at h
  obtain ⟨ps, ⟨_, _, _, _, _, _, _, _, _, _, ⟨_, _, _, _, _, _, _, _, _, _, ⟨g, t, cs, fuel, p, q, hg, ht, hv, hd, _, _⟩, _⟩, _⟩, _, _⟩ := h
  have hg2 : Tryz.prog.globalNamed "internal/strconv.uint64pow10" = some 1 := by kernel_rfl
  have ht2 : (Tryz.prog.globals[1]?).map (·.type) = some 195 := by kernel_rfl
  obtain rfl := Option.some.inj (hg2.symm.trans hg)
  obtain rfl := Option.some.inj (ht2.symm.trans ht)
  unfold TabOk Lib.TabIs
  have hd2 : DataW.trod _ Tryz.prog W _ _ _ fuel 195 cs.toList = some (Lib.tabData .u64 Lib.pow10Tab, _) := hd
  rw [hv, ← Lib.cells_of_tab Tryz.underlying195 (by kernel_rfl) (by kernel_rfl) (by kernel_rfl) hd2]
set_option maxRecDepth 100000 in
theorem lifted (os : Os) (started : os.Started) (H : Type) (enc : TypeId × Value → H) :
    ReturnsInHanded {} Tryz.checked os 3 .any (fun w args => (Rows.fnExactReplayEntriesSpec.pre enc Tryz.prog Tryz.f3 Rows.fnExactReplayEntriesRow.domain false w args ∧ laidMetH Tryz.prog Rows.fnExactReplayEntriesRow.laid w) ∧ sizedMet enc Tryz.prog Tryz.f3 (OpenSpec.ofChange Rows.fnExactReplayEntriesSpec) false w args)
      (Rows.fnExactReplayEntriesSpec.post enc Tryz.prog Tryz.f3 false true false false) := by
  refine returnsInHanded_of_change_and (C := Tryz.checked) (X := fun w _ => laidMetH Tryz.prog Rows.fnExactReplayEntriesRow.laid w) (fun _ _ _ hh h => h.of_heap hh) own started (by kernel_rfl) Tryz.func3
    (ChangeSpec.witness_shaped (enc := enc) (C := Tryz.checked) (os := os) (X := fun w _ => laidMetH Tryz.prog Rows.fnExactReplayEntriesRow.laid w) false (World.laidAll Tryz.prog os Rows.fnExactReplayEntriesRow.laid) #[.slice none 0 0] 8 (World.laidAll_os _ _ _)
      (World.shaped_of_ZipB (by kernel_rfl) (by kernel_rfl)) (by kernel_rfl) (by kernel_rfl) (by kernel_rfl)
      (by rw [MakeChecks.laidMetH_plain _ _ _ (by kernel_rfl)]; exact laidMet_laidAll _ (by kernel_rfl) (by kernel_rfl))) ?_
  intro W base args ds gs before hval0 hW _ _ hL _
  have hval : ∀ (j : Nat) t v, Tryz.f3.params[j]? = some t → args[j]? = some v → Value.okWide Tryz.prog W .any base t v := hval0
  have hW' := hW
  obtain ⟨p, q, hA0, hV0, rfl, _, _⟩ := hW
  have hA : DataW.TrodAll enc Tryz.prog W 0 (fun _ => true) true Tryz.f3.params.toList args.toList ds p := hA0
  rw [Tryz.params3] at hA hval
  obtain ⟨v0, d0, rfl, rfl, h0⟩ := trodAll_one hA
  obtain ⟨rfl, rfl⟩ := trodVars_none hV0
  clear hA0 hval0
  simp only [List.append_nil] at hW'
  have hlt : ∀ x ∈ p, x.block < W.heap.size := fun x hx => hW'.lt x (by first | exact hx | exact List.mem_append_left _ hx | (simp at hx ⊢; exact .inl hx))
  have hargs0 : ∀ (W' : World), Ext W W' → DataW.Trod enc Tryz.prog W' 0 (fun b => decide (b < W.heap.size)) true 22 v0 d0 p :=
    fun W' hn => Below.trod laidOut (by kernel_rfl) (of_decide_eq_true (by kernel_rfl)) h0 hn (fun x hx => hlt x (by simp [hx]))
  obtain ⟨a0, len0, cap0, rfl⟩ := okWide_slice Tryz.underlying22 (hval 0 22 v0 rfl rfl)
  obtain ⟨m0, hm0⟩ := id h0
  obtain ⟨l0, hs0, hb0⟩ := open_en Tryz.underlying22 Tryz.underlying42 (by kernel_rfl) (by kernel_rfl) Tryz.underlying2 Tryz.underlying9 Tryz.underlying9 hm0
  refine (ok_laws_FnExactReplayEntries (tab_ok hL) hs0 hb0).2.mono fun e W' he => ?_
  obtain ⟨_, rfl, rfl, hx⟩ := he
  exact ⟨_, rfl, _, _, _, [], _, [], hW', trodAll_mk1 (trod_true Tryz.underlying4 true), trodAll_mk1 (hargs0 _ hx), rfl, hx.frame _, fun h => by cases h⟩
theorem and2 {a b : Bool} (h : a = true) (k : b = true) : (a && b) = true := by rw [h, k]; rfl
set_option maxHeartbeats 0 in
theorem facts : joinedFacts Tryz.pinned.checked.prog 3 Tryz.f3 Rows.fnExactReplayEntriesSpec Rows.fnExactReplayEntriesRow = true := by
  unfold joinedFacts
  (repeat refine and2 ?_ ?_) <;> (as_aux_lemma => kernel_rfl)
theorem holds : Rows.FnExactReplayEntriesSaid :=
  OpenClaim.holds_of_wide 3 Tryz.f3 rfl rfl rfl rfl rfl rfl rfl ⟨rfl, rfl, rfl, rfl, rfl⟩ rfl rfl rfl rfl rfl (by as_aux_lemma => kernel_rfl) Tryz.func3 facts
    (of_decide_eq_true (by kernel_rfl)) (by unfold Func.isWrapper; rw [if_neg (of_decide_eq_false (by kernel_rfl))]; exact ⟨rfl, rfl⟩)
    (fun os started H enc _ => lifted os started H enc)
set_option maxHeartbeats 0 in
theorem proved : Rows.FnExactReplayEntriesCardSaid :=
  Claim7.holds_tied_plain_at .later [] [.data, .data, .data] true (true, "09bbc5b45745a936017e98962b67032d417e35f7d40f2c7982e891b5db055a78") false holds (fun _ h => by cases h) (by as_aux_lemma => kernel_rfl) (fun _ h => by cases h) fnExactReplayEntries_row_tie rfl ⟨rfl, rfl⟩ (by as_aux_lemma => kernel_rfl) rfl
    (fun f fn hf hfn => by
      obtain rfl : f = 3 := Option.some.inj ((show Tryz.prog.funcNamed "loop.example/g01089/laws.FnExactReplayEntries" = some 3 by as_aux_lemma => kernel_rfl).symm.trans hf) |>.symm
      obtain rfl : fn = Tryz.f3 := (Option.some.inj (Tryz.func3.symm.trans hfn)).symm
      exact ⟨by as_aux_lemma => kernel_rfl, fun j t ht => by
        rw [Tryz.params3] at ht
        have hm : t ∈ [22] := by simpa using Array.mem_of_getElem? ht
        have hall : ([22].all fun u => !Tryz.prog.wantsStandIn u) = true := by as_aux_lemma => kernel_rfl
        exact (show Tryz.prog.wantsStandIn t = false by simpa using List.all_eq_true.1 hall t hm)⟩)
    (by as_aux_lemma => kernel_rfl)
end Go.Proofs.YtombcpghgdabaaaGreatDoor.R39
