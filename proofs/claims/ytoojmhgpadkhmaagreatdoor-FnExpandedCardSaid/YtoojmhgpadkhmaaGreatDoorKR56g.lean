/- The proof of FnExpandedCard, the last part. Conditions: none. -/
import Derived.Test.YtoojmhgpadkhmaaGreatDoorKR56f
import Derived.Test.YtoojmhgpadkhmaaGreatDoorFc
import Derived.Test.YtoojmhgpadkhmaaGreatDoorFe
import Derived.Test.YtoojmhgpadkhmaaGreatDoorRows
import Derived.ProofKit
import Derived.Lib.SmallJoins
import Derived.Test.YtoojmhgpadkhmaaGreatDoorCards
import Derived.LaidMore
import Derived.Lay
import Derived.OpenShut
import Derived.SevenTiedAt
import Derived.ChangeVars
import Derived.Stop.Joined
import Derived.Lib.LaidTab
namespace Go.Proofs.YtoojmhgpadkhmaaGreatDoor
open Go.ChangeShapes Go.WideShapes Go.ChangeAt Go.RowKit Go.Joins
section
variable {H : Type} {enc : TypeId × Value → H} {P : Program} {w : World} {base : Nat} {spare : Nat → Bool} {held : Bool}
theorem sl_of_ints {k : IntKind} {a : Addr} {len cap : Nat} {zs : List Int} (hl : len ≤ cap) (hm : cap ≤ maxLen) (hz : len ≤ zs.length) (hcell : ∀ i, i < zs.length → w.cell? (a.add i) = some (.int k (zs.getD i 0))) :
    Sl w (.slice (some a) len cap) ((zs.take len).map (.int k)) := by
  have hlen : ((zs.take len).map (Value.int k)).length = len := by simp; omega
  refine ⟨some a, cap, by rw [hlen], by rw [hlen]; exact hl, by simpa [maxLen] using hm, ?_⟩
  cases len with
  | zero => left; simp
  | succ len =>
    right
    obtain ⟨b, off, spot⟩ := a
    have hspot : spot = none := by simpa [Addr.add] using World.cell?_spot (hcell 0 (by omega))
    subst hspot
    refine ⟨b, off, rfl, fun i hi => ?_⟩
    rw [hlen] at hi
    have h1 := hcell i (by omega)
    have h2 : (⟨b, off, none⟩ : Addr).add i = ⟨b, off + i, none⟩ := by
      simp only [Addr.add]; split
      · rename_i e; simp
      · rfl
    rw [h2] at h1
    rw [h1, List.getElem?_map, List.getElem?_take, if_pos hi, List.getElem?_eq_getElem (by omega)]
    simp [List.getD_eq_getElem?_getD, List.getElem?_eq_getElem (show i < zs.length by omega)]
theorem open_si {t e : TypeId} {n : Nat} {v : Value} {x : DataW H × List MemPlace} (ht : P.underlying t = some (.slice e)) (he : P.underlying e = some (.int .i64)) (hc : P.cellsOf e = 1) (h : DataW.trod enc P w base (fun _ => true) held n t [v] = some x) : ∃ l, Q9 w v l := by
  rcases open_ints ht he hc h with ⟨hcs, _⟩ | ⟨a, len, cap, zs, hcs, _, hl, hm, hz, _, hcell, _⟩
  · cases hcs
    exact ⟨[], Sl.nil w⟩
  · cases hcs
    exact ⟨zs.take len, sl_of_ints hl hm (by rw [hz]; simpa using hl) hcell⟩
theorem open_fr {r : Reach} {b0 : Nat} {t e : TypeId} {f0 f1 : Field} {v : Value} {d : DataW H} {p : List MemPlace} (hs : P.underlying t = some (.struct #[f0, f1])) (hone : Go.Deep.oneCellFields P #[f0, f1] = true) (hC : P.cellsOf t = 2)
    (h0 : P.underlying f0.type = some (.int .i64)) (h1 : P.underlying f1.type = some (.slice e)) (he : P.underlying e = some (.int .i64)) (hc : P.cellsOf e = 1)
    (hv : Value.okWide P w r b0 t v) (h : DataW.Trod enc P w base (fun _ => true) held t v d p) : ∃ n v1 l, v = .agg #[.int .i64 n, v1] ∧ Q9 w v1 l := by
  obtain ⟨c0, c1, y0, y1, m, rfl, _, _, hy0, hy1⟩ := open_agg2 hs hone hC hv h
  obtain ⟨a, e0, _, _⟩ := DataW.trod_int h0 hy0
  simp at e0
  subst e0
  obtain ⟨l, hl⟩ := open_si h1 he hc hy1
  exact ⟨a, c1, l, rfl, hl⟩
theorem trod_true {t : TypeId} (ht : P.underlying t = some .bool) (b : Bool) : DataW.Trod enc P w base spare held t (.bool b) (.lit (.bool b)) [] := ⟨1, by simp [DataW.trod, ht, Value.cells]⟩
end
end Go.Proofs.YtoojmhgpadkhmaaGreatDoor
namespace Go.Proofs.YtoojmhgpadkhmaaGreatDoor
open Go.ChangeShapes Go.WideShapes Go.ChangeAt Go.RowKit Go.Joins
section
variable {H : Type} {enc : TypeId × Value → H} {P : Program} {w : World} {base : Nat} {held : Bool}
theorem open_sb {t e : TypeId} {n : Nat} {v : Value} {x : DataW H × List MemPlace} (ht : P.underlying t = some (.slice e)) (he : P.underlying e = some (.int .u8)) (hc : P.cellsOf e = 1) (h : DataW.trod enc P w base (fun _ => true) held n t [v] = some x) : ∃ bs, qf w v bs := by
  rcases open_ints ht he hc h with ⟨hcs, _⟩ | ⟨a, len, cap, zs, hcs, _, hl, hm, hz, _, hcell, hwf⟩
  · cases hcs
    exact ⟨[], Sl.nil w, fun b hb => by cases hb⟩
  · cases hcs
    have hb : ∀ z ∈ zs, 0 ≤ z ∧ z ≤ 255 := fun z hz => by
      have := hwf z hz
      have h2 : IntKind.u8.min ≤ z ∧ z ≤ IntKind.u8.max := by simpa [Lit.wf] using this
      exact h2
    refine ⟨(zs.take len).map Int.toNat, ?_, fun b hb' => ?_⟩
    · have := sl_of_ints hl hm (by rw [hz]; simpa using hl) hcell
      have e1 : ((zs.take len).map Int.toNat).map (fun b : Nat => Value.int .u8 ((b : Nat) : Int)) = (zs.take len).map (Value.int .u8) := by
        rw [List.map_map]
        refine List.map_congr_left fun z hz => ?_
        have := hb z (List.mem_of_mem_take hz)
        simp only [Function.comp]
        rw [Int.toNat_of_nonneg this.1]
      rw [e1]; exact this
    · obtain ⟨z, hz, rfl⟩ := List.mem_map.1 hb'
      have := hb z (List.mem_of_mem_take hz)
      omega
end
end Go.Proofs.YtoojmhgpadkhmaaGreatDoor
namespace Go.Proofs.YtoojmhgpadkhmaaGreatDoor.R56
open Go.ChangeShapes Go.WideShapes Go.ChangeAt Go.RowKit Go.Joins
theorem own : ownKnob Tryz.prog.godebug = none := by kernel_rfl
theorem var_below {P : Program} {B g : Nat} {W W' : World} {n : String} {cs : Array Value} (h : Below B W W') (hg : P.globalNamed n = some g) (hgB : g < B) (hv : W.var? P n = some cs) : W'.var? P n = some cs := by
  unfold World.var? at hv ⊢
  simp only [hg, Option.bind_some] at hv ⊢
  rw [h.block g hgB]
  exact hv
theorem gN : Tryz.prog.globalNamed "loop.example/g01089/impl.intermediateNames" = some 0 := by kernel_rfl
theorem tN : (Tryz.prog.globals[0]?).map (·.type) = some 183 := by kernel_rfl
theorem nm_ok {W : World} (h : laidMetH Tryz.prog Rows.fnExpandedRow.laid W) : ka W := by
  rw [MakeChecks.laidMetH_plain _ _ _ (by kernel_rfl)] at h
  obtain ⟨ps, ⟨_, _, _, _, _, _, _, _, _, _, ⟨_, _, _, _, _, _, _, _, _, _, ⟨g, t, cs, fuel, p, q, hg, ht, hv, hd, _, _⟩, _⟩, _⟩, _, _⟩ := h
  obtain rfl := Option.some.inj (gN.symm.trans hg)
  obtain rfl := Option.some.inj (tN.symm.trans ht)
  obtain ⟨xs, m, _, ex, _, hl, hel⟩ := DataW.trod_array Tryz.underlying183 hd
  have c9 : Tryz.prog.cellsOf 9 = 1 := by kernel_rfl
  intro r hr
  have hE := hel r hr
  rw [c9, Nat.mul_one, List.getElem?_eq_getElem (by omega)] at hE
  obtain ⟨z, e1, e2, _⟩ := DataW.trod_string Tryz.underlying9 hE
  have e3 : (xs.map (·.1)) = RC.map fun n => (DataW.lit (.string n) : DataW Unit) := (DataW.agg.inj (Prod.mk.inj ex).1).symm
  have e4 : (xs.map (·.1))[r]? = (RC.map fun n => (DataW.lit (.string n) : DataW Unit))[r]? := by rw [e3]
  have hlen : RC.length = 9 := rfl
  rw [List.getElem?_map, List.getElem?_map, List.getElem?_eq_getElem (by omega : r < xs.length), List.getElem?_eq_getElem (by omega : r < RC.length), e2] at e4
  simp only [Option.map_some, Option.some.injEq, DataW.lit.injEq, Lit.string.injEq] at e4
  rw [World.var?_cell hg hv r, LA (by omega : r < RC.length), ← e4]
  have h0 : ((cs.toList.drop r).take 1)[0]? = some (.string z) := by rw [e1]; rfl
  have : cs.toList[r]? = some (.string z) := by simpa using h0
  simpa using this
theorem tab_ok {W : World} (h : laidMetH Tryz.prog Rows.fnExpandedRow.laid W) : RY W := by
  rw [MakeChecks.laidMetH_plain _ _ _ (by kernel_rfl)] at h
  obtain ⟨ps, ⟨_, _, _, _, _, _, _, _, _, _, ⟨_, _, _, _, _, _, _, _, _, _, ⟨_, _, _, _, _, _, _, _, _, _, ⟨g, t, cs, fuel, p, q, hg, ht, hv, hd, _, _⟩, _⟩, _⟩, _⟩, _, _⟩ := h
  have hg2 : Tryz.prog.globalNamed "internal/strconv.uint64pow10" = some 2 := by kernel_rfl
  have ht2 : (Tryz.prog.globals[2]?).map (·.type) = some 481 := by kernel_rfl
  obtain rfl := Option.some.inj (hg2.symm.trans hg)
  obtain rfl := Option.some.inj (ht2.symm.trans ht)
  unfold RY Lib.TabIs
  have hd2 : DataW.trod _ Tryz.prog W _ _ _ fuel 481 cs.toList = some (Lib.tabData .u64 Lib.pow10Tab, _) := hd
  rw [hv, ← Lib.cells_of_tab Tryz.underlying481 (by kernel_rfl) (by kernel_rfl) (by kernel_rfl) hd2]
set_option maxHeartbeats 0 in
set_option maxRecDepth 100000 in
theorem lifted (os : Go.Os) (started : os.Started) (H : Type) (enc : TypeId × Value → H) :
    ReturnsInHanded {} Tryz.checked os 3 .any (fun w args => (Rows.fnExpandedSpec.pre enc Tryz.prog Tryz.f3 Rows.fnExpandedRow.domain false w args ∧ laidMetH Tryz.prog Rows.fnExpandedRow.laid w) ∧ sizedMet enc Tryz.prog Tryz.f3 (OpenSpec.ofChange Rows.fnExpandedSpec) false w args)
      (Rows.fnExpandedSpec.post enc Tryz.prog Tryz.f3 false true false false) := by
  refine returnsInHanded_of_change_and (C := Tryz.checked) (X := fun w _ => laidMetH Tryz.prog Rows.fnExpandedRow.laid w) (fun _ _ _ hh h => h.of_heap hh) own started (by as_aux_lemma => kernel_rfl) Tryz.func3
    (ChangeSpec.witness_shaped (enc := enc) (C := Tryz.checked) (os := os) (X := fun w _ => laidMetH Tryz.prog Rows.fnExpandedRow.laid w) false (World.laidAll Tryz.prog os Rows.fnExpandedRow.laid) #[.slice none 0 0] 8 (World.laidAll_os _ _ _)
      (World.shaped_of_ZipB (by as_aux_lemma => kernel_rfl) (by as_aux_lemma => kernel_rfl)) (by as_aux_lemma => kernel_rfl) (by as_aux_lemma => kernel_rfl) (by as_aux_lemma => kernel_rfl)
      (by rw [MakeChecks.laidMetH_plain _ _ _ (by as_aux_lemma => kernel_rfl)]; exact laidMet_laidAll _ (by as_aux_lemma => kernel_rfl) (by as_aux_lemma => kernel_rfl))) ?_
  intro W base args ds gs before hval0 hW _ _ hL _
  have hval : ∀ (j : Nat) t v, Tryz.f3.params[j]? = some t → args[j]? = some v → Value.okWide Tryz.prog W .any base t v := hval0
  have hW' := hW
  obtain ⟨p, q, hA0, hV0, rfl, _, _⟩ := hW
  have hA : DataW.TrodAll enc Tryz.prog W 0 (fun _ => true) true Tryz.f3.params.toList args.toList ds p := hA0
  have hV : DataW.TrodVars enc Tryz.prog W (fun _ => true) ["loop.example/g01089/impl.intermediateNames"] gs q := hV0
  rw [Tryz.params3] at hA hval
  obtain ⟨v0, d0, rfl, rfl, h0⟩ := trodAll_one hA
  obtain ⟨g, t, cs, fuel, d, p', rfl, hg, ht, hvar, hd, rfl⟩ := trodVars_one hV
  obtain rfl := Option.some.inj (gN.symm.trans hg)
  obtain rfl := Option.some.inj (tN.symm.trans ht)
  clear hA0 hval0
  have hlt : ∀ x ∈ p, x.block < W.heap.size := fun x hx => hW'.lt x (by first | exact hx | exact List.mem_append_left _ hx | (simp at hx ⊢; exact .inl hx))
  have hargs0 : ∀ (W' : World), bA W W' → DataW.Trod enc Tryz.prog W' 0 (fun b => decide (b < W.heap.size)) true 22 v0 d0 p :=
    fun W' hn => Below.trod laidOut (by kernel_rfl) (of_decide_eq_true (by kernel_rfl)) h0 hn (fun x hx => hlt x (by simp [hx]))
  have hN := nm_ok hL
  obtain ⟨a0, len0, cap0, rfl⟩ := okWide_slice Tryz.underlying22 (hval 0 22 v0 rfl rfl)
  obtain ⟨m0, hm0⟩ := id h0
  obtain ⟨l0, hs0⟩ := open_sb Tryz.underlying22 Tryz.underlying5 (by kernel_rfl) hm0
  refine (XZ hN (tab_ok hL) hs0).2.mono fun e W' he => ?_
  obtain ⟨_, rfl, rfl, hx⟩ := he
  have hgl : 0 < W.heap.size := Ug (hN 0 (by decide))
  obtain ⟨fuel', hd'⟩ := Below.trod laidOut (by kernel_rfl) (of_decide_eq_true (by kernel_rfl)) (v := .agg cs) (⟨fuel, by simpa [Value.cells] using hd⟩ : DataW.Trod enc Tryz.prog W 0 (fun _ => true) true 183 (.agg cs) d p') hx (fun x hx => hW'.lt x (List.mem_append_right _ (List.mem_append_right _ hx)))
  have hv' := trodVars_mk1 (enc := enc) (spare := fun b => decide (b < W.heap.size)) hg ht (var_below hx hg hgl hvar) (by simpa [Value.cells] using hd')
  exact ⟨_, rfl, _, _, _, [], _, (MemPlace.row ⟨0, 0, none⟩ cs.size ++ p'), hW', trodAll_mk1 (trod_true Tryz.underlying4 true), trodAll_mk1 (hargs0 _ hx), hv', hx.frame _, fun h => by cases h⟩
set_option maxHeartbeats 0 in
theorem holds : Rows.FnExpandedSaid :=
  OpenClaim.holds_of_wide 3 Tryz.f3 rfl rfl rfl rfl rfl rfl rfl ⟨rfl, rfl, rfl, rfl, rfl⟩ rfl rfl rfl rfl rfl fN Tryz.func3 facts
    (of_decide_eq_true (by kernel_rfl)) (by unfold Func.isWrapper; rw [if_neg (of_decide_eq_false (by kernel_rfl))]; exact ⟨rfl, rfl⟩)
    (fun os started H enc _ => lifted os started H enc)
set_option maxHeartbeats 0 in
theorem proved : Rows.FnExpandedCardSaid :=
  Claim7.holds_tied_plain_at .later [] [.pinned, .data, .data, .data, .data, .data] true (true, "1e69f0386532b83e73b32dc00813cabeaac0574b228a58c15dd7fd27f7544ec1") false holds (fun _ h => by cases h) (by as_aux_lemma => kernel_rfl) (fun _ h => by cases h) rowTie rfl ⟨rfl, rfl⟩ (by as_aux_lemma => kernel_rfl) rfl
    (fun f fn hf hfn => by
      obtain rfl : f = 3 := Option.some.inj (fN.symm.trans hf) |>.symm
      obtain rfl : fn = Tryz.f3 := (Option.some.inj (Tryz.func3.symm.trans hfn)).symm
      exact ⟨by as_aux_lemma => kernel_rfl, fun j t ht => by
        rw [Tryz.params3] at ht
        have hm : t ∈ [22] := by simpa using Array.mem_of_getElem? ht
        have hall : ([22].all fun u => !Tryz.prog.wantsStandIn u) = true := by as_aux_lemma => kernel_rfl
        exact (show Tryz.prog.wantsStandIn t = false by simpa using List.all_eq_true.1 hall t hm)⟩)
    goesN.symm
end Go.Proofs.YtoojmhgpadkhmaaGreatDoor.R56
