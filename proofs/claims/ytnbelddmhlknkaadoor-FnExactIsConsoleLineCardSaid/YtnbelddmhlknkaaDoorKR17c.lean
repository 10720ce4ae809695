/- The proof of FnExactIsConsoleLine, part 3 of 4. Conditions: none. -/
import Derived.Test.YtnbelddmhlknkaaDoorKR17b
import Derived.Shelf.Small.Strs
/- Contracts: the text of a formula and formulas read from texts, in the program and in the reference. Conditions: none. -/
namespace Go.Vc
end Go.Vc
namespace Go.Proofs.YtnbelddmhlknkaaDoor
open Go.Vc
end Go.Proofs.YtnbelddmhlknkaaDoor

/- Contracts: the text of a formula and formulas read from texts, in the reference. Conditions: none. -/
namespace Go.Proofs.YtnbelddmhlknkaaDoor
open Go.Vc
end Go.Proofs.YtnbelddmhlknkaaDoor

/- Contracts: rows of items (three cells each), in the laws' helpers, the program and the reference. Conditions: none. -/
namespace Go.Vc
/-- A struct of three cells, in a block of its own. -/
theorem iNew3 {w : World} {e : TypeId} {a b c : Value} {K : Value → World → Prop} (h : ∀ q w', q = w.heap.size ∧ w'.heap.size = q + 1 → Ext w w' → Blk e w' q [a, b, c] → K (.pointer (some ⟨q, 0, none⟩)) w') : xNew (Value.cells (.agg #[a, b, c])) e w K :=
  iNew fun q w' h1 h2 h3 => h q w' h1 h2 (by simpa [Value.cells] using h3)
theorem iLd3 {w : World} {e : TypeId} {q : Nat} {a b c : Value} {K : Value → Prop} (hB : Blk e w q [a, b, c]) (h : K (.agg #[a, b, c])) : xLdA w 3 (.pointer (some ⟨q, 0, none⟩)) K := iLdA hB rfl (by simpa using h)
theorem iSt3 {P : Program} {w : World} {e : TypeId} {q : Nat} {cs : List Value} {a b c : Value} {K : World → Prop} (hB : Blk e w q cs) (hl : cs.length = 3) (ha : isCell a = true) (hb : isCell b = true) (hc : isCell c = true)
    (h : ∀ w', Blk e w' q [a, b, c] → Ch (fun d => d = q) w w' → K w') : xStA P w 3 (.pointer (some ⟨q, 0, none⟩)) (.agg #[a, b, c]) K := by
  obtain ⟨w', h1, h2, h3⟩ := storeCells_run (P := P) [a, b, c] 0 w cs hB (by simp [hl]) (fun v hv => by simp at hv; rcases hv with rfl | rfl | rfl <;> assumption)
  refine ⟨_, w', rfl, rfl, ?_, h w' ?_ (h2.ch rfl)⟩
  · simpa [Value.cells] using h1
  · rw [List.take_zero, List.nil_append, List.drop_of_length_le (by simp [hl]), List.append_nil] at h3; exact h3
theorem iStU {w : World} {e : TypeId} {b i : Nat} {cs : List Value} {v : Value} {K : World → Prop} (hB : Blk e w b cs) (hi : i < cs.length) (hv : isCell v = true) (h : ∀ w', Blk e w' b (cs.set i v) → Upd b w w' → K w') : xSt w (.pointer (some ⟨b, i, none⟩)) v K :=
  iStB hB hi hv fun h2 => h _ h2 (Upd.setCell w b i v)
/-! ### What is asked of items -/
end Go.Vc
namespace Go.Proofs.YtnbelddmhlknkaaDoor
open Go.Vc
end Go.Proofs.YtnbelddmhlknkaaDoor

/- Contracts: items asked and searched, rows of texts asked, in the program and the reference. Conditions: none. -/
namespace Go.Vc
end Go.Vc
namespace Go.Proofs.YtnbelddmhlknkaaDoor
open Go.Vc
end Go.Proofs.YtnbelddmhlknkaaDoor

/- Contracts of the laws' own functions on lists of int64 and on frames. Conditions: none. -/
namespace Go.Proofs.YtnbelddmhlknkaaDoor
open Go.Vc


end Go.Proofs.YtnbelddmhlknkaaDoor

/- Contracts: texts that use a name (Users), in the program and the reference; the law on it. Conditions: none. -/
namespace Go.Vc
theorem any_gt {T : List Str} {p : Str → Bool} {i : Nat} (hi : i < T.length) (h : p (gt T i) = true) : T.any p = true := List.any_eq_true.2 ⟨T[i], List.getElem_mem _, by rw [← gt_eq hi]; exact h⟩
theorem any_no {T : List Str} {p : Str → Bool} (h : ∀ i, i < T.length → p (gt T i) = false) : T.any p = false := by
  rw [List.any_eq_false]
  intro x hx
  obtain ⟨i, hi, rfl⟩ := List.getElem_of_mem hx
  rw [← gt_eq hi, h i hi]
  exact Bool.false_ne_true
theorem iIaG {w : World} {v : Value} {L : List Str} {z : Int} {j : Nat} {k : IntKind} {K : Value → Prop} (hs : SlT w v L) (hz : z = (j : Int)) (hj : j < L.length) (h : K (sv (gt L j))) : xIa 1 v (.int k z) fun p => xLd w p K := by
  subst hz
  exact iIaT hs hj fun p hp => iLd hp (by rw [← gt_eq hj]; exact h)
end Go.Vc
namespace Go.Proofs.YtnbelddmhlknkaaDoor
open Go.Vc
theorem ok_slices_ContainsFuncT {v fv : Value} {L : List Str} {p : Str → Bool} {w : World} (hs : SlT w v L) (hf : ∀ x ∈ L, ∀ w', Ext w w' → callV Tryd.prog fv [sv x] w' fun u w'' => u = .bool (p x) ∧ Ext w' w'') : Ret Tryd.prog f_slices_ContainsFunc_Sstring_string #[v, fv] w (.bool (L.any p)) := by
  apply c_slices_ContainsFunc_Sstring_string; unfold S_slices_ContainsFunc_Sstring_string
  have hln := hs.len
  rw [strs_len] at hln
  refine iCall (Cal.mono (R := fun r w' => Ext w w' ∧ ∃ z : Int, r = .int .i64 z ∧ (decide (0 ≤ z) = L.any p)) ?_ ?_)
  · apply c_slices_IndexFunc_Sstring_string; unfold S_slices_IndexFunc_Sstring_string
    refine iLenStr hs ?_
    refine iLp (fun i : Nat => [.int .i64 (i : Int)]) (fun i w' => i ≤ L.length ∧ Ext w w' ∧ ∀ j, j < i → p (gt L j) = false) (fun i => L.length - i) 0 rfl ⟨Nat.zero_le _, Ext.refl _, fun j hj => by omega⟩ ?_
    rintro i w2 Kn ⟨hi, h2, hno⟩ hKn
    intro _
    simp only [gx]
    refine iLt ?_
    refine iCndP (fun h => ?_) (fun h => ?_)
    · refine iIaG (hs.ext h2) rfl (by omega) ?_
      refine (hf (gt L i) (by rw [gt_eq (show i < L.length by omega)]; exact List.getElem_mem _) w2 h2).mono ?_
      rintro u w3 ⟨rfl, h23⟩
      refine iCnd (fun h3 => ?_) (fun h3 => ?_)
      · exact ⟨h2.trans h23, _, rfl, by rw [any_gt (by omega) h3]; simp⟩
      · refine iAdd (by omega) ?_
        refine hKn (i + 1) _ ⟨by omega, h2.trans h23, fun j hj => ?_⟩ (by omega)
        by_cases hji : j = i
        · subst hji; exact h3
        · exact hno j (by omega)
    · exact ⟨h2, -1, rfl, by rw [any_no fun j hj => hno j (by omega)]; rfl⟩
  · rintro r w1 ⟨h1, z, rfl, hz⟩
    refine iLe ?_
    rw [hz]
    exact ⟨by first | trivial | rfl, h1⟩
theorem ok_slices_ContainsT {v : Value} {L : List Str} {t : Str} {w : World} (hs : SlT w v L) : Ret Tryd.prog f_slices_Contains_Sstring_string #[v, sv t] w (.bool (decide (t ∈ L))) := by
  apply c_slices_Contains_Sstring_string; unfold S_slices_Contains_Sstring_string
  have hln := hs.len
  rw [strs_len] at hln
  refine iCall (Cal.mono (R := fun r w' => Ext w w' ∧ ∃ z : Int, r = .int .i64 z ∧ (decide (0 ≤ z) = decide (t ∈ L))) ?_ ?_)
  · apply c_slices_Index_Sstring_string; unfold S_slices_Index_Sstring_string
    refine iLenStr hs ?_
    refine iLp (fun i : Nat => [.int .i64 (i : Int)]) (fun i w' => i ≤ L.length ∧ Ext w w' ∧ ∀ j, j < i → ¬ t = gt L j) (fun i => L.length - i) 0 rfl ⟨Nat.zero_le _, Ext.refl _, fun j hj => by omega⟩ ?_
    rintro i w2 Kn ⟨hi, h2, hno⟩ hKn
    intro _
    simp only [gx]
    refine iLt ?_
    refine iCndP (fun h => ?_) (fun h => ?_)
    · refine iIaG (hs.ext h2) rfl (by omega) ?_
      refine iEqT ?_
      refine iCndP (fun h3 => ?_) (fun h3 => ?_)
      · refine ⟨h2, _, rfl, ?_⟩
        rw [decide_eq_true (show t ∈ L by rw [h3, gt_eq (show i < L.length by omega)]; exact List.getElem_mem _)]
        simp
      · refine iAdd (by omega) ?_
        refine hKn (i + 1) _ ⟨by omega, h2, fun j hj => ?_⟩ (by omega)
        by_cases hji : j = i
        · subst hji; exact h3
        · exact hno j (by omega)
    · refine ⟨h2, -1, rfl, ?_⟩
      rw [decide_eq_false (show ¬ t ∈ L from fun hm => by
        obtain ⟨j, hj, e⟩ := List.getElem_of_mem hm
        exact hno j (by omega) (by rw [gt_eq hj]; exact e.symm))]
      rfl
  · rintro r w1 ⟨h1, z, rfl, hz⟩
    refine iLe ?_
    rw [hz]
    exact ⟨by first | trivial | rfl, h1⟩
theorem ok_spec_l01Says {v : Value} {L : List Str} {t : Str} {w : World} (hs : SlT w v L) : Ret Tryd.prog f_spec_l01Says #[v, sv t] w (.bool (decide (t ∈ L))) := by
  apply c_spec_l01Says; unfold S_spec_l01Says
  have hln := hs.len
  rw [strs_len] at hln
  refine iLp (fun i : Nat => [.int .i64 (i : Int)]) (fun i w' => i ≤ L.length ∧ Ext w w' ∧ ∀ j, j < i → ¬ gt L j = t) (fun i => L.length - i) 0 rfl ⟨Nat.zero_le _, Ext.refl _, fun j hj => by omega⟩ ?_
  rintro i w2 Kn ⟨hi, h2, hno⟩ hKn
  intro _
  simp only [gx]
  refine iLenStr (hs.ext h2) ?_
  refine iLt ?_
  refine iCndP (fun h => ?_) (fun h => ?_)
  · refine iIaG (hs.ext h2) rfl (by omega) ?_
    refine iEqT ?_
    refine iCndP (fun h3 => ?_) (fun h3 => ?_)
    · rw [decide_eq_true (show t ∈ L by rw [← h3, gt_eq (show i < L.length by omega)]; exact List.getElem_mem _)]
      exact ⟨by first | trivial | rfl, h2⟩
    · refine iAdd (by omega) ?_
      refine hKn (i + 1) _ ⟨by omega, h2, fun j hj => ?_⟩ (by omega)
      by_cases hji : j = i
      · subst hji; exact h3
      · exact hno j (by omega)
  · rw [decide_eq_false (show ¬ t ∈ L from fun hm => by
      obtain ⟨j, hj, e⟩ := List.getElem_of_mem hm
      exact hno j (by omega) (by rw [gt_eq hj]; exact e))]
    exact ⟨by first | trivial | rfl, h2⟩
end Go.Proofs.YtnbelddmhlknkaaDoor

/- Contracts: queries (queryOf, IsQuery in the program and the reference). Conditions: none. -/
namespace Go.Vc
def wMid : Str := [109, 105, 100, 100, 108, 101]
def wMod : Str := [109, 111, 100, 97, 108]
def wWor : Str := [119, 111, 114, 108, 100, 115]
def wRnk : Str := [114, 97, 110, 107]
def wEq : Str := [101, 113, 117, 97, 108]
def wFix : Str := [102, 105, 120]
/-- The words of queries that take one expression alone. -/
def eW : List Str := [[115, 104, 111, 119], [110, 111, 100, 101, 115], [108, 101, 116, 116, 101, 114, 115], [99, 108, 97, 115, 115, 105, 99, 97, 108], [99, 110, 102], [110, 111, 114, 109, 97, 108], [105, 110, 116], [115, 116, 101, 112, 115], [116, 101, 114, 109], [108, 111, 103, 105, 99, 115], [115, 97, 104, 108, 113, 118, 105, 115, 116], [116, 114, 97, 99, 101]]
def mW : List Str := [wMod, wWor, wRnk]
def nW : List Str := [wMid, wMod, wWor, wRnk, wFix]
def lgs : List Str := [[75], [68], [84], [75, 52], [83, 52], [71, 76], [83, 53], [75, 66]]
def iNames : List Str := [[66, 68, 50], [66, 68, 51], [66, 87, 50], [66, 87, 51], [67, 76], [73, 110, 116], [75, 67], [76, 67], [83, 109, 76]]
def isV (t : Str) : Bool := decide (t.length = 1) && (decide (112 ≤ (t.getD 0 0).toNat) && decide ((t.getD 0 0).toNat ≤ 117))
def qL (p : Str → Bool) (n : Nat) : List Str → Bool
  | [] => false
  | l :: es => p l && (decide (es.length = n) && es.all exprB)
/-- Is it a query? (the words of a text) -/
def qB : List Str → Bool
  | [] => false
  | w0 :: rest =>
    if w0 ∈ eW then decide (rest.length = 1) && rest.all exprB
    else if w0 = wMid then qL (fun t => decide (t ∈ iNames)) 1 rest
    else if w0 ∈ mW then qL (fun t => decide (t ∈ lgs)) 1 rest
    else if w0 = wEq then qL (fun t => decide (t ∈ lgs)) 2 rest
    else if w0 = wFix then qL isV 1 rest
    else false
def isQ (t : Str) : Bool := decide (t.length ≤ 300) && qB (splitT 32 t)
/-- The form of a query by its first word. -/
def formW (w0 : Str) : Str :=
  if w0 ∈ eW then [69] else if w0 = wMid then [77, 69] else if w0 ∈ mW then [76, 69] else if w0 = wEq then [76, 69, 69] else if w0 = wFix then [86, 69] else []
def chkW (c : UInt8) (t : Str) : Bool := if c = 69 then exprB t else if c = 76 then decide (t ∈ lgs) else if c = 77 then decide (t ∈ iNames) else isV t
def qF (w0 : Str) (rest : List Str) : Bool := decide (formW w0 ≠ []) && (decide (rest.length = (formW w0).length) && (List.range (formW w0).length).all fun i => chkW ((formW w0).getD i 0) (gt rest i))
theorem qB_cons (w0 : Str) (rest : List Str) : qB (w0 :: rest) = if w0 ∈ eW then decide (rest.length = 1) && rest.all exprB
    else if w0 = wMid then qL (fun t => decide (t ∈ iNames)) 1 rest
    else if w0 ∈ mW then qL (fun t => decide (t ∈ lgs)) 1 rest
    else if w0 = wEq then qL (fun t => decide (t ∈ lgs)) 2 rest
    else if w0 = wFix then qL isV 1 rest
    else false := rfl
theorem qF_qB (w0 : Str) (rest : List Str) : qF w0 rest = qB (w0 :: rest) := by
  have r1 : List.range 1 = [0] := rfl
  have r2 : List.range 2 = [0, 1] := rfl
  have r3 : List.range 3 = [0, 1, 2] := rfl
  have n1 : ¬ wMid ∈ eW := of_decide_eq_true rfl
  have n2 : ¬ wEq ∈ eW := of_decide_eq_true rfl
  have n3 : ¬ wEq = wMid := of_decide_eq_true rfl
  have n4 : ¬ wEq ∈ mW := of_decide_eq_true rfl
  have n5 : ¬ wFix ∈ eW := of_decide_eq_true rfl
  have n6 : ¬ wFix = wMid := of_decide_eq_true rfl
  have n7 : ¬ wFix ∈ mW := of_decide_eq_true rfl
  have n8 : ¬ wFix = wEq := of_decide_eq_true rfl
  unfold qF qB formW
  split
  · rcases rest with _ | ⟨a, _ | ⟨b, r⟩⟩ <;> simp [*, chkW, gt]
  split
  · rcases rest with _ | ⟨a, _ | ⟨b, _ | ⟨d, r⟩⟩⟩ <;> simp [*, chkW, gt, qL]
  split
  · rcases rest with _ | ⟨a, _ | ⟨b, _ | ⟨d, r⟩⟩⟩ <;> simp [*, chkW, gt, qL]
  split
  · rcases rest with _ | ⟨a, _ | ⟨b, _ | ⟨d, _ | ⟨f, r⟩⟩⟩⟩ <;> simp [*, chkW, gt, qL]
  split
  · rcases rest with _ | ⟨a, _ | ⟨b, _ | ⟨d, r⟩⟩⟩ <;> simp [*, chkW, gt, qL]
  · simp [*]
theorem splitT_cons (c : UInt8) (t : Str) : ∃ a r, splitT c t = a :: r := by
  cases h : splitT c t with
  | nil => have := splitT_len c t; rw [h] at this; simp at this
  | cons a r => exact ⟨a, r, rfl⟩
/-! ### Chains of 'or' on texts -/
theorem iOrS {a b c : Str} {J : List Value → World → Prop} {w : World} {T : Bool} {G : Value → (List Value → World → Prop) → Prop} (hJ : ∀ w4, Ext w w4 → J [.bool T] w4) (hT : a = b → T = true)
    (h : ¬ a = b → ∀ J' : List Value → World → Prop, (∀ w4, Ext w w4 → J' [.bool T] w4) → G (.bool (decide (a = c))) J') : cnd (.bool (decide (a = b))) (J [.bool true] w) (xStr .eql (sv a) (sv c) fun v => jn (fun J' => G v J') (fun xs w8 => ∀ _ : Nat → Value, J [gx xs 0] w8)) := by
  refine iCndP (fun e => ?_) (fun e => ?_)
  · have := hJ w (Ext.refl w)
    rwa [hT e] at this
  · exact iEqT (iJn (h e _ fun w4 x _ => hJ w4 x))
theorem iOrE {a b c : Str} {J : List Value → World → Prop} {w : World} {T : Bool} (hJ : ∀ w4, Ext w w4 → J [.bool T] w4) (hT : a = b → T = true) (h : ¬ a = b → T = decide (a = c)) : cnd (.bool (decide (a = b))) (J [.bool true] w) (xStr .eql (sv a) (sv c) fun v => J [v] w) := by
  refine iCndP (fun e => ?_) (fun e => ?_)
  · have := hJ w (Ext.refl w)
    rwa [hT e] at this
  · refine iEqT ?_
    rw [← h e]
    exact hJ w (Ext.refl w)
theorem iBsS7 {w : World} {e : TypeId} {s0 s1 s2 s3 s4 s5 s6 : Str} {K : Value → World → Prop} (h : ∀ c w', c = w.heap.size ∧ w'.heap.size = c + 1 → Ext w w' → Blk e w' c (strs [s0, s1, s2, s3, s4, s5, s6]) → K (.slice (some ⟨c, 0, none⟩) 7 7) w') :
    xBs e (Value.cells (sv [])) 1 7 [(0, sv s0), (1, sv s1), (2, sv s2), (3, sv s3), (4, sv s4), (5, sv s5), (6, sv s6)] w K := by
  refine ⟨#[sv s0, sv s1, sv s2, sv s3, sv s4, sv s5, sv s6], ?_, h _ _ ⟨rfl, by simp⟩ (Ext.alloc w _) (Blk.new w #[sv s0, sv s1, sv s2, sv s3, sv s4, sv s5, sv s6] e)⟩
  simp [Instr.fill, Value.cells, show Array.range 7 = #[0, 1, 2, 3, 4, 5, 6] from rfl]
theorem iBsS8 {w : World} {e : TypeId} {s0 s1 s2 s3 s4 s5 s6 s7 : Str} {K : Value → World → Prop} (h : ∀ c w', c = w.heap.size ∧ w'.heap.size = c + 1 → Ext w w' → Blk e w' c (strs [s0, s1, s2, s3, s4, s5, s6, s7]) → K (.slice (some ⟨c, 0, none⟩) 8 8) w') :
    xBs e (Value.cells (sv [])) 1 8 [(0, sv s0), (1, sv s1), (2, sv s2), (3, sv s3), (4, sv s4), (5, sv s5), (6, sv s6), (7, sv s7)] w K := by
  refine ⟨#[sv s0, sv s1, sv s2, sv s3, sv s4, sv s5, sv s6, sv s7], ?_, h _ _ ⟨rfl, by simp⟩ (Ext.alloc w _) (Blk.new w #[sv s0, sv s1, sv s2, sv s3, sv s4, sv s5, sv s6, sv s7] e)⟩
  simp [Instr.fill, Value.cells, show Array.range 8 = #[0, 1, 2, 3, 4, 5, 6, 7] from rfl]
theorem iBsS9 {w : World} {e : TypeId} {s0 s1 s2 s3 s4 s5 s6 s7 s8 : Str} {K : Value → World → Prop} (h : ∀ c w', c = w.heap.size ∧ w'.heap.size = c + 1 → Ext w w' → Blk e w' c (strs [s0, s1, s2, s3, s4, s5, s6, s7, s8]) → K (.slice (some ⟨c, 0, none⟩) 9 9) w') :
    xBs e (Value.cells (sv [])) 1 9 [(0, sv s0), (1, sv s1), (2, sv s2), (3, sv s3), (4, sv s4), (5, sv s5), (6, sv s6), (7, sv s7), (8, sv s8)] w K := by
  refine ⟨#[sv s0, sv s1, sv s2, sv s3, sv s4, sv s5, sv s6, sv s7, sv s8], ?_, h _ _ ⟨rfl, by simp⟩ (Ext.alloc w _) (Blk.new w #[sv s0, sv s1, sv s2, sv s3, sv s4, sv s5, sv s6, sv s7, sv s8] e)⟩
  simp [Instr.fill, Value.cells, show Array.range 9 = #[0, 1, 2, 3, 4, 5, 6, 7, 8] from rfl]

theorem sl_tail_val {g k n cap : Nat} {K : Value → Prop} (hk : 1 ≤ n) (h : 1 < n → K (.slice (some ⟨g, k + 1, none⟩) (n - 1) (cap - 1))) (h1 : n = 1 → ∀ a, K (.slice a 0 (cap - 1))) (hc : n ≤ cap) : xSl 1 (.slice (some ⟨g, k, none⟩) n cap) (some (.int .i64 1)) none K := by
  refine ⟨_, _, _, 1, n, rfl, rfl, ⟨.i64, rfl⟩, hk, hc, ?_⟩
  rcases Nat.lt_or_ge 1 n with h2 | h2
  · have := h h2
    rw [if_neg (by omega), Option.map_some, addr_add, Nat.mul_one]
    exact this
  · have e : n = 1 := by omega
    have := h1 e
    rw [e, Nat.sub_self]
    exact this _
end Go.Vc
namespace Go.Proofs.YtnbelddmhlknkaaDoor
open Go.Vc
/-- The table of names lies as the program's text lays it. -/
def NmOk (w : World) : Prop := ∀ i, i < 9 → w.cell? ⟨0, i, none⟩ = some (sv (gt iNames i))
theorem cell_lt {w : World} {a : Addr} {v : Value} (h : w.cell? a = some v) : a.block < w.heap.size := by
  rcases Nat.lt_or_ge a.block w.heap.size with h1 | h1
  · exact h1
  · simp only [World.cell?, Array.getElem?_eq_none h1] at h
    cases h
theorem NmOk.ext {w w' : World} (h : NmOk w) (x : Ext w w') : NmOk w' := fun i hi => by
  have h1 := h i hi
  have hlt := cell_lt h1
  simp only [World.cell?] at h1 ⊢
  rw [Go.RowKit.Below.block x _ hlt]
  exact h1
theorem u_nm : Tryd.prog.underlying 46 = some (.array 9 t_string) := by kernel_rfl
theorem u_str : Tryd.prog.underlying t_string = some .string := by kernel_rfl
theorem run_nm {w : World} {cs : Array Value} {j : Nat} {v : Value} (hj : j < 9) (hc : cs[j]? = some v) : (Instr.index 46 (.agg cs) (.int .i64 (j : Int))).run Tryd.prog w = .ok v w := by
  obtain ⟨i, hi, h3⟩ := Option.map_eq_some_iff.1 i_Sstring
  simp only [Prod.mk.injEq] at h3
  simp [Instr.index, run_underlying u_nm, run_underlying u_str, asIntOf, part, isAgg, run_size hi, h3.2.1, hc]
  intro hx
  omega
theorem ok_impl_intermediateAt {t : Str} {w : World} (hN : NmOk w) : Cal Tryd.prog f_impl_intermediateAt #[sv t] w fun r w' => Ext w w' ∧ ∃ z : Int, r = .int .i64 z ∧ decide (0 ≤ z) = decide (t ∈ iNames) := by
  apply c_impl_intermediateAt; unfold S_impl_intermediateAt
  refine ⟨_, (strs iNames).toArray, rfl, rfl, fun i hi => ?_, ?_⟩
  · rw [addr_add, Nat.zero_add, hN i hi]
    have : i < iNames.length := hi
    simp [strs, gt_eq this, this]
  refine iLp (fun i : Nat => [.int .i64 (i : Int)]) (fun i w' => i ≤ 9 ∧ Ext w w' ∧ ∀ j, j < i → ¬ gt iNames j = t) (fun i => 9 - i) 0 rfl ⟨Nat.zero_le _, Ext.refl _, fun j hj => by omega⟩ ?_
  rintro i w2 Kn ⟨hi, x2, hno⟩ hKn
  intro _
  simp only [gx]
  refine iLt (iCndP (fun h => ?_) (fun h => ?_))
  · have hil : i < 9 := by omega
    refine ⟨sv (gt iNames i), fun w' _ => run_nm hil ?_, ?_⟩
    · have : i < iNames.length := hil
      simp [strs, gt_eq this, this]
    refine iEqT (iCndP (fun h2 => ?_) (fun h2 => ?_))
    · refine ⟨x2, _, rfl, ?_⟩
      rw [decide_eq_true (show t ∈ iNames by rw [← h2, gt_eq (show i < iNames.length from hil)]; exact List.getElem_mem _)]
      simp
    · refine iAdd (by omega) ?_
      refine hKn (i + 1) _ ⟨hil, x2, fun j hj => ?_⟩ (by omega)
      by_cases e : j = i
      · subst e; exact h2
      · exact hno j (by omega)
  · refine ⟨x2, -1, rfl, ?_⟩
    rw [decide_eq_false (show ¬ t ∈ iNames from fun hm => by
      obtain ⟨j, hj, e⟩ := List.getElem_of_mem hm
      have hj9 : j < 9 := hj
      exact hno j (by omega) (by rw [gt_eq hj]; exact e))]
    rfl
theorem ok_impl_isSearchLogic (t : Str) (w : World) : Ret Tryd.prog f_impl_isSearchLogic #[sv t] w (.bool (decide (t ∈ lgs))) := by
  apply c_impl_isSearchLogic; unfold S_impl_isSearchLogic
  refine iCall (Cal.mono (R := fun r w' => Ext w w' ∧ SlT w' r lgs) ?_ ?_)
  · apply c_impl_searchLogics; unfold S_impl_searchLogics
    refine iBsS8 fun b w1 hb x1 hB => ⟨x1, Sl.ofBlk (n := 8) hB rfl (by decide)⟩
  · rintro r w1 ⟨x1, h1⟩
    exact iRet (ok_slices_ContainsT h1) fun w2 x2 => ⟨rfl, x1.trans x2⟩
theorem ok_impl_isVariableLetter (t : Str) (w : World) : Ret Tryd.prog f_impl_isVariableLetter #[sv t] w (.bool (isV t)) := by
  apply c_impl_isVariableLetter; unfold S_impl_isVariableLetter
  refine iJnB (isV t) w (fun J hJ => ?_) (fun w2 x2 => fun _ => ⟨by first | trivial | rfl, x2⟩)
  refine iLenT (iEq (iCndP (fun h => ?_) (fun h => ?_)))
  · obtain ⟨c, rfl⟩ : ∃ c, t = [c] := List.length_eq_one_iff.1 (by omega)
    refine iRet (v := .bool (isV [c])) ?_ fun w3 x3 => hJ _ x3
    apply c_strings_Contains; unfold S_strings_Contains
    refine iRet (ok_strings_Index1 [112, 113, 114, 115, 116, 117] c w) fun w1 x1 => ?_
    refine iLe ⟨?_, x1⟩
    congr 1
    have e : isV [c] = decide (c ∈ ([112, 113, 114, 115, 116, 117] : Str)) := by
      simp only [isV, List.length_singleton, List.getD_cons_zero, decide_true, Bool.true_and, ← Bool.decide_and]
      refine decide_eq_decide.2 ⟨fun h => ?_, fun h => ?_⟩
      · have : c.toNat = 112 ∨ c.toNat = 113 ∨ c.toNat = 114 ∨ c.toNat = 115 ∨ c.toNat = 116 ∨ c.toNat = 117 := by omega
        have k : ∀ d : UInt8, c.toNat = d.toNat → c = d := fun d hd => UInt8.toNat_inj.1 hd
        simp only [List.mem_cons, List.not_mem_nil, or_false]
        rcases this with h | h | h | h | h | h
        · exact .inl (k 112 h)
        · exact .inr (.inl (k 113 h))
        · exact .inr (.inr (.inl (k 114 h)))
        · exact .inr (.inr (.inr (.inl (k 115 h))))
        · exact .inr (.inr (.inr (.inr (.inl (k 116 h)))))
        · exact .inr (.inr (.inr (.inr (.inr (k 117 h)))))
      · simp only [List.mem_cons, List.not_mem_nil, or_false] at h
        rcases h with rfl | rfl | rfl | rfl | rfl | rfl <;> decide
    rw [e]
    rcases indexByte_cases [112, 113, 114, 115, 116, 117] c with ⟨h, e2⟩ | ⟨a, r, e3, _, e2⟩
    · rw [e2, decide_eq_false (fun hm => h c hm rfl)]; rfl
    · rw [e2, decide_eq_true (show c ∈ ([112, 113, 114, 115, 116, 117] : Str) by rw [e3]; simp)]
      simp
  · have : isV t = false := by unfold isV; rw [decide_eq_false (by omega)]; rfl
    rw [this] at hJ
    exact hJ _ (Ext.refl _)
abbrev TxQ (lo : Nat) (w : World) (v : Value) (L : List Str) : Prop := Ow lo t_string w v (strs L)
theorem iCutX {k : Nat} {v : Value} {x y : Option Value} {K : Value → Prop} (P : Value → Prop) (hP : ∀ K : Value → Prop, (∀ u, P u → K u) → xSl k v x y K) (h : ∀ u, P u → K u) : xSl k v x y K := hP K h
theorem ok_impl_queryOf {t : Str} (ht : t.length ≤ 300) {w : World} (hN : NmOk w) : Cal Tryd.prog f_impl_queryOf #[sv t] w fun r w' => Ext w w' ∧ ∃ a b x, r = .tuple #[.agg #[sv a, sv b, x], .bool (qB (splitT 32 t))] ∧ isCell x = true := by
  apply c_impl_queryOf; unfold S_impl_queryOf
  refine iNew3 fun q2 w1 hq2 x1 hB2 => ?_
  refine iCall ((ok_strings_Split1 32 (by omega) w1).mono ?_)
  rintro v11 w2 ⟨x2, ho⟩
  have hWl := splitT_le 32 t
  have hWm := splitT_mem 32 t
  obtain ⟨w0, rest, hW⟩ := splitT_cons 32 t
  rw [hW] at ho hWl hWm ⊢
  obtain ⟨g, cap, hv, hcap, hcm⟩ := Ow.open ho (by simp [strs])
  have hln := strs_len (w0 :: rest)
  rw [hln] at hv hcap
  have hg : v11.ownBlock = some g := by rw [hv]; rfl
  have hg2 := ho.blk g hg
  have s1 := x1.size
  refine iIaG (L := w0 :: rest) ho.sl (j := 0) rfl (by simp) ?_
  show xBuild _ _ [(0, sv w0)] _
  refine iBuild (cs := #[sv w0, sv [], .slice none 0 0]) (by simp [Instr.fill, Value.cells]) ?_
  refine iNew3 fun q5 w3 hq5 x3 hB5 => ?_
  refine iSt3 hB5 rfl rfl rfl rfl fun w4 hB5 hc4 => ?_
  have s2 := x2.size
  have X4 : Ext w2 w4 := x3.thenCh hc4 fun c hc => by omega
  have hB2 := (hB2.ext x2).ext X4
  have X4' := (x1.trans x2).trans X4
  have hN4 := hN.ext X4'
  -- the row of words wherever its block stands as it did
  have hO : ∀ w' : World, w'.heap[g]? = w2.heap[g]? → TxQ w1.heap.size w' v11 (w0 :: rest) := fun w' e => ho.same fun c hc => by
    rw [hg] at hc
    cases hc
    exact e
  have hg4 : w4.heap[g]? = w2.heap[g]? := Go.RowKit.Below.block X4 g hg2.2
  have hg5 : g ≠ q5 := by omega
  have hgq2 : g ≠ q2 := by omega
  have hq25 : q2 ≠ q5 := by omega
  refine iFa (iLdB hB5 rfl ?_)
  refine iEqT ?_
  refine iJnB (decide (w0 ∈ eW)) w4 (fun J hJ => ?_) (fun w6 x6 => ?_)
  · refine iOrS hJ (fun e => by rw [e]; rfl) fun n1 J hJ => ?_
    refine iOrS hJ (fun e => by rw [e]; rfl) fun n2 J hJ => ?_
    refine iOrS hJ (fun e => by rw [e]; rfl) fun n3 J hJ => ?_
    refine iOrS hJ (fun e => by rw [e]; rfl) fun n4 J hJ => ?_
    refine iOrS hJ (fun e => by rw [e]; rfl) fun n5 J hJ => ?_
    refine iOrS hJ (fun e => by rw [e]; rfl) fun n6 J hJ => ?_
    refine iOrS hJ (fun e => by rw [e]; rfl) fun n7 J hJ => ?_
    refine iOrS hJ (fun e => by rw [e]; rfl) fun n8 J hJ => ?_
    refine iOrS hJ (fun e => by rw [e]; rfl) fun n9 J hJ => ?_
    refine iOrS hJ (fun e => by rw [e]; rfl) fun n10 J hJ => ?_
    refine iOrE hJ (fun e => by rw [e]; rfl) fun n11 => ?_
    refine decide_eq_decide.2 ?_
    simp only [eW, List.mem_cons, List.not_mem_nil, or_false, n1, n2, n3, n4, n5, n6, n7, n8, n9, n10, n11, false_or]
  intro _
  simp only [gx]
  have X6 := X4'.trans x6
  have hB5 := hB5.ext x6
  have hB2 := hB2.ext x6
  have hN6 := hN4.ext x6
  have hg6 : w6.heap[g]? = w2.heap[g]? := (Go.RowKit.Below.block x6 g (by have := X4.size; omega)).trans hg4
  have bad : ∀ {w' : World} {lg : Str} {x : Value}, Ext w w' → Blk 25 w' q5 [sv w0, sv lg, x] → isCell x = true → Blk 25 w' q2 [sv [], sv [], .slice none 0 0] → qB (w0 :: rest) = false →
      xLdA w' 3 (.pointer (some ⟨q5, 0, none⟩)) fun v18 => xStA Tryd.prog w' 3 (.pointer (some ⟨q2, 0, none⟩)) v18 fun w39 => xLdA w39 3 (.pointer (some ⟨q2, 0, none⟩)) fun r40 => Ext w w39 ∧ ∃ a b x, Value.tuple #[r40, .bool false] = .tuple #[.agg #[sv a, sv b, x], .bool (qB (w0 :: rest))] ∧ isCell x = true := fun {w' lg x} hX h5 hx h2 hb => by
    refine iLd3 h5 ?_
    refine iSt3 h2 rfl rfl rfl hx fun w'' h2' hc => ?_
    refine iLd3 h2' ⟨hX.thenCh hc fun c hc => by omega, w0, lg, x, by rw [hb], hx⟩
  refine iJnX (fun xs w' => Ext w6 w' ∧ ∃ nm : Bool, ∃ n : Nat, xs = [.bool nm, .int .i64 (n : Int)] ∧ ((w0 ∈ eW ∧ nm = false ∧ n = 1) ∨ (¬ w0 ∈ eW ∧ nm = true ∧ (w0 = wEq ∧ n = 2 ∨ ¬ w0 = wEq ∧ w0 ∈ nW ∧ n = 1)))) (fun J27 hJ27 => ?_) ?_
  · refine iCndP (fun hE => hJ27 _ _ ⟨Ext.refl _, false, 1, rfl, .inl ⟨hE, rfl, rfl⟩⟩) (fun hE => ?_)
    refine iEqT (iJn ?_)
    refine iCndP (fun h => fun _ => hJ27 _ _ ⟨Ext.refl _, true, 2, rfl, .inr ⟨hE, rfl, .inl ⟨h, rfl⟩⟩⟩) (fun hq => ?_)
    refine iEqT ?_
    refine iJnB (decide (w0 ∈ nW)) w6 (fun J hJ => ?_) (fun w8 x8 => ?_)
    · refine iOrS hJ (fun e => by rw [e]; rfl) fun n1 J hJ => ?_
      refine iOrS hJ (fun e => by rw [e]; rfl) fun n2 J hJ => ?_
      refine iOrS hJ (fun e => by rw [e]; rfl) fun n3 J hJ => ?_
      refine iOrE hJ (fun e => by rw [e]; rfl) fun n4 => ?_
      refine decide_eq_decide.2 ?_
      simp only [nW, List.mem_cons, List.not_mem_nil, or_false, wMid, wMod, wWor, wRnk, wFix, n1, n2, n3, n4, false_or]
    · intro _
      simp only [gx]
      refine iCndP (fun h => fun _ => hJ27 _ _ ⟨x8, true, 1, rfl, .inr ⟨hE, rfl, .inr ⟨hq, h, rfl⟩⟩⟩) (fun hn => ?_)
      refine bad (X6.trans x8) (hB5.ext x8) rfl (hB2.ext x8) ?_
      simp only [nW, List.mem_cons, List.not_mem_nil, or_false, not_or] at hn
      unfold qB mW
      have hq' : ¬ w0 = wEq := hq
      simp [hE, hn.1, hn.2.1, hn.2.2.1, hn.2.2.2.1, hn.2.2.2.2, hq']
  rintro xs w28 ⟨x28, nm, n, rfl, hcl⟩
  intro _
  simp only [gx]
  have X28 := X6.trans x28
  have hB5 := hB5.ext x28
  have hB2 := hB2.ext x28
  have hN28 := hN6.ext x28
  have hg28 : w28.heap[g]? = w2.heap[g]? := (Go.RowKit.Below.block x28 g (by have := X4.size; have := x6.size; omega)).trans hg6
  -- the words behind the first, as a value that stands wherever the row's block does
  refine iCutX (fun v41 => isCell v41 = true ∧ (∀ w' : World, w'.heap[g]? = w2.heap[g]? → SlT w' v41 rest) ∧ (∀ lg es, rest = lg :: es → ∃ n' c', v41 = .slice (some ⟨g, 1, none⟩) n' c' ∧ 1 ≤ n' ∧ n' ≤ c' ∧ n' = rest.length)) (fun K H' => ?_) ?_
  · have H := fun (v41 : Value) h1 h2 h3 => H' v41 ⟨h1, h2, h3⟩
    rw [hv]
    rcases Nat.lt_or_ge 1 (w0 :: rest).length with h1 | h1
    · refine sl_tail_val (by simp) (fun _ => ?_) (fun e => absurd e (by omega)) hcap
      refine H _ rfl (fun w' e => ?_) (fun lg es e => ⟨_, _, rfl, by omega, by omega, by simp⟩)
      have h := hO w' e
      rw [hv] at h
      have hd : (strs (w0 :: rest)).drop 1 = strs rest := rfl
      refine ⟨some ⟨g, 1, none⟩, cap - 1, ?_, ?_, ?_, .inr ⟨g, 1, rfl, fun i hi => ?_⟩⟩
      · rw [strs_len]; rfl
      · rw [strs_len]; simp at hcap ⊢; omega
      · omega
      · rw [strs_len] at hi
        rw [← hd, List.getElem?_drop]
        exact h.at hln (by simp; omega)
    · have hr : rest = [] := by cases rest with | nil => rfl | cons a b => simp at h1
      refine sl_tail_val (by simp) (fun e => absurd e (by omega)) (fun _ a => ?_) hcap
      refine H _ rfl (fun w' e => ?_) (fun lg es e => by rw [hr] at e; cases e)
      rw [hr]
      exact ⟨a, _, rfl, Nat.zero_le _, by omega, .inl rfl⟩
  rintro v41 ⟨hc41, hs41, hx41⟩
  refine iJnX (fun xs w' => ∃ (v : Value) (es : List Str) (lg : Str), xs = [v] ∧ isCell v = true ∧ (∀ w'' : World, w''.heap[g]? = w2.heap[g]? → SlT w'' v es) ∧ Ext w w' ∧ w'.heap[g]? = w2.heap[g]? ∧ NmOk w' ∧ Blk 25 w' q5 [sv w0, sv lg, .slice none 0 0] ∧ Blk 25 w' q2 [sv [], sv [], .slice none 0 0] ∧ ((nm = false ∧ es = rest) ∨ (nm = true ∧ rest = lg :: es))) (fun J41 hJ41 => ?_) ?_
  · refine iCnd (fun hnm => ?_) (fun hnm => ?_)
    · refine iLenStr (hs41 w28 hg28) ?_
      refine iEq (iCndP (fun h0 => ?_) (fun h0 => ?_))
      · have hr : rest = [] := List.length_eq_zero_iff.1 (by omega)
        refine bad X28 hB5 rfl hB2 ?_
        rcases hcl with ⟨_, h, _⟩ | ⟨hE, _, _⟩
        · rw [h] at hnm; cases hnm
        · rw [hr]; unfold qB; simp [hE, qL]
      · obtain ⟨lg, es, hr⟩ : ∃ lg es, rest = lg :: es := by
          cases hrr : rest with
          | nil => rw [hrr] at h0; simp at h0
          | cons a b => exact ⟨a, b, rfl⟩
        obtain ⟨n', c', rfl, hn1, hnc, hnl⟩ := hx41 lg es hr
        refine ⟨fun c => c = q5, ?_⟩
        refine iIaL (j := 0) (by omega) ?_
        have hcell : ∀ w' : World, w'.heap[g]? = w2.heap[g]? → w'.cell? ⟨g, 1 + 0, none⟩ = some (sv lg) := fun w' e => by
          have h := hO w' e
          rw [hv] at h
          have := h.at hln (j := 1) (by rw [hr]; simp)
          rw [hr] at this
          exact this
        refine iLd (hcell w28 hg28) ⟨fun w46 hc => ?_, ?_⟩
        · refine iLd (hcell w46 ((hc.block g (by have := X4.size; have := x6.size; have := x28.size; omega) hg5).trans hg28)) rfl
        refine sl_tail_val hn1 (fun h => ?_) (fun h a => ?_) hnc
        · refine iFa ?_
          intro w47 x47
          refine iStU (hB5.ext x47) (by simp) rfl fun w48 hB48 hu => ⟨hu.ch rfl, fun w49 x49 => ?_⟩
          have hg49 : w49.heap[g]? = w2.heap[g]? := by
            have hl28 : g < w28.heap.size := by have := X4.size; have := x6.size; have := x28.size; omega
            have hl47 : g < w47.heap.size := by have := x47.size; omega
            rw [Go.RowKit.Below.block x49 g (by rw [hu.size]; exact hl47), hu.block g hg5, Go.RowKit.Below.block x47 g hl28, hg28]
          have X49 : Ext w w49 := ((X28.trans x47).thenCh (hu.ch (S := fun c => c = q5) rfl) fun c hc => by omega).trans x49
          refine hJ41 _ _ ⟨_, es, lg, rfl, rfl, fun w'' e => ?_, X49, hg49, hN.ext X49, hB48.ext x49, ?_, .inr ⟨hnm, hr⟩⟩
          · have h3 := hO w'' e
            rw [hv] at h3
            have hd : (strs (w0 :: rest)).drop 2 = strs es := by rw [hr]; rfl
            have hel : es.length = n' - 1 := by rw [hnl, hr]; rfl
            refine ⟨some ⟨g, 1 + 1, none⟩, c' - 1, ?_, ?_, ?_, .inr ⟨g, 1 + 1, rfl, fun i hi => ?_⟩⟩
            · rw [strs_len, hel]
            · rw [strs_len, hel]; omega
            · have : n' ≤ c' := hnc
              have h41 := hs41 w28 hg28
              obtain ⟨a', c2, hv2, k2, k3, _⟩ := h41
              injection hv2 with e1 e2 e3
              omega
            · rw [strs_len] at hi
              rw [← hd, List.getElem?_drop]
              exact h3.at hln (by simp; omega)
          · exact ((hB2.ext x47).upd hu hq25).ext x49
        · refine iFa ?_
          intro w47 x47
          refine iStU (hB5.ext x47) (by simp) rfl fun w48 hB48 hu => ⟨hu.ch rfl, fun w49 x49 => ?_⟩
          have hg49 : w49.heap[g]? = w2.heap[g]? := by
            have hl28 : g < w28.heap.size := by have := X4.size; have := x6.size; have := x28.size; omega
            have hl47 : g < w47.heap.size := by have := x47.size; omega
            rw [Go.RowKit.Below.block x49 g (by rw [hu.size]; exact hl47), hu.block g hg5, Go.RowKit.Below.block x47 g hl28, hg28]
          have X49 : Ext w w49 := ((X28.trans x47).thenCh (hu.ch (S := fun c => c = q5) rfl) fun c hc => by omega).trans x49
          have hes : es = [] := List.length_eq_zero_iff.1 (by rw [hr, List.length_cons] at hnl; omega)
          refine hJ41 _ _ ⟨_, es, lg, rfl, rfl, fun w'' e => ?_, X49, hg49, hN.ext X49, hB48.ext x49, ?_, .inr ⟨hnm, hr⟩⟩
          · rw [hes]
            have h41 := hs41 w28 hg28
            obtain ⟨a', c2, hv2, k2, k3, _⟩ := h41
            injection hv2 with e1 e2 e3
            exact ⟨a, _, rfl, Nat.zero_le _, by omega, .inl rfl⟩
          · exact ((hB2.ext x47).upd hu hq25).ext x49
    · refine hJ41 _ _ ⟨v41, rest, [], rfl, hc41, hs41, X28, hg28, hN28, hB5, hB2, .inl ⟨hnm, rfl⟩⟩
  rintro xs w42 ⟨v, es, lg, rfl, hcv, hsv, X42, hg42, hN42, hB5, hB2, hrs⟩
  intro _
  simp only [gx]
  refine iFa (iLdB hB5 rfl ?_)
  refine iEqT ?_
  have hl42 : g < w42.heap.size := by
    rcases Nat.lt_or_ge g w42.heap.size with h | h
    · exact h
    · rw [Array.getElem?_eq_none h] at hg42
      rw [Array.getElem?_eq_getElem hg2.2] at hg42
      cases hg42
  refine iJnB (if w0 = wMid then decide (lg ∈ iNames) else if w0 = wFix then isV lg else (!nm || decide (lg ∈ lgs))) w42 (fun J hJ => ?_) (fun w51 x51 => ?_)
  · refine iCndP (fun h => ?_) (fun h => ?_)
    · have h : w0 = wMid := h
      rw [if_pos h] at hJ
      refine iFa (iLdB hB5 rfl ?_)
      refine iCall ((ok_impl_intermediateAt hN42).mono ?_)
      rintro r w52 ⟨x52, z, rfl, hz⟩
      refine iLe ?_
      rw [hz]
      exact hJ _ x52
    · have h : ¬ w0 = wMid := h
      rw [if_neg h] at hJ
      refine iEqT (iJn ?_)
      refine iCndP (fun h2 => ?_) (fun h2 => ?_)
      · have h2 : w0 = wFix := h2
        rw [if_pos h2] at hJ
        refine iFa (iLdB hB5 rfl ?_)
        exact iRet (ok_impl_isVariableLetter lg w42) fun w55 x55 => fun _ => hJ _ x55
      · have h2 : ¬ w0 = wFix := h2
        rw [if_neg h2] at hJ
        refine iJn ?_
        refine iNot (iCnd (fun h3 => ?_) (fun h3 => ?_))
        · rw [h3, Bool.true_or] at hJ
          exact fun _ => fun _ => hJ _ (Ext.refl _)
        · rw [h3, Bool.false_or] at hJ
          refine iFa (iLdB hB5 rfl ?_)
          exact iRet (ok_impl_isSearchLogic lg w42) fun w58 x58 => fun _ => fun _ => hJ _ x58
  intro _
  simp only [gx]
  have X51 := X42.trans x51
  have hg51 : w51.heap[g]? = w2.heap[g]? := (Go.RowKit.Below.block x51 g hl42).trans hg42
  refine iFa ?_
  refine iStU (hB5.ext x51) (by simp) hcv fun w59 hB5 hu => ?_
  have hB5 : Blk 25 w59 q5 [sv w0, sv lg, v] := hB5
  have hB2 : Blk 25 w59 q2 [sv [], sv [], .slice none 0 0] := (hB2.ext x51).upd hu hq25
  have X59 : Ext w w59 := X51.thenCh (hu.ch (S := fun c => c = q5) rfl) fun c hc => by omega
  have hl51 : g < w51.heap.size := by have := x51.size; omega
  have hg59 : w59.heap[g]? = w2.heap[g]? := (hu.block g hg5).trans hg51
  have hl59 : g < w59.heap.size := by rw [hu.size]; exact hl51
  have hmem : ∀ s ∈ es, s.length ≤ 300 := fun s hs => by
    have : s ∈ w0 :: rest := by
      rcases hrs with ⟨_, e⟩ | ⟨_, e⟩
      · rw [← e]; exact List.mem_cons_of_mem _ hs
      · rw [e]; exact List.mem_cons_of_mem _ (List.mem_cons_of_mem _ hs)
    have := hWm s this
    omega
  -- what the function says
  have hval : ∀ gd : Bool, gd = (if w0 = wMid then decide (lg ∈ iNames) else if w0 = wFix then isV lg else (!nm || decide (lg ∈ lgs))) → (gd && (decide (es.length = n) && es.all exprB)) = qB (w0 :: rest) := fun gd hgd => by
    subst hgd
    rcases hcl with ⟨hE, rfl, rfl⟩ | ⟨hE, rfl, hq⟩
    · rcases hrs with ⟨_, rfl⟩ | ⟨h, _⟩
      · have h1 : ¬ w0 = wMid := fun e => by rw [e] at hE; revert hE; decide
        have h2 : ¬ w0 = wFix := fun e => by rw [e] at hE; revert hE; decide
        rw [if_neg h1, if_neg h2, qB_cons, if_pos hE]; rfl
      · cases h
    · rcases hrs with ⟨h, _⟩ | ⟨_, rfl⟩
      · cases h
      · rw [qB_cons, if_neg hE]
        rcases hq with ⟨rfl, rfl⟩ | ⟨hnq, hin, rfl⟩
        · rw [if_neg (by decide), if_neg (by decide), if_neg (by decide), if_neg (by decide), if_pos rfl]; rfl
        · simp only [nW, List.mem_cons, List.not_mem_nil, or_false] at hin
          rcases hin with rfl | rfl | rfl | rfl | rfl
          · rw [if_pos rfl, if_pos rfl]; rfl
          · rw [if_neg (by decide), if_neg (by decide), if_neg (by decide), if_pos (by decide)]; rfl
          · rw [if_neg (by decide), if_neg (by decide), if_neg (by decide), if_pos (by decide)]; rfl
          · rw [if_neg (by decide), if_neg (by decide), if_neg (by decide), if_pos (by decide)]; rfl
          · rw [if_neg (by decide), if_pos rfl, if_neg (by decide), if_neg (by decide), if_neg hnq, if_pos rfl]; rfl
  refine iJnX (fun xs w' => xs = [.bool (qB (w0 :: rest))] ∧ Ext w w' ∧ Blk 25 w' q2 [sv w0, sv lg, v]) (fun J hJ => ?_) ?_
  · refine ⟨fun c => c = q2, ?_⟩
    refine iLd3 hB5 ⟨fun w63 hc => iLd3 (hB5.ch hc fun e => hq25 e.symm) rfl, ?_⟩
    have fin : ∀ (b : Bool) (w64 : World), Ext w59 w64 → b = qB (w0 :: rest) → xStA Tryd.prog w64 3 (.pointer (some ⟨q2, 0, none⟩)) (.agg #[sv w0, sv lg, v]) fun w65 => Ch (fun c => c = q2) w64 w65 ∧ ∀ w66, Ext w65 w66 → J [.bool b] w66 := fun b w64 x64 hb => by
      refine iSt3 (hB2.ext x64) rfl rfl rfl hcv fun w65 hB65 hc => ⟨hc, fun w66 x66 => hJ _ _ ⟨by rw [hb], ((X59.trans x64).thenCh hc fun c hc => by omega).trans x66, hB65.ext x66⟩⟩
    refine iCnd (fun hgd => ?_) (fun hgd => ?_)
    · have hval := hval _ rfl
      rw [hgd, Bool.true_and] at hval
      refine iLenStr (hsv w59 hg59) ?_
      refine iEq (iCndP (fun hle => ?_) (fun hle => ?_))
      · rw [decide_eq_true (show es.length = n by omega), Bool.true_and] at hval
        refine ⟨.bool (es.any fun s => !exprB s), fun w' hc => ?_, ?_⟩
        · have hg' : w'.heap[g]? = w2.heap[g]? := (hc.block g hl59 hgq2).trans hg59
          refine iRet (ok_slices_ContainsFuncT (p := fun s => !exprB s) (hsv w' hg') fun s hs w'' _ => ⟨_, _, _, rfl, ?_⟩) fun w3 x3 => ⟨rfl, x3⟩
          show Cal Tryd.prog f_impl_queryOf_1 #[sv s] w'' _
          apply c_impl_queryOf_1; unfold S_impl_queryOf_1
          exact iRet (ok_impl_isExpression (by have := hmem s hs; omega) w'') fun w3 x3 => iNot ⟨rfl, x3⟩
        · refine iNot ?_
          intro w64 x64
          refine fin _ w64 x64 ?_
          rw [← hval]
          simp [List.any_eq_not_all_not]
      · rw [decide_eq_false (show ¬ es.length = n by omega), Bool.false_and] at hval
        exact fun w67 x67 => fin _ w67 x67 hval
    · have hval := hval _ rfl
      rw [hgd, Bool.false_and] at hval
      exact fun w70 x70 => fin _ w70 x70 hval
  · rintro xs w61 ⟨rfl, X61, hB⟩
    intro _
    simp only [gx]
    exact iLd3 hB ⟨X61, w0, lg, v, rfl, hcv⟩
theorem ok_impl_IsQuery {t : Str} {w : World} (hN : NmOk w) : Ret Tryd.prog f_impl_IsQuery #[sv t] w (.bool (isQ t)) := by
  apply c_impl_IsQuery; unfold S_impl_IsQuery
  unfold isQ
  refine iLenT (iLt (iCndP (fun h => ?_) (fun h => ?_)))
  · rw [decide_eq_false (show ¬ t.length ≤ 300 by omega), Bool.false_and]
    exact ⟨by first | trivial | rfl, Ext.refl _⟩
  · rw [decide_eq_true (show t.length ≤ 300 by omega), Bool.true_and]
    refine iCall ((ok_impl_queryOf (by omega) hN).mono ?_)
    rintro r w1 ⟨x1, a, b, x, rfl, hx⟩
    refine iE20 (iE21 ?_)
    refine iNew3 fun q w2 hq x2 hB => ?_
    refine iSt3 hB rfl rfl rfl hx fun w3 hB3 hc => ⟨by first | trivial | rfl, (x1.trans x2).thenCh hc fun c hc => by have := x1.size; omega⟩
theorem ok_spec_l36Words (t : Str) (w : World) : Ret Tryd.prog f_spec_l36Words #[sv t] w (sv (formW t)) := by
  apply c_spec_l36Words; unfold S_spec_l36Words
  refine iEqT ?_
  refine iJnB (decide (t ∈ eW)) w (fun J hJ => ?_) (fun w2 x2 => ?_)
  · refine iOrS hJ (fun e => by rw [e]; rfl) fun n1 J hJ => ?_
    refine iOrS hJ (fun e => by rw [e]; rfl) fun n2 J hJ => ?_
    refine iOrS hJ (fun e => by rw [e]; rfl) fun n3 J hJ => ?_
    refine iOrS hJ (fun e => by rw [e]; rfl) fun n4 J hJ => ?_
    refine iOrS hJ (fun e => by rw [e]; rfl) fun n5 J hJ => ?_
    refine iOrS hJ (fun e => by rw [e]; rfl) fun n6 J hJ => ?_
    refine iOrS hJ (fun e => by rw [e]; rfl) fun n7 J hJ => ?_
    refine iOrS hJ (fun e => by rw [e]; rfl) fun n8 J hJ => ?_
    refine iOrS hJ (fun e => by rw [e]; rfl) fun n9 J hJ => ?_
    refine iOrS hJ (fun e => by rw [e]; rfl) fun n10 J hJ => ?_
    refine iOrE hJ (fun e => by rw [e]; rfl) fun n11 => ?_
    refine decide_eq_decide.2 ?_
    simp only [eW, List.mem_cons, List.not_mem_nil, or_false, n1, n2, n3, n4, n5, n6, n7, n8, n9, n10, n11, false_or]
  intro _
  simp only [gx]
  unfold formW
  refine iCndP (fun h => ⟨by rw [if_pos h], x2⟩) (fun h => ?_)
  rw [if_neg h]
  refine iEqT (iCndP (fun h1 => ⟨by rw [if_pos (show t = wMid from h1)], x2⟩) (fun h1 => ?_))
  rw [if_neg (show ¬ t = wMid from h1)]
  refine iEqT ?_
  refine iJnB (decide (t ∈ mW)) w2 (fun J hJ => ?_) (fun w4 x4 => ?_)
  · refine iOrS hJ (fun e => by rw [e]; rfl) fun n1 J hJ => ?_
    refine iOrE hJ (fun e => by rw [e]; rfl) fun n2 => ?_
    refine decide_eq_decide.2 ?_
    simp only [mW, List.mem_cons, List.not_mem_nil, or_false, wMod, wWor, wRnk, n1, n2, false_or]
  intro _
  simp only [gx]
  have X4 := x2.trans x4
  refine iCndP (fun h2 => ⟨by rw [if_pos h2], X4⟩) (fun h2 => ?_)
  rw [if_neg h2]
  refine iEqT (iCndP (fun h3 => ⟨by rw [if_pos (show t = wEq from h3)], X4⟩) (fun h3 => ?_))
  rw [if_neg (show ¬ t = wEq from h3)]
  refine iEqT (iCndP (fun h4 => ⟨by rw [if_pos (show t = wFix from h4)], X4⟩) (fun h4 => ?_))
  rw [if_neg (show ¬ t = wFix from h4)]
  exact ⟨rfl, X4⟩
theorem ok_spec_l12Is (t : Str) (w : World) : Ret Tryd.prog f_spec_l12Is #[sv t] w (.bool (decide (t ∈ lgs))) := by
  apply c_spec_l12Is; unfold S_spec_l12Is
  refine iJnB (decide (t ∈ lgs)) w (fun J hJ => ?_) (fun w2 x2 => fun _ => ⟨by first | trivial | rfl, x2⟩)
  refine iEqT (iCndP (fun h => ?_) (fun h => ?_))
  · have := hJ w (Ext.refl w)
    rwa [show decide (t ∈ lgs) = true by rw [h]; rfl] at this
  · refine iRet (v := .bool (decide (t ∈ lgs))) ?_ fun w3 x3 => hJ _ x3
    apply c_spec_IsSequentLogic; unfold S_spec_IsSequentLogic
    refine iBsS7 fun b w1 hb x1 hB => ?_
    refine iRet (ok_spec_l01Says (L := [[75], [68], [84], [75, 52], [83, 52], [71, 76], [83, 53]]) (Sl.ofBlk (n := 7) hB rfl (by decide))) fun w2 x2 => ⟨?_, x1.trans x2⟩
    congr 1
    refine decide_eq_decide.2 ?_
    simp [lgs, h]
theorem ok_spec_l01In (a b c : Int) (w : World) : Ret Tryd.prog f_spec_l01In #[.int .i64 a, .int .i64 b, .int .i64 c] w (.bool (decide (b ≤ a ∧ a ≤ c))) := by
  apply c_spec_l01In; unfold S_spec_l01In
  refine iJnB (decide (b ≤ a ∧ a ≤ c)) w (fun J hJ => ?_) (fun w2 x2 => fun _ => ⟨by first | trivial | rfl, x2⟩)
  refine iLe (iCndP (fun h => ?_) (fun h => ?_))
  · refine iLe ?_
    rw [show decide (a ≤ c) = decide (b ≤ a ∧ a ≤ c) from decide_eq_decide.2 ⟨fun k => ⟨h, k⟩, fun k => k.2⟩]
    exact hJ _ (Ext.refl _)
  · rw [decide_eq_false (fun k => h k.1)] at hJ
    exact hJ _ (Ext.refl _)
theorem ok_spec_l36Middle (t : Str) (w : World) : Ret Tryd.prog f_spec_l36Middle #[sv t] w (.bool (decide (t ∈ iNames))) := by
  apply c_spec_l36Middle; unfold S_spec_l36Middle
  refine iLp (fun i : Nat => [.int .i64 (i : Int)]) (fun i w' => i ≤ 9 ∧ Ext w w' ∧ ∀ j, j < i → ¬ gt iNames j = t) (fun i => 9 - i) 0 rfl ⟨Nat.zero_le _, Ext.refl _, fun j hj => by omega⟩ ?_
  rintro i w2 Kn ⟨hi, x2, hno⟩ hKn
  intro _
  simp only [gx]
  refine iLt (iCndP (fun h => ?_) (fun h => ?_))
  · have hil : i < 9 := by omega
    refine iCall (Cal.mono (R := fun r w' => Ext w2 w' ∧ r = .tuple #[sv (gt iNames i), .int .i64 0]) ?_ ?_)
    · apply c_spec_IntermediateName; unfold S_spec_IntermediateName
      refine iCall (Cal.mono (R := fun r w' => Ext w2 w' ∧ SlT w' r iNames) ?_ ?_)
      · apply c_spec_l30Names; unfold S_spec_l30Names
        refine iBsS9 fun b w1 hb x1 hB => ⟨x1, Sl.ofBlk (n := 9) hB rfl (by decide)⟩
      · rintro r w3 ⟨x3, h3⟩
        refine iLenStr h3 ?_
        refine iSub (by decide) ?_
        refine iRet (ok_spec_l01In _ _ _ w3) fun w4 x4 => ?_
        refine iNot (iCndF ?_ ?_)
        · rw [decide_eq_true (show (0 : Int) ≤ (i : Int) ∧ (i : Int) ≤ ((iNames.length : Nat) : Int) - 1 from ⟨by omega, by show (i : Int) ≤ 9 - 1; omega⟩)]; rfl
        refine iIaG (h3.ext x4) rfl (show i < iNames.length from hil) ?_
        exact ⟨x3.trans x4, rfl⟩
    · rintro r w3 ⟨x3, rfl⟩
      refine iE20 (iE21 ?_)
      refine iEqT (iCndP (fun h2 => ?_) (fun h2 => ?_))
      · rw [decide_eq_true (show t ∈ iNames by rw [← h2, gt_eq (show i < iNames.length from hil)]; exact List.getElem_mem _)]
        exact ⟨by first | trivial | rfl, x2.trans x3⟩
      · refine iAdd (by omega) ?_
        refine hKn (i + 1) _ ⟨hil, x2.trans x3, fun j hj => ?_⟩ (by omega)
        by_cases e : j = i
        · subst e; exact h2
        · exact hno j (by omega)
  · rw [decide_eq_false (show ¬ t ∈ iNames from fun hm => by
      obtain ⟨j, hj, e⟩ := List.getElem_of_mem hm
      have hj9 : j < 9 := hj
      exact hno j (by omega) (by rw [gt_eq hj]; exact e))]
    exact ⟨by first | trivial | rfl, x2⟩
theorem formW_cases (t : Str) : formW t = [69] ∨ formW t = [77, 69] ∨ formW t = [76, 69] ∨ formW t = [76, 69, 69] ∨ formW t = [86, 69] ∨ formW t = [] := by
  unfold formW
  by_cases h1 : t ∈ eW
  · rw [if_pos h1]; exact .inl rfl
  rw [if_neg h1]
  by_cases h2 : t = wMid
  · rw [if_pos h2]; exact .inr (.inl rfl)
  rw [if_neg h2]
  by_cases h3 : t ∈ mW
  · rw [if_pos h3]; exact .inr (.inr (.inl rfl))
  rw [if_neg h3]
  by_cases h4 : t = wEq
  · rw [if_pos h4]; exact .inr (.inr (.inr (.inl rfl)))
  rw [if_neg h4]
  by_cases h5 : t = wFix
  · rw [if_pos h5]; exact .inr (.inr (.inr (.inr (.inl rfl))))
  rw [if_neg h5]; exact .inr (.inr (.inr (.inr (.inr rfl))))
theorem formW_len (t : Str) : (formW t).length ≤ 3 := by
  rcases formW_cases t with h | h | h | h | h | h <;> rw [h] <;> decide
theorem formW_mem (t : Str) : ∀ i, i < (formW t).length → (formW t).getD i 0 = 69 ∨ (formW t).getD i 0 = 76 ∨ (formW t).getD i 0 = 77 ∨ (formW t).getD i 0 = 86 := by
  intro i hi
  rcases formW_cases t with h | h | h | h | h | h <;> rw [h] at hi ⊢ <;> (rcases i with _ | _ | _ | i <;> first | simp; done | (simp at hi <;> omega))
theorem ok_spec_l36Query {t : Str} (ht : t.length ≤ 300) (w : World) : Ret Tryd.prog f_spec_l36Query #[sv t] w (.bool (qB (splitT 32 t))) := by
  apply c_spec_l36Query; unfold S_spec_l36Query
  refine iCall ((ok_spec_l01Split 32 rfl (by omega) w).mono ?_)
  rintro v w1 ⟨x1, ho⟩
  have hWl := splitT_le 32 t
  have hWm := splitT_mem 32 t
  obtain ⟨w0, rest, hW⟩ := splitT_cons 32 t
  rw [hW] at ho hWl hWm ⊢
  rw [← qF_qB]
  refine iIaG (L := w0 :: rest) ho.sl (j := 0) rfl (by simp) ?_
  show callV _ _ [sv w0] _ _
  refine iRet (ok_spec_l36Words w0 w1) fun w2 x2 => ?_
  have X2 := x1.trans x2
  have ho2 := ho.ext x2
  refine iJnB (!(decide (formW w0 ≠ []) && decide (rest.length = (formW w0).length))) w2 (fun J hJ => ?_) (fun w4 x4 => ?_)
  · refine iEqT (b := []) (iCndP (fun h => ?_) (fun h => ?_))
    · have := hJ w2 (Ext.refl _)
      rwa [show (!(decide (formW w0 ≠ []) && decide (rest.length = (formW w0).length))) = true by simp [h]] at this
    · refine iLenStr ho2.sl ?_
      have hfl : (formW w0).length ≤ 3 := formW_len w0
      refine iLenT (iAdd (by omega) (iNe ?_))
      rw [show decide (¬ ((w0 :: rest).length : Int) = ((formW w0).length : Int) + 1) = (!(decide (formW w0 ≠ []) && decide (rest.length = (formW w0).length))) by
        rw [decide_eq_true (show formW w0 ≠ [] from h), Bool.true_and, ← decide_not]
        refine decide_eq_decide.2 ?_
        rw [List.length_cons]; omega]
      exact hJ _ (Ext.refl _)
  intro _
  simp only [gx]
  have X4 := X2.trans x4
  have ho4 := ho2.ext x4
  unfold qF
  refine iCnd (fun h => ?_) (fun h => ?_)
  · rw [Bool.not_eq_true', Bool.and_eq_false_iff] at h
    refine ⟨?_, X4⟩
    rcases h with h | h <;> rw [h] <;> simp
  · rw [Bool.not_eq_false', Bool.and_eq_true, decide_eq_true_eq, decide_eq_true_eq] at h
    rw [decide_eq_true h.1, decide_eq_true h.2, Bool.true_and, Bool.true_and]
    refine iLp (fun i : Nat => [.int .i64 (i : Int)]) (fun i w' => i ≤ (formW w0).length ∧ Ext w w' ∧ Ext w4 w' ∧ ∀ j, j < i → chkW ((formW w0).getD j 0) (gt rest j) = true) (fun i => (formW w0).length - i) 0 rfl ⟨Nat.zero_le _, X4, Ext.refl _, fun j hj => by omega⟩ ?_
    rintro i w6 Kn ⟨hi, X6, x6, hok⟩ hKn
    intro _
    simp only [gx]
    refine iLenT (iLt (iCndP (fun hlt => ?_) (fun hlt => ?_)))
    · have hil : i < (formW w0).length := by omega
      have hfl := formW_len w0
      refine iAdd (by omega) ?_
      have e1 : (i : Int) + 1 = ((i + 1 : Nat) : Int) := by omega
      refine iIaG (L := w0 :: rest) (ho4.ext x6).sl (j := i + 1) e1 (by rw [List.length_cons]; omega) ?_
      have hgt : gt (w0 :: rest) (i + 1) = gt rest i := rfl
      rw [hgt]
      have hrl : (gt rest i).length ≤ 300 := by
        have : gt rest i ∈ w0 :: rest := by rw [gt_eq (show i < rest.length by omega)]; exact List.mem_cons_of_mem _ (List.getElem_mem _)
        have := hWm _ this
        omega
      refine iIs hil ?_
      have hfm := formW_mem w0 i hil
      have hnum : ∀ d : UInt8, decide ((((formW w0).getD i 0).toNat : Int) = ((d.toNat : Nat) : Int)) = decide ((formW w0).getD i 0 = d) := fun d => decide_eq_decide.2 ⟨fun h => UInt8.toNat_inj.1 (by exact_mod_cast h), fun h => by rw [h]⟩
      refine iEq ?_
      refine iJnB (chkW ((formW w0).getD i 0) (gt rest i)) w6 (fun J hJ => ?_) (fun w8 x8 => ?_)
      · have d69 := hnum 69
        have d76 := hnum 76
        have d77 := hnum 77
        unfold chkW at hJ
        refine cast (by rw [← show decide ((((formW w0).getD i 0).toNat : Int) = 69) = decide ((formW w0).getD i 0 = 69) from d69]) (?_ : cnd (.bool (decide ((formW w0).getD i 0 = 69))) _ _)
        refine iCndP (fun h1 => ?_) (fun h1 => ?_)
        · rw [if_pos h1] at hJ
          exact iRet (ok_spec_l36Form (by omega) w6) fun w9 x9 => hJ _ x9
        rw [if_neg h1] at hJ
        refine iEq (iJn ?_)
        refine cast (by rw [← show decide ((((formW w0).getD i 0).toNat : Int) = 76) = decide ((formW w0).getD i 0 = 76) from d76]) (?_ : cnd (.bool (decide ((formW w0).getD i 0 = 76))) _ _)
        refine iCndP (fun h2 => ?_) (fun h2 => ?_)
        · rw [if_pos h2] at hJ
          exact iRet (ok_spec_l12Is (gt rest i) w6) fun w9 x9 => fun _ => hJ _ x9
        rw [if_neg h2] at hJ
        refine iEq (iJn ?_)
        refine cast (by rw [← show decide ((((formW w0).getD i 0).toNat : Int) = 77) = decide ((formW w0).getD i 0 = 77) from d77]) (?_ : cnd (.bool (decide ((formW w0).getD i 0 = 77))) _ _)
        refine iCndP (fun h3 => ?_) (fun h3 => ?_)
        · rw [if_pos h3] at hJ
          exact iRet (ok_spec_l36Middle (gt rest i) w6) fun w9 x9 => fun _ => fun _ => hJ _ x9
        rw [if_neg h3] at hJ
        refine iJn ?_
        unfold isV at hJ
        refine iLenT (iEq (iCndP (fun h4 => ?_) (fun h4 => ?_)))
        · have h4 : (gt rest i).length = 1 := by omega
          rw [decide_eq_true h4, Bool.true_and] at hJ
          refine iIs (j := 0) (by omega) ?_
          refine iLe (iCndP (fun h5 => ?_) (fun h5 => ?_))
          · rw [decide_eq_true (show 112 ≤ ((gt rest i).getD 0 0).toNat by omega), Bool.true_and] at hJ
            refine iIs (j := 0) (by omega) ?_
            refine iLe ?_
            rw [show decide ((((gt rest i).getD 0 0).toNat : Int) ≤ 117) = decide (((gt rest i).getD 0 0).toNat ≤ 117) from decide_eq_decide.2 (by omega)]
            exact fun _ => fun _ => fun _ => hJ _ (Ext.refl _)
          · rw [decide_eq_false (show ¬ 112 ≤ ((gt rest i).getD 0 0).toNat by omega), Bool.false_and] at hJ
            exact fun _ => fun _ => fun _ => hJ _ (Ext.refl _)
        · rw [decide_eq_false (show ¬ (gt rest i).length = 1 by omega), Bool.false_and] at hJ
          exact fun _ => fun _ => fun _ => hJ _ (Ext.refl _)
      intro _
      simp only [gx]
      refine iNot (iCnd (fun hb => ?_) (fun hb => ?_))
      · refine ⟨?_, X6.trans x8⟩
        rw [Bool.not_eq_true'] at hb
        congr 1
        refine (Bool.eq_false_iff.2 fun hall => ?_).symm
        have := List.all_eq_true.1 hall i (List.mem_range.2 hil)
        rw [hb] at this
        cases this
      · rw [Bool.not_eq_false'] at hb
        refine iAdd (by omega) ?_
        refine hKn (i + 1) _ ⟨hil, X6.trans x8, x6.trans x8, fun j hj => ?_⟩ (by omega)
        by_cases e : j = i
        · subst e; exact hb
        · exact hok j (by omega)
    · refine ⟨?_, X6⟩
      congr 1
      exact (List.all_eq_true.2 fun j hj => hok j (by have := List.mem_range.1 hj; omega)).symm
theorem ok_spec_IsQuery (t : Str) (w : World) : Ret Tryd.prog f_spec_IsQuery #[sv t] w (.bool (isQ t)) := by
  apply c_spec_IsQuery; unfold S_spec_IsQuery
  refine iJnB (isQ t) w (fun J hJ => ?_) (fun w2 x2 => fun _ => ⟨by first | trivial | rfl, x2⟩)
  unfold isQ at hJ
  refine iLenT (iLe (iCndP (fun h => ?_) (fun h => ?_)))
  · rw [decide_eq_true (show t.length ≤ 300 by omega), Bool.true_and] at hJ
    exact iRet (ok_spec_l36Query (by omega) w) fun w3 x3 => hJ _ x3
  · rw [decide_eq_false (show ¬ t.length ≤ 300 by omega), Bool.false_and] at hJ
    exact hJ _ (Ext.refl _)
end Go.Proofs.YtnbelddmhlknkaaDoor

/- Contracts: lines of the console (IsConsoleLine in the program and the reference). Conditions: none. -/
namespace Go.Proofs.YtnbelddmhlknkaaDoor
open Go.Vc
def dig (c : UInt8) : Bool := decide (48 ≤ c.toNat) && decide (c.toNat ≤ 57)
def cutOk (t : Str) : Bool := decide (1 ≤ t.length) && (decide (t.length ≤ 4) && (!(decide (t.getD 0 0 = 48) && decide (1 < t.length)) && t.all dig))
def cLet : Str := [108, 101, 116]
def cCrash : Str := [99, 114, 97, 115, 104]
def nmW : List Str := [[100, 114, 111, 112], [99, 108, 97, 105, 109], [119, 104, 101, 110]]
def alW : List Str := [[110, 97, 109, 101, 115], [108, 105, 110, 101, 115], [108, 105, 115, 116], [111, 112, 101, 110], [99, 111, 109, 112, 97, 99, 116], [117, 110, 100, 111]]
/-- A line of the console's own words. -/
def ownB : List Str → Bool
  | [] => false
  | w0 :: rest =>
    if w0 = cLet then decide (rest.length = 2) && (nameOk (gt rest 0) && decide (exprC (gt rest 1) = 0))
    else if w0 ∈ nmW then decide (rest.length = 1) && nameOk (gt rest 0)
    else if w0 ∈ alW then decide (rest.length = 0)
    else if w0 = cCrash then decide (rest.length = 1) && cutOk (gt rest 0)
    else false
theorem ownB_cons (w0 : Str) (rest : List Str) : ownB (w0 :: rest) = if w0 = cLet then decide (rest.length = 2) && (nameOk (gt rest 0) && decide (exprC (gt rest 1) = 0))
    else if w0 ∈ nmW then decide (rest.length = 1) && nameOk (gt rest 0)
    else if w0 ∈ alW then decide (rest.length = 0)
    else if w0 = cCrash then decide (rest.length = 1) && cutOk (gt rest 0)
    else false := rfl
def isCL (t : Str) : Bool := ownB (splitT 32 t) || isQ t
def isOwn (w0 : Str) : Bool := decide (w0 = cLet) || (decide (w0 ∈ nmW) || (decide (w0 ∈ alW) || decide (w0 = cCrash)))
theorem own_qB {w0 : Str} (rest : List Str) (h : isOwn w0 = true) : qB (w0 :: rest) = false := by
  have key : ∀ x ∈ cLet :: cCrash :: (nmW ++ alW), x ∉ eW ∧ x ≠ wMid ∧ x ∉ mW ∧ x ≠ wEq ∧ x ≠ wFix := by decide
  have hm : w0 ∈ cLet :: cCrash :: (nmW ++ alW) := by
    simp only [isOwn, Bool.or_eq_true, decide_eq_true_eq] at h
    rcases h with h | h | h | h
    · rw [h]; simp
    · exact List.mem_cons_of_mem _ (List.mem_cons_of_mem _ (List.mem_append_left _ h))
    · exact List.mem_cons_of_mem _ (List.mem_cons_of_mem _ (List.mem_append_right _ h))
    · rw [h]; simp
  obtain ⟨h1, h2, h3, h4, h5⟩ := key _ hm
  rw [qB_cons, if_neg h1, if_neg h2, if_neg h3, if_neg h4, if_neg h5]
/-- The form of an own line by its first word. -/
def formC (w0 : Str) : Str := if w0 = cLet then [78, 69] else if w0 ∈ nmW then [78] else if w0 ∈ alW then [] else if w0 = cCrash then [75] else []
def chkC (c : UInt8) (t : Str) : Bool := if c = 78 then nameOk t else if c = 69 then decide (exprC t = 0) else cutOk t
def oF (w0 : Str) (rest : List Str) : Bool := isOwn w0 && (decide (rest.length = (formC w0).length) && (List.range (formC w0).length).all fun i => chkC ((formC w0).getD i 0) (gt rest i))
theorem oF_ownB (w0 : Str) (rest : List Str) : oF w0 rest = ownB (w0 :: rest) := by
  have r0 : List.range 0 = [] := rfl
  have r1 : List.range 1 = [0] := rfl
  have r2 : List.range 2 = [0, 1] := rfl
  rw [ownB_cons]
  unfold oF formC isOwn
  by_cases h1 : w0 = cLet
  · subst h1; simp [r2, chkC]
  rw [if_neg h1, if_neg h1, decide_eq_false h1, Bool.false_or]
  by_cases h2 : w0 ∈ nmW
  · rw [if_pos h2, if_pos h2, decide_eq_true h2]; simp [r1, chkC]
  rw [if_neg h2, if_neg h2, decide_eq_false h2, Bool.false_or]
  by_cases h3 : w0 ∈ alW
  · rw [if_pos h3, if_pos h3, decide_eq_true h3]; simp [r0]
  rw [if_neg h3, if_neg h3, decide_eq_false h3, Bool.false_or]
  by_cases h4 : w0 = cCrash
  · rw [if_pos h4, if_pos h4, decide_eq_true h4]; simp [r1, chkC]
  rw [if_neg h4, if_neg h4, decide_eq_false h4]; simp
/-- ContainsFunc for a property of bytes that no byte above 127 has. -/
theorem ok_ContainsFuncP {p : UInt8 → Bool} (hp : ∀ b : UInt8, 128 ≤ b.toNat → p b = false) {fv : Value} (q : Nat → Bool) (hq : ∀ b : UInt8, b.toNat < 128 → q b.toNat = !p b) (hq2 : ∀ c, 128 ≤ c → q c = true)
    (hf : ∀ (c : Nat) (w : World), c ≤ 2147483647 → callV Tryd.prog fv [.int .i32 (c : Int)] w fun v w' => v = .bool (q c) ∧ Ext w w') {l : Str} (w : World) :
    Ret Tryd.prog f_strings_ContainsFunc #[sv l, fv] w (.bool !(l.all p)) := by
  apply c_strings_ContainsFunc; unfold S_strings_ContainsFunc
  refine iCall (Cal.mono (R := fun r w' => Ext w w' ∧ ∃ z : Int, r = .int .i64 z ∧ decide (0 ≤ z) = !(l.all p)) ?_ ?_)
  · apply c_strings_IndexFunc; unfold S_strings_IndexFunc
    refine iCall (Cal.mono (R := fun r w' => Ext w w' ∧ ∃ z : Int, r = .int .i64 z ∧ decide (0 ≤ z) = !(l.all p)) ?_ fun r w' h => h)
    apply c_strings_indexFunc; unfold S_strings_indexFunc
    refine iRange (by kernel_rfl) fun b w1 hb h1 hI => ?_
    refine iLp (fun _ : Nat => []) (fun i w' => i ≤ l.length ∧ Ext w w' ∧ It w' b l i ∧ ∀ k, k < i → p (l.getD k 0) = true) (fun i => l.length - i) 0 rfl ⟨Nat.zero_le _, h1, hI, fun k hk => by omega⟩ ?_
    rintro i w3 Kn ⟨hi, h3, hI3, hs⟩ hKn
    intro _
    by_cases hlt : i < l.length
    · have hit : p (l.getD i 0) = false → decide (0 ≤ (i : Int)) = !(l.all p) := fun e => by
        have : l.all p = false := by
          rw [Bool.eq_false_iff]
          intro ha
          have := List.all_eq_true.1 ha (l.getD i 0) (by rw [getD_lt' hlt]; exact List.getElem_mem _)
          rw [e] at this; cases this
        rw [this]; simp
      refine iNextR hI3 hlt fun c d w4 hd hlow hhigh hc2 hu hI4 => ?_
      have h4 : Ext w w4 := h3.upd hu (by omega)
      refine iEx (by rfl) ?_
      refine iCndT rfl ?_
      refine iEx (by rfl) ?_
      refine iEx (by rfl) ?_
      refine (hf c w4 hc2).mono ?_
      rintro _ w5 ⟨rfl, h5⟩
      refine ⟨_, _, rfl, rfl, ?_⟩
      rcases Nat.lt_or_ge (l.getD i 0).toNat 128 with hb1 | hb1
      · obtain ⟨rfl, rfl⟩ := hlow hb1
        rw [hq _ hb1]
        cases hsm : p (l.getD i 0)
        · exact iCndT rfl ⟨h4.trans h5, _, rfl, hit hsm⟩
        · refine iCndF rfl ?_
          refine hKn (i + 1) _ ⟨by omega, h4.trans h5, hI4.ext h5, fun k hk => ?_⟩ (by omega)
          by_cases hki : k = i
          · rw [hki]; exact hsm
          · exact hs k (by omega)
      · have hcge := hhigh hb1
        rw [hq2 c hcge]
        exact iCndT rfl ⟨h4.trans h5, _, rfl, hit (hp _ hb1)⟩
    · have e : i = l.length := by omega
      subst e
      refine iNextE hI3 (Nat.le_refl _) ?_
      refine iEx (by rfl) ?_
      refine iCndF rfl ?_
      refine ⟨h3, -1, rfl, ?_⟩
      have : l.all p = true := by
        rw [List.all_eq_true]
        intro x hx
        obtain ⟨k, hk, rfl⟩ := List.getElem_of_mem hx
        have := hs k hk
        rwa [getD_lt' hk] at this
      rw [this]; rfl
  · rintro r w1 ⟨x1, z, rfl, hz⟩
    refine iLe ?_
    rw [hz]
    exact ⟨by first | trivial | rfl, x1⟩
theorem ok_impl_isCut (t : Str) (w : World) : Ret Tryd.prog f_impl_isCut #[sv t] w (.bool (cutOk t)) := by
  apply c_impl_isCut; unfold S_impl_isCut
  refine iJnB (!(decide (1 ≤ t.length) && (decide (t.length ≤ 4) && !(decide (t.getD 0 0 = 48) && decide (1 < t.length))))) w (fun J hJ => ?_) (fun w2 x2 => ?_)
  · refine iLenT (iLt (iCndP (fun h => ?_) (fun h => ?_)))
    · rw [decide_eq_false (show ¬ 1 ≤ t.length by omega), Bool.false_and] at hJ; exact hJ _ (Ext.refl _)
    rw [decide_eq_true (show 1 ≤ t.length by omega), Bool.true_and] at hJ
    refine iLenT (iLt (iCndP (fun h2 => ?_) (fun h2 => ?_)))
    · rw [decide_eq_false (show ¬ t.length ≤ 4 by omega), Bool.false_and] at hJ; exact hJ _ (Ext.refl _)
    rw [decide_eq_true (show t.length ≤ 4 by omega), Bool.true_and, Bool.not_not] at hJ
    refine iIs (j := 0) (by omega) ?_
    refine iEq (iCndP (fun h3 => ?_) (fun h3 => ?_))
    · rw [decide_eq_true (show t.getD 0 0 = 48 from UInt8.toNat_inj.1 (by exact_mod_cast h3)), Bool.true_and] at hJ
      refine iLenT (iLt ?_)
      rw [show decide ((1 : Int) < (t.length : Int)) = decide (1 < t.length) from decide_eq_decide.2 (by omega)]
      exact hJ _ (Ext.refl _)
    · rw [decide_eq_false (show ¬ t.getD 0 0 = 48 from fun e => h3 (by rw [e]; rfl)), Bool.false_and] at hJ
      exact hJ _ (Ext.refl _)
  · intro _
    simp only [gx]
    unfold cutOk
    refine iCnd (fun h => ?_) (fun h => ?_)
    · refine ⟨?_, x2⟩
      congr 1
      (revert h; generalize decide (1 ≤ t.length) = a; generalize decide (t.length ≤ 4) = b; generalize (decide (t.getD 0 0 = 48) && decide (1 < t.length)) = c; generalize t.all dig = d; revert a b c d; decide)
    · refine iRet (ok_ContainsFuncP (p := dig) (fun b hb => by unfold dig; rw [decide_eq_false (show ¬ b.toNat ≤ 57 by omega), Bool.and_false]) (fun c => decide (c < 48) || decide (57 < c)) (fun b hb => ?_) (fun c hc => ?_) (fun c w' _ => ?_) w2) fun w3 x3 => ?_
      · unfold dig
        rw [Bool.not_and, ← decide_not, ← decide_not]
        congr 1 <;> exact decide_eq_decide.2 (by omega)
      · rw [decide_eq_true (show 57 < c by omega), Bool.or_true]
      · refine iCall ?_
        show Cal Tryd.prog f_impl_isCut_1 #[.int .i32 (c : Int)] w' _
        apply c_impl_isCut_1; unfold S_impl_isCut_1
        refine iJnB (decide (c < 48) || decide (57 < c)) w' (fun J hJ => ?_) (fun w4 x4 => fun _ => ⟨rfl, x4⟩)
        refine iLt (iCndP (fun h5 => ?_) (fun h5 => ?_))
        · rw [decide_eq_true (show c < 48 by omega), Bool.true_or] at hJ; exact hJ _ (Ext.refl _)
        · rw [decide_eq_false (show ¬ c < 48 by omega), Bool.false_or] at hJ
          refine iLt ?_
          rw [show decide ((57 : Int) < (c : Int)) = decide (57 < c) from decide_eq_decide.2 (by omega)]
          exact hJ _ (Ext.refl _)
      · refine iNot ⟨?_, x2.trans x3⟩
        rw [Bool.not_not]
        congr 1
        (revert h; generalize decide (1 ≤ t.length) = a; generalize decide (t.length ≤ 4) = b; generalize (decide (t.getD 0 0 = 48) && decide (1 < t.length)) = c; generalize t.all dig = d; revert a b c d; decide)
theorem ok_spec_l37Number (t : Str) (w : World) : Cal Tryd.prog f_spec_l37Number #[sv t] w fun r w' => Ext w w' ∧ ∃ z : Int, r = .int .i64 z ∧ decide (0 ≤ z) = cutOk t := by
  apply c_spec_l37Number; unfold S_spec_l37Number
  unfold cutOk
  refine iLenT (iLt (iCndP (fun h => ?_) (fun h => ?_)))
  · rw [decide_eq_false (show ¬ t.length ≤ 4 by omega), Bool.false_and, Bool.and_false]
    exact ⟨Ext.refl _, -1, rfl, rfl⟩
  rw [decide_eq_true (show t.length ≤ 4 by omega), Bool.true_and]
  refine iCall (Cal.mono (R := fun r w' => Ext w w' ∧ ∃ z : Int, r = .int .i64 z ∧ decide (0 ≤ z) = (decide (1 ≤ t.length) && (!(decide (t.getD 0 0 = 48) && decide (1 < t.length)) && t.all dig))) ?_ fun r w' h => h)
  apply c_spec_l01Value; unfold S_spec_l01Value
  refine iJnB (!(decide (1 ≤ t.length) && !(decide (t.getD 0 0 = 48) && decide (1 < t.length)))) w (fun J hJ => ?_) (fun w2 x2 => ?_)
  · refine iLenT (iEq (iCndP (fun h1 => ?_) (fun h1 => ?_)))
    · rw [decide_eq_false (show ¬ 1 ≤ t.length by omega), Bool.false_and] at hJ; exact hJ _ (Ext.refl _)
    rw [decide_eq_true (show 1 ≤ t.length by omega), Bool.true_and, Bool.not_not] at hJ
    refine iLenT (iLt (iCndF (decide_eq_false (by omega)) ?_))
    refine iLenT (iLt (iCndP (fun h2 => ?_) (fun h2 => ?_)))
    · rw [decide_eq_true (show 1 < t.length by omega), Bool.and_true] at hJ
      refine iIs (j := 0) (by omega) ?_
      refine iEq ?_
      rw [show decide (((t.getD 0 0).toNat : Int) = 48) = decide (t.getD 0 0 = 48) from decide_eq_decide.2 ⟨fun e => UInt8.toNat_inj.1 (by exact_mod_cast e), fun e => by rw [e]; rfl⟩]
      exact hJ _ (Ext.refl _)
    · rw [decide_eq_false (show ¬ 1 < t.length by omega), Bool.and_false] at hJ
      exact hJ _ (Ext.refl _)
  intro _
  simp only [gx]
  refine iCnd (fun hb => ?_) (fun hb => ?_)
  · refine ⟨x2, -1, rfl, ?_⟩
    (revert hb; generalize decide (1 ≤ t.length) = a; generalize (decide (t.getD 0 0 = 48) && decide (1 < t.length)) = c; generalize t.all dig = d; revert a c d; decide)
  have hb2 : (decide (1 ≤ t.length) && (!(decide (t.getD 0 0 = 48) && decide (1 < t.length)) && t.all dig)) = t.all dig := by
    (revert hb; generalize decide (1 ≤ t.length) = a; generalize (decide (t.getD 0 0 = 48) && decide (1 < t.length)) = c; generalize t.all dig = d; revert a c d; decide)
  rw [hb2]
  refine iLp (fun s : Nat × Nat => [.int .i64 (s.1 : Int), .int .i64 (s.2 : Int)]) (fun s w' => s.2 ≤ t.length ∧ s.1 < 10 ^ s.2 ∧ Ext w w' ∧ ∀ j, j < s.2 → dig (t.getD j 0) = true) (fun s => t.length - s.2) (0, 0) rfl ⟨Nat.zero_le _, by decide, x2, fun j hj => absurd hj (Nat.not_lt_zero j)⟩ ?_
  rintro ⟨n, i⟩ w4 Kn ⟨hi, hn, x4, hs⟩ hKn
  have hi : i ≤ t.length := hi
  have hn : n < 10 ^ i := hn
  have hs : ∀ j, j < i → dig (t.getD j 0) = true := hs
  intro _
  simp only [gx]
  refine iLenT (iLt (iCndP (fun hlt => ?_) (fun hlt => ?_)))
  · have hil : i < t.length := by omega
    have hpow : 10 ^ (i + 1) ≤ 10 ^ 4 := Nat.pow_le_pow_right (by omega) (by omega)
    rw [Nat.pow_succ] at hpow
    refine iJnB (!dig (t.getD i 0)) w4 (fun J hJ => ?_) (fun w6 x6 => ?_)
    · unfold dig at hJ
      refine iIs hil ?_
      refine iLt (iCndP (fun h5 => ?_) (fun h5 => ?_))
      · rw [decide_eq_false (show ¬ 48 ≤ (t.getD i 0).toNat by omega), Bool.false_and] at hJ; exact hJ _ (Ext.refl _)
      · rw [decide_eq_true (show 48 ≤ (t.getD i 0).toNat by omega), Bool.true_and] at hJ
        refine iIs hil ?_
        refine iLt ?_
        rw [show decide ((57 : Int) < ((t.getD i 0).toNat : Int)) = !decide ((t.getD i 0).toNat ≤ 57) by rw [← decide_not]; exact decide_eq_decide.2 (by omega)]
        exact hJ _ (Ext.refl _)
    · intro _
      simp only [gx]
      refine iCnd (fun hd => ?_) (fun hd => ?_)
      · refine ⟨x4.trans x6, -1, rfl, ?_⟩
        rw [Bool.not_eq_true'] at hd
        have : t.all dig = false := by
          rw [Bool.eq_false_iff]
          intro ha
          have := List.all_eq_true.1 ha (t.getD i 0) (by rw [getD_lt' hil]; exact List.getElem_mem _)
          rw [hd] at this; cases this
        rw [this]; rfl
      · rw [Bool.not_eq_false'] at hd
        have hd' := hd
        unfold dig at hd'
        rw [Bool.and_eq_true, decide_eq_true_eq, decide_eq_true_eq] at hd'
        refine iMul (by omega) ?_
        refine iIs hil ?_
        refine ⟨_, _, rfl, rfl, ?_⟩
        rw [show IntKind.u8.wrap (((t.getD i 0).toNat : Int) - 48) = (((t.getD i 0).toNat - 48 : Nat) : Int) by
          generalize (t.getD i 0).toNat = q at hd' ⊢
          rw [show ((q : Int) - 48) = ((q - 48 : Nat) : Int) by omega]
          simp [IntKind.wrap, IntKind.bits, IntKind.signed]
          omega]
        refine iConv64 (by omega) ?_
        refine iAdd (by omega) ?_
        refine iAdd (by omega) ?_
        rw [show (n : Int) * 10 + (((t.getD i 0).toNat - 48 : Nat) : Int) = ((n * 10 + ((t.getD i 0).toNat - 48) : Nat) : Int) by omega]
        refine hKn (n * 10 + ((t.getD i 0).toNat - 48), i + 1) _ ⟨hil, by show n * 10 + _ < 10 ^ (i + 1); rw [Nat.pow_succ]; omega, x4.trans x6, fun j hj => ?_⟩ (by show t.length - (i + 1) < t.length - i; omega)
        have hj : j < i + 1 := hj
        by_cases e : j = i
        · subst e; exact hd
        · exact hs j (by omega)
  · refine ⟨x4, _, rfl, ?_⟩
    have : t.all dig = true := by
      rw [List.all_eq_true]
      intro x hx
      obtain ⟨k, hk, rfl⟩ := List.getElem_of_mem hx
      have := hs k (by omega)
      rwa [getD_lt' hk] at this
    rw [this]; simp
theorem ok_impl_IsConsoleLine {t : Str} {w : World} (hN : NmOk w) (ht : t.length ≤ 1048576) : Ret Tryd.prog f_impl_IsConsoleLine #[sv t] w (.bool (isCL t)) := by
  apply c_impl_IsConsoleLine; unfold S_impl_IsConsoleLine
  refine iRet (v := .bool (isCL t)) ?_ fun w1 x1 => ⟨by first | trivial | rfl, x1⟩
  apply c_impl_isConsoleLine; unfold S_impl_isConsoleLine
  refine iCall ((ok_strings_Split1 32 (by omega) w).mono ?_)
  rintro v w1 ⟨x1, ho⟩
  have hWm := splitT_mem 32 t
  have hCL : isCL t = (ownB (splitT 32 t) || isQ t) := rfl
  have hQ : isQ t = (decide (t.length ≤ 300) && qB (splitT 32 t)) := rfl
  obtain ⟨w0, rest, hW⟩ := splitT_cons 32 t
  rw [hW] at ho hWm hCL hQ
  have hwl : ∀ s ∈ w0 :: rest, s.length ≤ 1048576 := fun s hs => by have := hWm s hs; omega
  have rd : ∀ {i : Nat}, i < rest.length → (gt rest i).length ≤ 1048576 := fun {i} hi => by
    refine hwl _ ?_
    rw [gt_eq hi]; exact List.mem_cons_of_mem _ (List.getElem_mem _)
  refine iIaG (L := w0 :: rest) ho.sl (j := 0) rfl (by simp) ?_
  show xStr .eql (sv w0) _ _
  have own : isOwn w0 = true → isCL t = ownB (w0 :: rest) := fun h => by rw [hCL, hQ, own_qB rest h, Bool.and_false, Bool.or_false]
  refine iEqT (iCndP (fun h1 => ?_) (fun h1 => ?_))
  · have h1 : w0 = cLet := h1
    rw [own (by unfold isOwn; rw [decide_eq_true h1]; rfl)]
    have hv : ownB (w0 :: rest) = (decide (rest.length = 2) && (nameOk (gt rest 0) && decide (exprC (gt rest 1) = 0))) := by rw [ownB_cons, if_pos h1]
    rw [hv]
    refine iJnB (decide (rest.length = 2) && (nameOk (gt rest 0) && decide (exprC (gt rest 1) = 0))) w1 (fun J hJ => ?_) (fun w2 x2 => fun _ => ⟨by first | trivial | rfl, x1.trans x2⟩)
    refine iLenStr ho.sl (iEq (iCndP (fun h2 => ?_) (fun h2 => ?_)))
    · have h2 : rest.length = 2 := by rw [List.length_cons] at h2; omega
      rw [decide_eq_true h2, Bool.true_and] at hJ
      refine iIaG (L := w0 :: rest) ho.sl (j := 1) rfl (by rw [List.length_cons]; omega) ?_
      show callV _ _ [sv (gt rest 0)] _ _
      refine iRet (ok_impl_isName (by have := rd (i := 0) (by omega); omega) w1) fun w4 x4 => ?_
      refine iCnd (fun h3 => ?_) (fun h3 => ?_)
      · rw [h3, Bool.true_and] at hJ
        refine iIaG (L := w0 :: rest) (ho.ext x4).sl (j := 2) rfl (by rw [List.length_cons]; omega) ?_
        show callV _ _ [sv (gt rest 1)] _ _
        refine iRet (ok_impl_expressionCode _ w4) fun w5 x5 => iEq (hJ _ (x4.trans x5))
      · rw [h3, Bool.false_and] at hJ
        exact hJ _ x4
    · rw [decide_eq_false (show ¬ rest.length = 2 by rw [List.length_cons] at h2; omega), Bool.false_and] at hJ
      exact hJ _ (Ext.refl _)
  have h1 : ¬ w0 = cLet := h1
  refine iEqT ?_
  refine iJnB (decide (w0 ∈ nmW)) w1 (fun J hJ => ?_) (fun w7 x7 => ?_)
  · refine iOrS (a := w0) hJ (fun e => by rw [e]; rfl) fun n1 J hJ => ?_
    refine iOrE (a := w0) hJ (fun e => by rw [e]; rfl) fun n2 => ?_
    refine decide_eq_decide.2 ?_
    simp only [nmW, List.mem_cons, List.not_mem_nil, or_false, n1, n2, false_or]
  intro _
  simp only [gx]
  have X7 := x1.trans x7
  have ho7 := ho.ext x7
  refine iCndP (fun h2 => ?_) (fun h2 => ?_)
  · rw [own (by unfold isOwn; rw [decide_eq_true h2]; simp)]
    have hv : ownB (w0 :: rest) = (decide (rest.length = 1) && nameOk (gt rest 0)) := by rw [ownB_cons, if_neg h1, if_pos h2]
    rw [hv]
    refine iJnB (decide (rest.length = 1) && nameOk (gt rest 0)) w7 (fun J hJ => ?_) (fun w2 x2 => fun _ => ⟨by first | trivial | rfl, X7.trans x2⟩)
    refine iLenStr ho7.sl (iEq (iCndP (fun h3 => ?_) (fun h3 => ?_)))
    · have h3 : rest.length = 1 := by rw [List.length_cons] at h3; omega
      rw [decide_eq_true h3, Bool.true_and] at hJ
      refine iIaG (L := w0 :: rest) ho7.sl (j := 1) rfl (by rw [List.length_cons]; omega) ?_
      show callV _ _ [sv (gt rest 0)] _ _
      exact iRet (ok_impl_isName (by have := rd (i := 0) (by omega); omega) w7) fun w4 x4 => hJ _ x4
    · rw [decide_eq_false (show ¬ rest.length = 1 by rw [List.length_cons] at h3; omega), Bool.false_and] at hJ
      exact hJ _ (Ext.refl _)
  refine iEqT (iCndP (fun h4 => ?_) (fun h4 => ?_))
  · have h4 : w0 = cCrash := h4
    rw [own (by unfold isOwn; rw [decide_eq_true h4]; simp)]
    have h5 : w0 ∉ alW := fun h => by rw [h4] at h; revert h; decide
    have hv : ownB (w0 :: rest) = (decide (rest.length = 1) && cutOk (gt rest 0)) := by rw [ownB_cons, if_neg h1, if_neg h2, if_neg h5, if_pos h4]
    rw [hv]
    refine iJnB (decide (rest.length = 1) && cutOk (gt rest 0)) w7 (fun J hJ => ?_) (fun w2 x2 => fun _ => ⟨by first | trivial | rfl, X7.trans x2⟩)
    refine iLenStr ho7.sl (iEq (iCndP (fun h3 => ?_) (fun h3 => ?_)))
    · have h3 : rest.length = 1 := by rw [List.length_cons] at h3; omega
      rw [decide_eq_true h3, Bool.true_and] at hJ
      refine iIaG (L := w0 :: rest) ho7.sl (j := 1) rfl (by rw [List.length_cons]; omega) ?_
      show callV _ _ [sv (gt rest 0)] _ _
      exact iRet (ok_impl_isCut _ w7) fun w4 x4 => hJ _ x4
    · rw [decide_eq_false (show ¬ rest.length = 1 by rw [List.length_cons] at h3; omega), Bool.false_and] at hJ
      exact hJ _ (Ext.refl _)
  have h4 : ¬ w0 = cCrash := h4
  refine iEqT ?_
  refine iJnB (decide (w0 ∈ alW)) w7 (fun J hJ => ?_) (fun w17 x17 => ?_)
  · refine iOrS (a := w0) hJ (fun e => by rw [e]; rfl) fun n1 J hJ => ?_
    refine iOrS (a := w0) hJ (fun e => by rw [e]; rfl) fun n2 J hJ => ?_
    refine iOrS (a := w0) hJ (fun e => by rw [e]; rfl) fun n3 J hJ => ?_
    refine iOrS (a := w0) hJ (fun e => by rw [e]; rfl) fun n4 J hJ => ?_
    refine iOrE (a := w0) hJ (fun e => by rw [e]; rfl) fun n5 => ?_
    refine decide_eq_decide.2 ?_
    simp only [alW, List.mem_cons, List.not_mem_nil, or_false, n1, n2, n3, n4, n5, false_or]
  intro _
  simp only [gx]
  have X17 := X7.trans x17
  refine iCndP (fun h5 => ?_) (fun h5 => ?_)
  · rw [own (by unfold isOwn; rw [decide_eq_true h5]; simp)]
    have hv : ownB (w0 :: rest) = decide (rest.length = 0) := by rw [ownB_cons, if_neg h1, if_neg h2, if_pos h5]
    rw [hv]
    refine iLenStr (ho7.ext x17).sl (iEq ⟨?_, X17⟩)
    congr 1
    rw [List.length_cons]
    exact decide_eq_decide.2 (by omega)
  · have hv : ownB (w0 :: rest) = false := by rw [ownB_cons, if_neg h1, if_neg h2, if_neg h5, if_neg h4]
    rw [hCL, hv, Bool.false_or]
    exact iRet (ok_impl_IsQuery (hN.ext X17)) fun w18 x18 => ⟨by first | trivial | rfl, X17.trans x18⟩
theorem ok_spec_l37Form (t : Str) (w : World) : Ret Tryd.prog f_spec_l37Form #[sv t] w (.tuple #[sv (formC t), .bool (isOwn t)]) := by
  apply c_spec_l37Form; unfold S_spec_l37Form
  unfold formC isOwn
  refine iEqT (iCndP (fun h => ?_) (fun h => ?_))
  · have h : t = cLet := h
    exact ⟨by rw [if_pos h, decide_eq_true h]; rfl, Ext.refl _⟩
  have h : ¬ t = cLet := h
  rw [if_neg h, decide_eq_false h, Bool.false_or]
  refine iEqT ?_
  refine iJnB (decide (t ∈ nmW)) w (fun J hJ => ?_) (fun w2 x2 => ?_)
  · refine iOrS (a := t) hJ (fun e => by rw [e]; rfl) fun n1 J hJ => ?_
    refine iOrE (a := t) hJ (fun e => by rw [e]; rfl) fun n2 => ?_
    refine decide_eq_decide.2 ?_
    simp only [nmW, List.mem_cons, List.not_mem_nil, or_false, n1, n2, false_or]
  intro _
  simp only [gx]
  refine iCndP (fun h2 => ⟨by rw [if_pos h2, decide_eq_true h2]; rfl, x2⟩) (fun h2 => ?_)
  rw [if_neg h2, decide_eq_false h2, Bool.false_or]
  refine iEqT ?_
  refine iJnB (decide (t ∈ alW)) w2 (fun J hJ => ?_) (fun w6 x6 => ?_)
  · refine iOrS (a := t) hJ (fun e => by rw [e]; rfl) fun n1 J hJ => ?_
    refine iOrS (a := t) hJ (fun e => by rw [e]; rfl) fun n2 J hJ => ?_
    refine iOrS (a := t) hJ (fun e => by rw [e]; rfl) fun n3 J hJ => ?_
    refine iOrS (a := t) hJ (fun e => by rw [e]; rfl) fun n4 J hJ => ?_
    refine iOrE (a := t) hJ (fun e => by rw [e]; rfl) fun n5 => ?_
    refine decide_eq_decide.2 ?_
    simp only [alW, List.mem_cons, List.not_mem_nil, or_false, n1, n2, n3, n4, n5, false_or]
  intro _
  simp only [gx]
  have X6 := x2.trans x6
  refine iCndP (fun h3 => ⟨by rw [if_pos h3, decide_eq_true h3]; rfl, X6⟩) (fun h3 => ?_)
  rw [if_neg h3, decide_eq_false h3, Bool.false_or]
  refine iEqT (iCndP (fun h4 => ?_) (fun h4 => ?_))
  · have h4 : t = cCrash := h4
    exact ⟨by rw [if_pos h4, decide_eq_true h4], X6⟩
  · have h4 : ¬ t = cCrash := h4
    exact ⟨by rw [if_neg h4, decide_eq_false h4], X6⟩
theorem formC_cases (t : Str) : formC t = [78, 69] ∨ formC t = [78] ∨ formC t = [75] ∨ formC t = [] := by
  unfold formC
  by_cases h1 : t = cLet
  · rw [if_pos h1]; exact .inl rfl
  rw [if_neg h1]
  by_cases h2 : t ∈ nmW
  · rw [if_pos h2]; exact .inr (.inl rfl)
  rw [if_neg h2]
  by_cases h3 : t ∈ alW
  · rw [if_pos h3]; exact .inr (.inr (.inr rfl))
  rw [if_neg h3]
  by_cases h4 : t = cCrash
  · rw [if_pos h4]; exact .inr (.inr (.inl rfl))
  rw [if_neg h4]; exact .inr (.inr (.inr rfl))
theorem formC_len (t : Str) : (formC t).length ≤ 2 := by
  rcases formC_cases t with h | h | h | h <;> rw [h] <;> decide
theorem ok_spec_l37Own {v : Value} {w0 : Str} {rest : List Str} {w : World} (hs : SlT w v (w0 :: rest)) (hwl : ∀ s ∈ w0 :: rest, s.length ≤ 1048576) : Ret Tryd.prog f_spec_l37Own #[v] w (.bool (ownB (w0 :: rest))) := by
  apply c_spec_l37Own; unfold S_spec_l37Own
  rw [← oF_ownB]
  refine iIaG hs (j := 0) rfl (by simp) ?_
  show callV _ _ [sv w0] _ _
  refine iRet (ok_spec_l37Form w0 w) fun w1 x1 => ?_
  refine iE20 (iE21 ?_)
  refine iJnB (!(isOwn w0 && decide (rest.length = (formC w0).length))) w1 (fun J hJ => ?_) (fun w3 x3 => ?_)
  · refine iNot (iCnd (fun h => ?_) (fun h => ?_))
    · rw [Bool.not_eq_true'] at h
      rw [h, Bool.false_and] at hJ
      exact hJ _ (Ext.refl _)
    · rw [Bool.not_eq_false'] at h
      rw [h, Bool.true_and] at hJ
      have hfl := formC_len w0
      refine iLenStr (hs.ext x1) (iLenT (iAdd (by omega) (iNe ?_)))
      rw [show decide (¬ ((w0 :: rest).length : Int) = ((formC w0).length : Int) + 1) = (!decide (rest.length = (formC w0).length)) by
        rw [← decide_not]
        refine decide_eq_decide.2 ?_
        rw [List.length_cons]; omega]
      exact hJ _ (Ext.refl _)
  intro _
  simp only [gx]
  have X3 := x1.trans x3
  unfold oF
  refine iCnd (fun h => ?_) (fun h => ?_)
  · rw [Bool.not_eq_true', Bool.and_eq_false_iff] at h
    refine ⟨?_, X3⟩
    rcases h with h | h <;> rw [h] <;> simp
  · rw [Bool.not_eq_false', Bool.and_eq_true, decide_eq_true_eq] at h
    rw [h.1, decide_eq_true h.2, Bool.true_and, Bool.true_and]
    refine iLp (fun i : Nat => [.int .i64 (i : Int)]) (fun i w' => i ≤ (formC w0).length ∧ Ext w w' ∧ ∀ j, j < i → chkC ((formC w0).getD j 0) (gt rest j) = true) (fun i => (formC w0).length - i) 0 rfl ⟨Nat.zero_le _, X3, fun j hj => by omega⟩ ?_
    rintro i w6 Kn ⟨hi, X6, hok⟩ hKn
    intro _
    simp only [gx]
    refine iLenT (iLt (iCndP (fun hlt => ?_) (fun hlt => ?_)))
    · have hil : i < (formC w0).length := by omega
      have hfl := formC_len w0
      refine iAdd (by omega) ?_
      have e1 : (i : Int) + 1 = ((i + 1 : Nat) : Int) := by omega
      refine iIaG (hs.ext X6) (j := i + 1) e1 (by rw [List.length_cons]; omega) ?_
      have hgt : gt (w0 :: rest) (i + 1) = gt rest i := rfl
      rw [hgt]
      have hrl : (gt rest i).length ≤ 1048576 := hwl _ (by rw [gt_eq (show i < rest.length by omega)]; exact List.mem_cons_of_mem _ (List.getElem_mem _))
      refine iIs hil ?_
      have hnum : ∀ d : UInt8, decide ((((formC w0).getD i 0).toNat : Int) = ((d.toNat : Nat) : Int)) = decide ((formC w0).getD i 0 = d) := fun d => decide_eq_decide.2 ⟨fun h => UInt8.toNat_inj.1 (by exact_mod_cast h), fun h => by rw [h]⟩
      refine iEq ?_
      refine iJnB (chkC ((formC w0).getD i 0) (gt rest i)) w6 (fun J hJ => ?_) (fun w8 x8 => ?_)
      · have d78 := hnum 78
        have d69 := hnum 69
        unfold chkC at hJ
        refine cast (by rw [← show decide ((((formC w0).getD i 0).toNat : Int) = 78) = decide ((formC w0).getD i 0 = 78) from d78]) (?_ : cnd (.bool (decide ((formC w0).getD i 0 = 78))) _ _)
        refine iCndP (fun h1 => ?_) (fun h1 => ?_)
        · rw [if_pos h1] at hJ
          exact iRet (ok_spec_l35Name (by omega) w6) fun w9 x9 => hJ _ x9
        rw [if_neg h1] at hJ
        refine iEq (iJn ?_)
        refine cast (by rw [← show decide ((((formC w0).getD i 0).toNat : Int) = 69) = decide ((formC w0).getD i 0 = 69) from d69]) (?_ : cnd (.bool (decide ((formC w0).getD i 0 = 69))) _ _)
        refine iCndP (fun h2 => ?_) (fun h2 => ?_)
        · rw [if_pos h2] at hJ
          refine iJn ?_
          unfold exprC at hJ
          refine iLenT (iLe (iCndP (fun h3 => ?_) (fun h3 => ?_)))
          · rw [if_neg (show ¬ 300 < (gt rest i).length by omega)] at hJ
            refine iRet (ok_spec_l36Form (by omega) w6) fun w9 x9 => fun _ => fun _ => ?_
            have := hJ _ x9
            rwa [show decide ((if exprB (gt rest i) = true then (0 : Int) else 6) = 0) = exprB (gt rest i) by cases exprB (gt rest i) <;> rfl] at this
          · rw [if_pos (show 300 < (gt rest i).length by omega)] at hJ
            exact fun _ => fun _ => hJ _ (Ext.refl _)
        rw [if_neg h2] at hJ
        refine iCall ((ok_spec_l37Number (gt rest i) w6).mono ?_)
        rintro r w9 ⟨x9, z, rfl, hz⟩
        refine iLe ?_
        rw [hz]
        exact fun _ => hJ _ x9
      intro _
      simp only [gx]
      refine iNot (iCnd (fun hb => ?_) (fun hb => ?_))
      · refine ⟨?_, X6.trans x8⟩
        rw [Bool.not_eq_true'] at hb
        congr 1
        refine (Bool.eq_false_iff.2 fun hall => ?_).symm
        have := List.all_eq_true.1 hall i (List.mem_range.2 hil)
        rw [hb] at this
        cases this
      · rw [Bool.not_eq_false'] at hb
        refine iAdd (by omega) ?_
        refine hKn (i + 1) _ ⟨hil, X6.trans x8, fun j hj => ?_⟩ (by omega)
        by_cases e : j = i
        · subst e; exact hb
        · exact hok j (by omega)
    · refine ⟨?_, X6⟩
      congr 1
      exact (List.all_eq_true.2 fun j hj => hok j (by have := List.mem_range.1 hj; omega)).symm
theorem ok_spec_IsConsoleLine {t : Str} (ht : t.length ≤ 1048576) (w : World) : Ret Tryd.prog f_spec_IsConsoleLine #[sv t] w (.bool (isCL t)) := by
  apply c_spec_IsConsoleLine; unfold S_spec_IsConsoleLine
  refine iJnB (isCL t) w (fun J hJ => ?_) (fun w2 x2 => fun _ => ⟨by first | trivial | rfl, x2⟩)
  unfold isCL at hJ
  refine iCall ((ok_spec_l01Split 32 rfl (by omega) w).mono ?_)
  rintro v w1 ⟨x1, ho⟩
  have hWm := splitT_mem 32 t
  obtain ⟨w0, rest, hW⟩ := splitT_cons 32 t
  rw [hW] at ho hWm hJ
  refine iRet (ok_spec_l37Own ho.sl fun s hs => by have := hWm s hs; omega) fun w3 x3 => ?_
  have X3 := x1.trans x3
  refine iCnd (fun h => ?_) (fun h => ?_)
  · rw [h, Bool.true_or] at hJ; exact hJ _ X3
  · rw [h, Bool.false_or] at hJ
    exact iRet (ok_spec_IsQuery t w3) fun w4 x4 => hJ _ (X3.trans x4)
theorem ok_laws_FnExactIsConsoleLine {w : World} (hN : NmOk w) (t : Str) : Ret Tryd.prog f_laws_FnExactIsConsoleLine #[sv t] w (.bool true) := by
  apply c_laws_FnExactIsConsoleLine; unfold S_laws_FnExactIsConsoleLine
  refine iLenT (iLt (iCndP (fun _ => ⟨by first | trivial | rfl, Ext.refl _⟩) (fun hl => ?_)))
  refine iRet (ok_spec_IsConsoleLine (t := t) (by omega) w) fun w1 x1 => ?_
  refine iRet (ok_impl_IsConsoleLine (hN.ext x1) (by omega)) fun w2 x2 => ?_
  refine ⟨_, _, rfl, rfl, ?_⟩
  refine iCndF (by cases isCL t <;> rfl) ⟨by first | trivial | rfl, x1.trans x2⟩
end Go.Proofs.YtnbelddmhlknkaaDoor
