/- The proof of FnCrashesCard, part 6 of 7. Conditions: none. -/
import Derived.Test.YtapdkkijoflcpaaGreatDoorKR51e
/- Contracts: the program's readJournal. Conditions: the table of powers of ten. -/
namespace Go.Vc
theorem Sl.head {w : World} {g n cap k : Nat} {xs : List Value} (hs : Sl w (.slice (some ⟨g, 0, none⟩) n cap) xs) (hk : k ≤ n) : Sl w (.slice (some ⟨g, 0, none⟩) k cap) (xs.take k) := by
  obtain ⟨a, c, hv, h2, h3, h4⟩ := hs
  injection hv with e1 e2 e3
  subst e1 e2 e3
  have hl : (xs.take k).length = k := by rw [List.length_take]; omega
  refine ⟨_, _, by rw [hl], by omega, h3, ?_⟩
  rcases h4 with h4 | ⟨b, o, ha, hc⟩
  · exact .inl (by rw [h4]; simp)
  · refine .inr ⟨b, o, ha, fun i hi => ?_⟩
    rw [hl] at hi
    rw [hc i (by omega), List.getElem?_take, if_pos hi]
end Go.Vc
namespace Go.Proofs.YtapdkkijoflcpaaGreatDoor
open Go.Vc
theorem ok_impl_newJournal (w : World) : Cal Tryz.prog f_impl_newJournal #[] w fun r w' => Ext w w' ∧ ∃ b, r = .pointer (some ⟨b, 0, none⟩) ∧ JnW w w' b (.slice none 0 0) (.slice none 0 0) jn0 := by
  apply c_impl_newJournal; unfold S_impl_newJournal
  refine iBuild (cs := #[.slice none 0 0, .slice none 0 0, sv [], .int .i64 11]) (by simp [Instr.fill, Value.cells]) ?_
  refine iNew fun b w1 hb x1 hB => ?_
  refine ⟨x1, b, rfl, by omega, ?_, OwK.nil _ _ _ _, OwK.nil _ _ _ _, JI.nil⟩
  have hB' : Blk 50 w1 b [.slice none 0 0, .slice none 0 0, sv [], .int .i64 11] := by simpa [Value.cells] using hB
  exact hB'
theorem ok_impl_readJournal {t : Str} {m : Nat} (hm : m ≤ 1048576) (ht : t.length ≤ 4194304) {w : World} (hT : TabOk w) : Cal Tryz.prog f_impl_readJournal #[sv t, .int .i64 (m : Int)] w fun r w' =>
    Ext w w' ∧ ∃ b vi ve, r = .pointer (some ⟨b, 0, none⟩) ∧ JnW w w' b vi ve (readJ m t jn0) ∧ (readJ m t jn0).ents.length ≤ m ∧ (readJ m t jn0).text.length ≤ t.length := by
  apply c_impl_readJournal; unfold S_impl_readJournal
  refine iCall ((ok_impl_newJournal w).mono ?_)
  rintro r w1 ⟨x1, b, rfl, hj1⟩
  refine iLp (fun s : Str × Jn => [sv s.1]) (fun s w' => Ext w w' ∧ (∃ vi ve, JnW w w' b vi ve s.2) ∧ s.2.text ++ s.1 = t ∧ s.2.ents.length ≤ m ∧ readJ (m - s.2.ents.length) s.1 s.2 = readJ m t jn0) (fun s => s.1.length) (t, jn0) rfl ⟨x1, ⟨_, _, hj1⟩, rfl, Nat.zero_le _, rfl⟩ ?_
  rintro ⟨s, j⟩ w3 Kn ⟨X3, ⟨vi, ve, hj⟩, htx, hen, hrd⟩ hKn
  have hj : JnW w w3 b vi ve j := hj
  have htx : j.text ++ s = t := htx
  have hen : j.ents.length ≤ m := hen
  have hrd : readJ (m - j.ents.length) s j = readJ m t jn0 := hrd
  have hlen : j.text.length + s.length = t.length := by rw [← htx, List.length_append]
  intro _
  simp only [gx]
  refine iNil (iFa (iLdB hj.blk rfl ?_))
  refine iLenK hj.en.sl (iLt (iCndP (fun hlt => ?_) (fun hlt => ?_)))
  · obtain ⟨k, hk⟩ : ∃ k, m - j.ents.length = k + 1 := ⟨m - j.ents.length - 1, by omega⟩
    rw [hk] at hrd
    by_cases h10 : 10 ∈ s
    · obtain ⟨l, r, rfl, hl⟩ := hit_ex h10
      rw [readJ_hit hl] at hrd
      rw [List.length_append, List.length_cons] at hlen
      refine iRet (ok_strings_Cut_hit hl (by rw [List.length_append, List.length_cons]; omega) w3) fun w4 x4 => ?_
      refine iE30 (iE31 (iE32 (iNot (iCndF rfl ?_))))
      refine iCall ((ok_strings_Split1 32 (by omega) w4).mono ?_)
      rintro v w5 ⟨x5, ho⟩
      have hwl := splitT_len 32 l
      have hwm := splitT_mem 32 l
      obtain ⟨g, cap, hv, hcap, hcm⟩ := Ow.open ho (by intro e; have := strs_len (splitT 32 l); rw [e] at this; simp at this; omega)
      have hos := ho.sl
      rw [strs_len] at hv hcap
      refine iLenStr ho.sl (iSub (by omega) ?_)
      rw [show ((splitT 32 l).length : Int) - 1 = (((splitT 32 l).length - 1 : Nat) : Int) by omega]
      subst hv
      refine iSlHead (by omega) hcap ?_
      have hd : SlT w5 (.slice (some ⟨g, 0, none⟩) ((splitT 32 l).length - 1) cap) (splitT 32 l).dropLast := by
        rw [List.dropLast_eq_take]
        have := Sl.head (k := (splitT 32 l).length - 1) hos (by omega)
        rw [strs_take] at this
        exact this
      refine iRet (ok_impl_entryOf hd) fun w6 x6 => ?_
      have hsz : (entOf (splitT 32 l).dropLast).sz ≤ 2 * l.length := entOf_sz fun s hs => hwm s (List.dropLast_subset _ hs)
      have hpS : pStep j l = if entB (entOf (splitT 32 l).dropLast) && decide (lineC j.chk (entOf (splitT 32 l).dropLast) = l ++ [10]) then addJ j (entOf (splitT 32 l).dropLast) else none := rfl
      generalize entOf (splitT 32 l).dropLast = e at hsz hpS ⊢
      refine iNew3 fun q w7 hq x7 hQ => ?_
      refine iSt3 hQ rfl rfl rfl rfl fun w8 hQ8 hc8 => ?_
      have X6 := ((X3.trans x4).trans x5).trans x6
      have x36 := (x4.trans x5).trans x6
      have s6 := x36.size
      have x38 : Ext w3 w8 := (x36.trans x7).thenCh hc8 fun c hc => by omega
      have X8 := X3.trans x38
      have hj8 := hj.ext x38
      refine iJnX (fun xs w' => Ext w w' ∧ xs = [.bool (pStep j l).isNone] ∧ match pStep j l with | some j' => ∃ vi' ve', JnW w w' b vi' ve' j' | none => JnW w w' b vi ve j) (fun J hJ => ?_) ?_
      · refine iLd3 hQ8 ?_
        refine iRet (ok_impl_isEntry (e := e) (by omega) w8) fun w11 x11 => ?_
        refine iNot (iCnd (fun he => ?_) (fun he => ?_))
        · rw [Bool.not_eq_true'] at he
          have : pStep j l = none := by rw [hpS, he]; rfl
          refine hJ _ _ ⟨X8.trans x11, by rw [this]; rfl, ?_⟩
          rw [this]; exact hj8.ext x11
        rw [Bool.not_eq_false'] at he
        refine iLd3 (hQ8.ext x11) ?_
        refine iRet (ok_impl_journal_line (e := e) (hj8.ext x11).blk (jn_chk_lt j) (by omega) (hT.ext (X8.trans x11))) fun w12 x12 => ?_
        refine iCat (b := [10]) (by simp only [List.length_cons, List.length_nil]; omega) ?_
        refine iNeT ?_
        have X12 := (X8.trans x11).trans x12
        refine iCndP (fun hne => ?_) (fun hne => ?_)
        · have : pStep j l = none := by rw [hpS, he, decide_eq_false hne]; rfl
          refine hJ _ _ ⟨X12, by rw [this]; rfl, ?_⟩
          rw [this]; exact (hj8.ext x11).ext x12
        have heq : lineC j.chk e = l ++ [10] := Classical.not_not.1 hne
        refine iLd3 ((hQ8.ext x11).ext x12) ?_
        refine iCall ((ok_impl_journal_enter (e := e) X12 ((hj8.ext x11).ext x12) he (by omega) (show j.ents.length ≤ 1048576 by omega) (show j.text.length ≤ 68719476736 by omega) hT).mono ?_)
        rintro r' w13 ⟨X13, hm'⟩
        have hps : pStep j l = addJ j e := by rw [hpS, he, decide_eq_true heq]; rfl
        rw [hps] at hJ
        cases had : addJ j e with
        | none =>
          rw [had] at hm' hJ
          obtain ⟨rfl, hjj⟩ := hm'
          exact iNot (hJ _ _ ⟨X13, rfl, hjj⟩)
        | some j' =>
          rw [had] at hm' hJ
          obtain ⟨rfl, hjj⟩ := hm'
          exact iNot (hJ _ _ ⟨X13, rfl, hjj⟩)
      · rintro xs w10 ⟨X10, rfl, hm'⟩
        intro _
        simp only [gx]
        cases hp : pStep j l with
        | none =>
          rw [hp] at hm' hrd
          refine iCndT rfl ⟨X10, b, vi, ve, rfl, ?_⟩
          rw [← hrd]
          exact ⟨hm', hen, show j.text.length ≤ t.length by omega⟩
        | some j' =>
          rw [hp] at hm' hrd
          have hj' : j'.text = j.text ++ (l ++ [10]) ∧ j'.ents.length = j.ents.length + 1 := by
            rw [hpS] at hp
            split at hp
            · rename_i hb
              rw [Bool.and_eq_true, decide_eq_true_eq] at hb
              unfold addJ at hp
              cases hst : stepI j.items e with
              | none => rw [hst] at hp; cases hp
              | some L' =>
                rw [hst] at hp
                cases hp
                exact ⟨by show j.text ++ _ = _; rw [hb.2], by show (j.ents ++ [e]).length = _; simp⟩
            · cases hp
          refine iCndF rfl ?_
          refine hKn (r, j') _ ⟨X10, hm', ?_, ?_, ?_⟩ (by show r.length < (l ++ 10 :: r).length; simp; omega)
          · show j'.text ++ r = t
            rw [hj'.1, ← htx]; simp
          · show j'.ents.length ≤ m
            omega
          · show readJ (m - j'.ents.length) r j' = _
            rw [← hrd, show m - j'.ents.length = k by omega]
    · have hmiss : ∀ x ∈ s, x ≠ 10 := fun x hx e => h10 (e ▸ hx)
      refine iRet (ok_strings_Cut_miss hmiss w3) fun w4 x4 => ?_
      refine iE30 (iE31 (iE32 (iNot (iCndT rfl ?_))))
      rw [readJ_miss hmiss] at hrd
      refine ⟨X3.trans x4, b, vi, ve, rfl, ?_⟩
      rw [← hrd]
      exact ⟨hj.ext x4, hen, show j.text.length ≤ t.length by omega⟩
  · have h0 : m - j.ents.length = 0 := by omega
    rw [h0] at hrd
    have hrd : j = readJ m t jn0 := hrd
    refine ⟨X3, b, vi, ve, rfl, ?_⟩
    rw [← hrd]
    exact ⟨hj, hen, show j.text.length ≤ t.length by omega⟩
theorem ok_impl_goodPart {t : Str} (ht : t.length ≤ 4194304) {w : World} (hT : TabOk w) : Cal Tryz.prog f_impl_goodPart #[sv t] w fun r w' =>
    Ext w w' ∧ ∃ b vi ve, r = .pointer (some ⟨b, 0, none⟩) ∧ JnW w w' b vi ve (openJ t) ∧ (openJ t).ents.length ≤ 60 ∧ (openJ t).text.length ≤ t.length := by
  apply c_impl_goodPart; unfold S_impl_goodPart
  refine iCall ((ok_impl_readJournal (m := 60) (by omega) ht hT).mono ?_)
  rintro r w1 h
  exact h
end Go.Proofs.YtapdkkijoflcpaaGreatDoor

/- Contracts: the reference's journal: l35Apply, l35Parse. Conditions: none. -/
namespace Go.Vc
theorem iHK {k n i : Nat} {ki : IntKind} {w : World} {v : Value} {xs : List Value} {K : Value → Prop} (hs : SlK k w v n xs) (hi : i ≤ n) (h : ∀ v', SlK k w v' i (xs.take (i * k)) → K v') : xSl k v none (some (.int ki (i : Int))) K := by
  obtain ⟨h0, a, c, rfl, h2, h3, h4⟩ := hs
  have hle : i * k ≤ n * k := Nat.mul_le_mul_right _ hi
  refine ⟨_, _, _, 0, i, rfl, ⟨ki, rfl⟩, rfl, Nat.zero_le _, by omega, ?_⟩
  refine h _ ⟨by rw [List.length_take]; omega, _, _, by rw [Nat.sub_zero], by omega, by omega, ?_⟩
  rcases Nat.eq_zero_or_pos i with hz | hz
  · exact .inl hz
  · rcases h4 with h4 | ⟨b, o, rfl, hc⟩
    · omega
    · refine .inr ⟨b, o, ?_, fun j hj => ?_⟩
      · rw [if_neg (by omega), Option.map_some, addr_add, Nat.zero_mul, Nat.add_zero]
      · rw [hc j (by omega), List.getElem?_take, if_pos hj]
theorem iTK {k n i : Nat} {ki : IntKind} {w : World} {v : Value} {xs : List Value} {z : Int} {K : Value → Prop} (hs : SlK k w v n xs) (hz : z = (i : Int)) (hi : i ≤ n) (h : ∀ v', SlK k w v' (n - i) (xs.drop (i * k)) → K v') : xSl k v (some (.int ki z)) none K := by
  subst hz
  obtain ⟨h0, a, c, rfl, h2, h3, h4⟩ := hs
  have hle : i * k ≤ n * k := Nat.mul_le_mul_right _ hi
  have hsub : (n - i) * k = n * k - i * k := Nat.sub_mul ..
  refine ⟨_, _, _, i, n, rfl, rfl, ⟨ki, rfl⟩, hi, h2, ?_⟩
  refine h _ ⟨by rw [List.length_drop]; omega, _, _, rfl, by omega, by omega, ?_⟩
  rcases Nat.eq_zero_or_pos (n - i) with hz | hz
  · exact .inl hz
  · rcases h4 with h4 | ⟨b, o, rfl, hc⟩
    · omega
    · refine .inr ⟨b, o + i * k, ?_, fun j hj => ?_⟩
      · rw [if_neg (by omega), Option.map_some, addr_add]
      · rw [Nat.add_assoc, hc _ (by omega), List.getElem?_drop]
end Go.Vc
namespace Go.Proofs.YtapdkkijoflcpaaGreatDoor
open Go.Vc
theorem iBs03 {w : World} {e : TypeId} {z0 z1 z2 : Value} {K : Value → World → Prop} (h : ∀ v w', Ext w w' → OwK 3 w.heap.size e w' v 0 [] → K v w') : xBs e (Value.cells (.agg #[z0, z1, z2])) 3 0 [] w K := by
  refine ⟨#[], ?_, h _ _ (Ext.alloc w _) (OwK.ofBlk (k := 3) (n := 0) (Blk.new w #[] e) (Nat.le_refl _) rfl (by omega))⟩
  simp [Instr.fill]
theorem ok_spec_l35Apply {w : World} {v : Value} {L : List Itm} {e : Ent} (hs : SlIt w v L) (hJ : JI L) :
    Cal Tryz.prog f_spec_l35Apply #[v, e.val] w fun r w' => Ext w w' ∧ ∃ v', match stepI L e with
      | some L' => r = .tuple #[v', .bool true] ∧ ItW w.heap.size w' v' L'
      | none => r = .tuple #[v', .bool false] := by
  apply c_spec_l35Apply; unfold S_spec_l35Apply
  have hLl := hJ.len
  refine iNew3 fun q w1 hq x1 hB => ?_
  refine iFa (iLdB hB rfl ?_)
  have hs1 := hs.ext x1
  refine iCall ((ok_spec_l35Place (n := e.nm) hs1).mono ?_)
  rintro r w2 ⟨x2, i, y, rfl, hF⟩
  have hin := hJ.incI
  have hy := hF.2.2 hin
  have hil := hF.1.1
  have hp : posI L e.nm = i := pos_at hil (hF.1.2 hin).1 (hF.1.2 hin).2
  have X2 := x1.trans x2
  have hs2 := hs1.ext x2
  refine iE20 (iE21 ?_)
  refine iBs03 fun v19 w3 x3 ho3 => ?_
  have X3 := X2.trans x3
  refine iHK (hs2.ext x3) hil fun v22 hh => ?_
  rw [cellsI_take] at hh
  have app : ∀ {w4 : World} {u x : Value} {A M : List Itm} {m : Nat} {K : Value → World → Prop}, Ext w w4 → ItW w.heap.size w4 u A → SlK 3 w4 x m (cellsI M) → m = M.length → A.length ≤ 1048576 → M.length ≤ 1048576 →
      (∀ u' w5, Ext w w5 → ItW w.heap.size w5 u' (A ++ M) → Ch (fun c => u.ownBlock = some c) w4 w5 → K u' w5) → xOp Tryz.prog (Builtin.append_ #[t_Simpl_Item, t_Simpl_Item] t_Simpl_Item #[u, x]) w4 K := by
    intro w4 u x A M m K X4 hu hx hm hA hM h
    subst hm
    refine iAppK u_Simpl_Item i_Simpl_Item rfl (by omega) hu hx (cellsI_cell M) (by omega) (by omega) X4.size fun u' w5 ho hg hb => ?_
    have hc := grown_ch hg (S := fun c => u.ownBlock = some c) fun c hc => hc
    refine h u' w5 (X4.thenCh hc fun c hc => (hu.blk c hc).1) ?_ hc
    show OwK 3 _ _ w5 u' (A ++ M).length (cellsI (A ++ M))
    rw [List.length_append, cellsI_app]
    exact ho
  have hi0 : ItW w.heap.size w3 v19 [] := OwK.mono (lo' := w.heap.size) ho3 X2.size
  refine app X3 hi0 hh (by rw [List.length_take]; omega) (by simp) (by rw [List.length_take]; omega) fun v23 w4 X4 ho4 hc4 => ?_
  rw [List.nil_append] at ho4
  have hB3 := (hB.ext x2).ext x3
  have hB4 : Blk t_impl_Entry w4 q e.cs := hB3.ch hc4 (hi0.ne_blk hB3 (by decide))
  have hs4 := hs.ext X4
  have tl : (L.take i).length ≤ 1048576 := by rw [List.length_take]; omega
  have dl : ∀ k, (L.drop k).length ≤ 1048576 := fun k => by rw [List.length_drop]; omega
  refine iFa (iLdB hB4 rfl ?_)
  refine iEq (iCndP (fun hk => ?_) (fun hk => ?_))
  · refine iJnB (!y && decide (12 ≤ L.length)) w4 (fun J hJ' => ?_) (fun w6 x6 => ?_)
    · refine iNot (iCnd (fun hy1 => ?_) (fun hy1 => ?_))
      · rw [hy1, Bool.true_and] at hJ'
        refine iLenK hs4 (iLe ?_)
        rw [show decide ((12 : Int) ≤ (L.length : Int)) = decide (12 ≤ L.length) from decide_eq_decide.2 (by omega)]
        exact hJ' _ (Ext.refl _)
      · rw [hy1, Bool.false_and] at hJ'
        exact hJ' _ (Ext.refl _)
    intro _
    simp only [gx]
    have X6 := X4.trans x6
    refine iCnd (fun hc => ?_) (fun hc => ?_)
    · rw [Bool.and_eq_true, Bool.not_eq_true', decide_eq_true_eq] at hc
      have hst : stepI L e = none := by
        unfold stepI
        rw [if_pos hk, if_neg (by rw [← hy, hc.1]; decide), if_pos hc.2]
      refine ⟨X6, .slice none 0 0, ?_⟩
      rw [hst]
    · refine iTK hs rfl hil fun v36 h36 => ?_
      rw [cellsI_drop] at h36
      refine iJnX (fun xs w' => Ext w6 w' ∧ ∃ u m, xs = [u] ∧ SlK 3 w u m (cellsI (if y then L.drop (i + 1) else L.drop i)) ∧ m = (if y then L.drop (i + 1) else L.drop i).length) (fun J hJ' => ?_) ?_
      · refine iCnd (fun hy1 => ?_) (fun hy1 => ?_)
        · obtain ⟨hil', -⟩ := hF.2.1 hy1
          refine iAdd (by omega) ?_
          refine iTK (i := i + 1) hs (by omega) hil' fun v41 h41 => ?_
          rw [cellsI_drop] at h41
          refine hJ' _ _ ⟨Ext.refl _, v41, L.length - (i + 1), rfl, ?_, ?_⟩
          · rw [if_pos hy1]; exact h41
          · rw [if_pos hy1, List.length_drop]
        · refine hJ' _ _ ⟨Ext.refl _, v36, L.length - i, rfl, ?_, ?_⟩
          · rw [if_neg (by rw [hy1]; decide)]; exact h36
          · rw [if_neg (by rw [hy1]; decide), List.length_drop]
      rintro xs w8 ⟨x8, u, m, rfl, hu, hm⟩
      intro _
      simp only [gx]
      have X8 := X6.trans x8
      have x48 := x6.trans x8
      have hB8 := hB4.ext x48
      refine iFa (iLdB hB8 rfl (iFa (iLdB hB8 rfl ?_)))
      refine iBuild (cs := #[sv e.nm, sv e.fm, .int .i64 0]) (by simp [Instr.fill, Value.cells]) ?_
      refine iBs31 fun q9 w9 hq9 x9 hB9 => ?_
      have X9 := X8.trans x9
      refine app (M := [⟨e.nm, e.fm, 0⟩]) X9 (ho4.ext (x48.trans x9)) (ItmS (x := ⟨e.nm, e.fm, 0⟩) hB9) rfl tl (by simp) fun v49 w10 X10 ho10 hc10 => ?_
      refine app X10 ho10 (hu.ext X10) hm (by simp only [List.length_append, List.length_cons, List.length_nil, List.length_take]; omega) (by split <;> exact dl _) fun v52 w11 X11 ho11 hc11 => ?_
      have hst : stepI L e = some (L.take i ++ [⟨e.nm, e.fm, 0⟩] ++ if y then L.drop (i + 1) else L.drop i) := by
        unfold stepI
        rw [if_pos hk, ← hy, hp]
        cases hyy : y with
        | true =>
          obtain ⟨hil', -⟩ := hF.2.1 hyy
          rw [if_pos rfl, List.set_eq_take_append_cons_drop, if_pos hil']; simp
        | false =>
          rw [hyy] at hc
          have : ¬ 12 ≤ L.length := by simpa using hc
          rw [if_neg (by decide), if_neg this]; simp
      refine ⟨X11, v52, ?_⟩
      rw [hst]
      exact ⟨rfl, ho11⟩
  · refine iNot (iCnd (fun hy1 => ?_) (fun hy1 => ?_))
    · rw [Bool.not_eq_true'] at hy1
      have hst : stepI L e = none := by
        unfold stepI
        rw [if_neg hk, if_pos (hy.symm.trans hy1)]
      refine ⟨X4, .slice none 0 0, ?_⟩
      rw [hst]
    · rw [Bool.not_eq_false'] at hy1
      obtain ⟨hil', hnm⟩ := hF.2.1 hy1
      have hhas : ¬ hasI L e.nm = false := by rw [← hy, hy1]; decide
      refine iFa (iLdB hB4 rfl ?_)
      refine iEq (iCndP (fun hk2 => ?_) (fun hk2 => ?_))
      · refine iAdd (by omega) ?_
        refine iTK (i := i + 1) hs (by omega) hil' fun v62 h62 => ?_
        rw [cellsI_drop] at h62
        refine app X4 ho4 (h62.ext X4) (by rw [List.length_drop]) tl (dl _) fun v63 w12 X12 ho12 hc12 => ?_
        have hst : stepI L e = some (L.take i ++ L.drop (i + 1)) := by
          unfold stepI
          rw [if_neg hk, if_neg hhas, if_pos hk2, hp]
        refine ⟨X12, v63, ?_⟩
        rw [hst]
        exact ⟨rfl, ho12⟩
      · have hgt := (hJ.ok (gt L i) (by rw [gt_eq hil']; exact List.getElem_mem _)).2.1
        have hpc : pCode (gt L i).fm = 0 := by unfold goodT at hgt; rw [Bool.and_eq_true, decide_eq_true_eq] at hgt; exact hgt.1
        refine iFm hs4 rfl hil' ?_
        refine iCall ((ok_spec_l02Good (gt L i).fm w4).mono ?_)
        rintro r w13 ⟨x13, a, rfl, ha⟩
        have ha : FmW w4.heap.size w13 a (fT (gt L i).fm) := ha hpc
        refine iE20 (iE21 ?_)
        refine iJnB (!claimB (gt L i).fm) w13 (fun J hJ' => ?_) (fun w15 x15 => ?_)
        · unfold claimB at hJ'
          refine iRet (ok_spec_l02Plain ha.sl) fun w16 x16 => ?_
          refine iNot (iCnd (fun hp1 => ?_) (fun hp1 => ?_))
          · rw [Bool.not_eq_true'] at hp1
            rw [hp1, Bool.false_and] at hJ'
            exact hJ' _ x16
          rw [Bool.not_eq_false'] at hp1
          rw [hp1, Bool.true_and] at hJ'
          refine iLenK (ha.sl.ext x16) (iLt (iCndP (fun hz => ?_) (fun hz => ?_)))
          · rw [decide_eq_false (show ¬ (fT (gt L i).fm).size ≤ 20 by omega), Bool.false_and] at hJ'
            exact hJ' _ x16
          rw [decide_eq_true (show (fT (gt L i).fm).size ≤ 20 by omega), Bool.true_and] at hJ'
          refine iBs0 fun v82 w17 hw17 x17 ho17 => ?_
          have hsq : SqF [] (fT (gt L i).fm) := ⟨fun a ha => by simp at ha, hp1, by have := w2_small hp1 (by omega); show 0 + _ ≤ _; omega⟩
          refine iRet (ok_spec_l23Search _ (Nat.lt_succ_self _) hsq ⟨[], ho17.sl, FmsS.nil _⟩ ((ha.sl.ext x16).ext x17)) fun w18 x18 => ?_
          exact iNot (hJ' _ ((x16.trans x17).trans x18))
        intro _
        simp only [gx]
        have x415 := x13.trans x15
        have X15 := X4.trans x415
        refine iCnd (fun hc => ?_) (fun hc => ?_)
        · rw [Bool.not_eq_true'] at hc
          have hst : stepI L e = none := by
            unfold stepI
            rw [if_neg hk, if_neg hhas, if_neg hk2, hp, hc]; rfl
          refine ⟨X15, .slice none 0 0, ?_⟩
          rw [hst]
        rw [Bool.not_eq_false'] at hc
        refine iFa (iLdB (hB4.ext x415) rfl ?_)
        refine iFm (hs.ext X15) rfl hil' ?_
        refine iBuild (cs := #[sv e.nm, sv (gt L i).fm, .int .i64 1]) (by simp [Instr.fill, Value.cells]) ?_
        intro w19 x19
        refine iBs31 fun q20 w20 hq20 x20 hB20 => ?_
        intro w21 x21
        have x421 := (((x415.trans x19).trans x20).trans x21)
        refine app (M := [⟨e.nm, (gt L i).fm, 1⟩]) (X4.trans x421) (ho4.ext x421) (ItmS (x := ⟨e.nm, (gt L i).fm, 1⟩) (hB20.ext x21)) rfl tl (by simp) fun v97 w22 X22 ho22 hc22 => ?_
        intro w23 x23
        refine iAdd (by omega) ?_
        refine iTK (i := i + 1) hs (by omega) hil' fun v102 h102 => ?_
        rw [cellsI_drop] at h102
        have X23 := X22.trans x23
        refine app X23 (ho22.ext x23) (h102.ext X23) (by rw [List.length_drop]) (by simp only [List.length_append, List.length_cons, List.length_nil, List.length_take]; omega) (dl _) fun v103 w24 X24 ho24 hc24 => ?_
        have hst : stepI L e = some (L.take i ++ [⟨e.nm, (gt L i).fm, 1⟩] ++ L.drop (i + 1)) := by
          unfold stepI
          rw [if_neg hk, if_neg hhas, if_neg hk2, hp, if_pos hc, hnm, List.set_eq_take_append_cons_drop, if_pos hil']; simp
        refine ⟨X24, v103, ?_⟩
        rw [hst]
        exact ⟨rfl, ho24⟩
theorem ok_spec_l35Parse {t : Str} (ht : t.length ≤ 4194304) (w : World) : Ret Tryz.prog f_spec_l35Parse #[sv t] w (.tuple #[(entOf (splitT 32 t)).val, .bool (entB (entOf (splitT 32 t)))]) := by
  apply c_spec_l35Parse; unfold S_spec_l35Parse
  refine iNew3 fun q2 w1 hq2 x1 hB2 => ?_
  refine iCall ((ok_spec_l01Split 32 rfl ht w1).mono ?_)
  rintro v w2 ⟨x2, ho⟩
  have hwm := splitT_mem 32 t
  have hsz : (entOf (splitT 32 t)).sz ≤ 2 * t.length := entOf_sz hwm
  generalize splitT 32 t = W at ho hsz ⊢
  refine iBuild (cs := #[.int .i64 0, sv [], sv []]) (by simp [Instr.fill]) ?_
  refine iNew3 fun q5 w3 hq5 x3 hB3 => ?_
  refine iSt3 hB3 rfl rfl rfl rfl fun w4 hB4 hc4 => ?_
  have X2 := x1.trans x2
  have s1 := x1.size
  have s2 := x2.size
  have X4 : Ext w w4 := (X2.trans x3).thenCh hc4 fun c hc => by omega
  have x24 : Ext w2 w4 := x3.thenCh hc4 fun c hc => by omega
  have hs4 : SlT w4 v W := Sl.ext ho.sl x24
  have hQ4 := (hB2.ext x2).ext x24
  have key : ∀ (n : Nat) (k : Str) (w2 : World) (J : List Value → World → Prop), SlT w2 v W → 0 < n → (∀ w4, Ext w2 w4 → J [.bool (decide (W.length = n) && decide (gt W 0 = k))] w4) →
      xLenS v fun u => xEq .i64 u (.int .i64 (n : Int)) fun y => cnd y (xIa 1 v (.int .i64 0) fun p => xLd w2 p fun x => xStr .eql x (sv k) fun z => J [z] w2) (J [.bool false] w2) := fun n k w2 J hs2 hn hJ => by
    refine iLenStr hs2 (iEq (iCndP (fun h => ?_) (fun h => ?_)))
    · rw [decide_eq_true (show W.length = n by omega), Bool.true_and] at hJ
      refine iIaG (L := W) hs2 (j := 0) rfl (by omega) ?_
      exact iEqT (hJ _ (Ext.refl _))
    · rw [decide_eq_false (show ¬ W.length = n by omega), Bool.false_and] at hJ
      exact hJ _ (Ext.refl _)
  refine iJnB (decide (W.length = 3) && decide (gt W 0 = kLet)) w4 (fun J hJ => key 3 kLet w4 J hs4 (by omega) hJ) (fun w6 x6 => ?_)
  intro _
  simp only [gx]
  have hB6 := hB4.ext x6
  have hs6 : SlT w6 v W := Sl.ext hs4 x6
  have st : ∀ {kd : Int} {a b : Str} {w' : World} {K : World → Prop}, Ext w4 w' → entOf W = ⟨kd, a, b⟩ → (∀ w'', Blk t_impl_Entry w'' q5 (entOf W).cs → Ch (fun c => c = q5) w' w'' → K w'') → xStA Tryz.prog w' 3 (.pointer (some ⟨q5, 0, none⟩)) (.agg #[.int .i64 kd, sv a, sv b]) K := fun {kd a b w' K} x he hK => by
    refine iSt3 (hB4.ext x) rfl rfl rfl rfl fun w'' hB hc => hK w'' ?_ hc
    rw [he]; exact hB
  refine iJnX (fun xs w' => Ch (fun c => c = q5) w4 w' ∧ xs = [] ∧ Blk t_impl_Entry w' q5 (entOf W).cs) (fun J7 hJ7 => ?_) ?_
  · refine iCnd (fun h => ?_) (fun h => ?_)
    · rw [Bool.and_eq_true, decide_eq_true_eq, decide_eq_true_eq] at h
      refine iIaG (L := W) hs6 (j := 1) rfl (by omega) ?_
      refine iIaG (L := W) hs6 (j := 2) rfl (by omega) ?_
      refine iBuild (cs := #[.int .i64 1, sv (gt W 1), sv (gt W 2)]) (by simp [Instr.fill, Value.cells]) ?_
      intro w9 x9
      refine st (x6.trans x9) (entOf_let h.1 h.2) fun w10 hB10 hc10 => ?_
      intro w11 x11
      exact hJ7 _ _ ⟨((x6.trans x9).ch.trans hc10 fun _ h => .inl h).trans (x11.ch (S := fun _ => False)) fun _ h => h.elim, rfl, hB10.ext x11⟩
    have h1 : ¬ (W.length = 3 ∧ gt W 0 = kLet) := fun e => by rw [decide_eq_true e.1, decide_eq_true e.2] at h; cases h
    refine iJnB (decide (W.length = 2) && decide (gt W 0 = kDrop)) w6 (fun J hJ => key 2 kDrop w6 J hs6 (by omega) hJ) (fun w13 x13 => ?_)
    intro _
    simp only [gx]
    have hs13 : SlT w13 v W := Sl.ext hs6 x13
    have X13 := x6.trans x13
    refine iJnX (fun xs w' => Ch (fun c => c = q5) w4 w' ∧ xs = [] ∧ Blk t_impl_Entry w' q5 (entOf W).cs) (fun J14 hJ14 => ?_) (fun xs w15 hh => ?_)
    · refine iCnd (fun h => ?_) (fun h => ?_)
      · rw [Bool.and_eq_true, decide_eq_true_eq, decide_eq_true_eq] at h
        refine iIaG (L := W) hs13 (j := 1) rfl (by omega) ?_
        refine iBuild (cs := #[.int .i64 2, sv (gt W 1), sv []]) (by simp [Instr.fill, Value.cells]) ?_
        refine st X13 (entOf_drop h.1 h.2) fun w16 hB16 hc16 => ?_
        exact hJ14 _ _ ⟨X13.ch.trans hc16 fun _ h => .inl h, rfl, hB16⟩
      have h2 : ¬ (W.length = 2 ∧ gt W 0 = kDrop) := fun e => by rw [decide_eq_true e.1, decide_eq_true e.2] at h; cases h
      refine iJnB (decide (W.length = 2) && decide (gt W 0 = kClaim)) w13 (fun J hJ => key 2 kClaim w13 J hs13 (by omega) hJ) (fun w18 x18 => ?_)
      intro _
      simp only [gx]
      have X18 := X13.trans x18
      refine iJnX (fun xs w' => Ch (fun c => c = q5) w4 w' ∧ xs = [] ∧ Blk t_impl_Entry w' q5 (entOf W).cs) (fun J19 hJ19 => ?_) (fun xs w20 hh => ?_)
      · refine iCnd (fun h => ?_) (fun h => ?_)
        · rw [Bool.and_eq_true, decide_eq_true_eq, decide_eq_true_eq] at h
          refine iIaG (L := W) (Sl.ext hs13 x18) (j := 1) rfl (by omega) ?_
          refine iBuild (cs := #[.int .i64 3, sv (gt W 1), sv []]) (by simp [Instr.fill, Value.cells]) ?_
          refine st X18 (entOf_claim h.1 h.2) fun w21 hB21 hc21 => ?_
          exact hJ19 _ _ ⟨X18.ch.trans hc21 fun _ h => .inl h, rfl, hB21⟩
        have h3 : ¬ (W.length = 2 ∧ gt W 0 = kClaim) := fun e => by rw [decide_eq_true e.1, decide_eq_true e.2] at h; cases h
        refine hJ19 _ _ ⟨X18.ch, rfl, ?_⟩
        rw [entOf_no h1 h2 h3]
        exact hB4.ext X18
      · obtain ⟨h1', rfl, h3'⟩ := hh
        exact fun _ => hJ14 _ _ ⟨h1', rfl, h3'⟩
    · obtain ⟨h1', rfl, h3'⟩ := hh
      exact fun _ => hJ7 _ _ ⟨h1', rfl, h3'⟩
  · rintro xs w8 ⟨hc8, rfl, hB8⟩
    intro _
    have X8 : Ext w w8 := X4.thenCh hc8 fun c hc => by omega
    refine iLd3 hB8 (iLd3 hB8 ?_)
    refine iRetQ (fun w' hw' => ok_spec_l35Is (e := entOf W) (by omega) w') ?_
    intro w22 x22
    have hQ8 : Blk t_impl_Entry w8 q2 _ := hQ4.ch hc8 (by omega)
    refine iSt3 (hQ8.ext x22) rfl rfl rfl rfl fun w23 hB23 hc23 => ?_
    intro w24 x24'
    refine iLd3 (hB23.ext x24') ⟨rfl, ((X8.trans x22).thenCh hc23 fun c hc => by omega).trans x24'⟩
end Go.Proofs.YtapdkkijoflcpaaGreatDoor

/- Contracts: the reference's journal: l35Open, l35Last. Conditions: none. -/
namespace Go.Vc
theorem gt_snoc {α : Type} [Inhabited α] (L : List α) (x : α) : gt (L ++ [x]) L.length = x := by unfold gt; simp
theorem gt_app {α : Type} [Inhabited α] {L M : List α} {k : Nat} (h : k < L.length) : gt (L ++ M) k = gt L k := by unfold gt; simp [List.getD_eq_getElem?_getD, List.getElem?_append_left h]
end Go.Vc
namespace Go.Proofs.YtapdkkijoflcpaaGreatDoor
open Go.Vc
/-- A row of rows of items, all of the call's own. -/
def HsW (lo : Nat) (w : World) (v : Value) (H : List (List Itm)) : Prop := ∃ xs, OwK 1 lo t_Simpl_Item w v H.length xs ∧ ∀ k, k < H.length → ∃ x, xs[k]? = some x ∧ isCell x = true ∧ ItW lo w x (gt H k)
theorem HsW.ext {lo : Nat} {w w' : World} {v : Value} {H : List (List Itm)} (h : HsW lo w v H) (x : Ext w w') : HsW lo w' v H :=
  let ⟨xs, h1, h2⟩ := h; ⟨xs, h1.ext x, fun k hk => let ⟨u, a, b, c⟩ := h2 k hk; ⟨u, a, b, c.ext x⟩⟩
theorem HsW.ch {S : Nat → Prop} {lo : Nat} {w w' : World} {v : Value} {H : List (List Itm)} (h : HsW lo w v H) (hc : Ch S w w') (h1 : ∀ c, v.ownBlock = some c → ¬ S c) (h2 : ∀ (x : Value) (L : List Itm), ItW lo w x L → ∀ c, x.ownBlock = some c → ¬ S c) : HsW lo w' v H :=
  let ⟨xs, k1, k2⟩ := h; ⟨xs, k1.ch hc h1, fun k hk => let ⟨u, a, b, c⟩ := k2 k hk; ⟨u, a, b, c.ch hc (h2 u _ c)⟩⟩
theorem HsW.cell {lo : Nat} {w : World} {v : Value} {H : List (List Itm)} (h : HsW lo w v H) : isCell v = true := let ⟨_, k1, _⟩ := h; OwK.cell k1
/-- An element of such a row. -/
theorem iHs {lo : Nat} {w : World} {v : Value} {H : List (List Itm)} {k : Nat} {ki : IntKind} {z : Int} {K : Value → Prop} (h : HsW lo w v H) (hz : z = (k : Int)) (hk : k < H.length) (hK : ∀ x, isCell x = true → ItW lo w x (gt H k) → K x) : xIa 1 v (.int ki z) fun p => xLd w p K := by
  subst hz
  obtain ⟨xs, h1, h2⟩ := h
  obtain ⟨x, hx, hc, hi⟩ := h2 k hk
  have hl := h1.len
  refine iIa (OwK.toOw h1).sl (by omega) (by omega) fun p hp => ?_
  rw [Int.toNat_natCast, hx] at hp
  exact iLd hp (hK x hc hi)
/-- What the reference knows of a journal. -/
structure LsW (w0 w : World) (vs ve : Value) (j : Jn) : Prop where
  st : HsW w0.heap.size w vs j.hist
  en : EnW w0.heap.size w ve j.ents
  ji : JI j.items
  hl : j.hist.length = j.ents.length + 1
  hx : gt j.hist j.ents.length = j.items
theorem LsW.ext {w0 w w' : World} {vs ve : Value} {j : Jn} (h : LsW w0 w vs ve j) (x : Ext w w') : LsW w0 w' vs ve j := ⟨h.st.ext x, h.en.ext x, h.ji, h.hl, h.hx⟩
theorem ok_spec_l35Last {w0 w : World} {vs ve : Value} {z : Int} {j : Jn} (h : LsW w0 w vs ve j) : Cal Tryz.prog f_spec_l35Last #[.agg #[vs, ve, .int .i64 z]] w fun r w' => Ext w w' ∧ ItW w0.heap.size w' r j.items := by
  apply c_spec_l35Last; unfold S_spec_l35Last
  refine iNew3 fun q w1 hq x1 hB => ?_
  refine iFa (iLdB hB rfl (iFa (iLdB hB rfl ?_)))
  have h1 := h.ext x1
  have hlen := h.hl
  have hb : j.hist.length ≤ 9223372036854775807 := by
    obtain ⟨xs, k1, _⟩ := h.st
    exact k1.sl.len
  obtain ⟨xs, k1, k2⟩ := h1.st
  refine iLenK k1.sl (iSub (by omega) ?_)
  refine iHs (k := j.ents.length) ⟨xs, k1, k2⟩ (by omega) (by omega) fun x hc hi => ?_
  rw [h.hx] at hi
  exact ⟨x1, hi⟩
theorem ok_spec_l35Open {t : Str} (ht : t.length ≤ 4194304) (w : World) : Cal Tryz.prog f_spec_l35Open #[sv t] w fun r w' =>
    Ext w w' ∧ ∃ vs ve, r = .agg #[vs, ve, .int .i64 ((openJ t).text.length : Int)] ∧ LsW w w' vs ve (openJ t) ∧ (openJ t).ents.length ≤ 60 ∧ t.take (openJ t).text.length = (openJ t).text := by
  apply c_spec_l35Open; unfold S_spec_l35Open
  refine iNew3 fun q2 w1 hq2 x1 hB2 => ?_
  refine iBs03 fun v11 w2 x2 ho11 => ?_
  refine iBs1 rfl ho11.cell fun q12 w3 hq12 x3 hB12 => ?_
  refine iBuild (cs := #[.slice (some ⟨q12, 0, none⟩) 1 1, .slice none 0 0, .int .i64 0]) (by simp [Instr.fill, Value.cells]) ?_
  refine iNew3 fun q3 w4 hq3 x4 hB3 => ?_
  refine iSt3 hB3 rfl rfl rfl rfl fun w5 hB5 hc5 => ?_
  have s1 := x1.size
  have s2 := x2.size
  have s3 := x3.size
  have X4 := ((x1.trans x2).trans x3).trans x4
  have X5 : Ext w w5 := X4.thenCh hc5 fun c hc => by omega
  have x35 : Ext w3 w5 := x4.thenCh hc5 fun c hc => by omega
  have hq23 : ¬ q2 = q3 := by omega
  have hlo3 : w.heap.size ≤ q3 := by omega
  have hlo2 : w.heap.size ≤ q2 := by omega
  have hQ5 : Blk 54 w5 q2 [.slice none 0 0, .slice none 0 0, .int .i64 0] := (((hB2.ext x2).ext x3).ext x4).ch hc5 hq23
  have hst5 : HsW w.heap.size w5 (.slice (some ⟨q12, 0, none⟩) 1 1) [[]] := by
    refine ⟨[v11], OwK.ofBlk (n := 1) (hB12.ext x35) (by omega) rfl (by omega), fun k hk => ?_⟩
    have : k = 0 := by simpa using hk
    subst this
    exact ⟨v11, rfl, ho11.cell, ((OwK.mono (lo' := w.heap.size) ho11 s1).ext x3).ext x35⟩
  have fin : ∀ {w' : World} {vs ve : Value} {j : Jn}, Ext w w' → Blk 54 w' q3 [vs, ve, .int .i64 (j.text.length : Int)] → Blk 54 w' q2 [.slice none 0 0, .slice none 0 0, .int .i64 0] → LsW w w' vs ve j → j = openJ t → j.ents.length ≤ 60 → t.take j.text.length = j.text →
      xLdA w' 3 (.pointer (some ⟨q3, 0, none⟩)) fun u => xStA Tryz.prog w' 3 (.pointer (some ⟨q2, 0, none⟩)) u fun w'' => xLdA w'' 3 (.pointer (some ⟨q2, 0, none⟩)) fun r =>
        Ext w w'' ∧ ∃ vs ve, r = .agg #[vs, ve, .int .i64 ((openJ t).text.length : Int)] ∧ LsW w w'' vs ve (openJ t) ∧ (openJ t).ents.length ≤ 60 ∧ t.take (openJ t).text.length = (openJ t).text := by
    intro w' vs ve j X hO hQ hL hj he htk
    subst hj
    refine iLd3 hO ?_
    refine iSt3 hQ rfl hL.st.cell hL.en.cell rfl fun w'' hQ' hc => ?_
    refine iLd3 hQ' ⟨X.thenCh hc fun c hc => by omega, vs, ve, rfl, ⟨hL.st.ch hc (fun c h1 h2 => ?_) (fun x L hi c h1 h2 => ?_), hL.en.ch hc fun c h1 h2 => ?_, hL.ji, hL.hl, hL.hx⟩, he, htk⟩
    · subst h2
      obtain ⟨xs, k1, _⟩ := hL.st
      exact k1.ne_blk hQ (by decide) h1
    · subst h2
      exact hi.ne_blk hQ (by decide) h1
    · subst h2
      exact hL.en.ne_blk hQ (by decide) h1
  refine iLp (fun s : (Nat × Nat) × Jn => [.int .i64 (s.1.1 : Int), .int .i64 (s.1.2 : Int)])
    (fun s w' => Ext w w' ∧ (∃ vs ve, Blk 54 w' q3 [vs, ve, .int .i64 (s.2.text.length : Int)] ∧ Blk 54 w' q2 [.slice none 0 0, .slice none 0 0, .int .i64 0] ∧ LsW w w' vs ve s.2) ∧
      s.1.1 = s.2.text.length ∧ s.1.1 ≤ s.1.2 ∧ s.1.2 ≤ t.length ∧ t.take s.1.1 = s.2.text ∧ (∀ k, s.1.1 ≤ k → k < s.1.2 → ¬ t.getD k 0 = 10) ∧ s.2.ents.length ≤ 60 ∧ readJ (60 - s.2.ents.length) (t.drop s.1.1) s.2 = openJ t)
    (fun s => t.length - s.1.2) ((0, 0), jn0) rfl ⟨X5, ⟨_, _, hB5, hQ5, hst5, OwK.nil _ _ _ _, JI.nil, rfl, rfl⟩, rfl, Nat.le_refl _, Nat.zero_le _, rfl, fun k h1 h2 => absurd h2 (Nat.not_lt_zero k), Nat.zero_le _, rfl⟩ ?_
  rintro ⟨⟨st, i⟩, j⟩ w7 Kn ⟨X7, ⟨vs, ve, hO, hQ, hL⟩, hst, hsi, hit, htk, hno, hen, hrd⟩ hKn
  have hO : Blk 54 w7 q3 [vs, ve, .int .i64 (j.text.length : Int)] := hO
  have hL : LsW w w7 vs ve j := hL
  have hst : st = j.text.length := hst
  have hsi : st ≤ i := hsi
  have hit : i ≤ t.length := hit
  have htk : t.take st = j.text := htk
  have hno : ∀ k, st ≤ k → k < i → ¬ t.getD k 0 = 10 := hno
  have hen : j.ents.length ≤ 60 := hen
  have hrd : readJ (60 - j.ents.length) (t.drop st) j = openJ t := hrd
  have htkj : t.take j.text.length = j.text := by rw [← hst]; exact htk
  intro _
  simp only [gx]
  refine iJnB (decide (i < t.length) && decide (j.ents.length < 60)) w7 (fun J hJ => ?_) (fun w9 x9 => ?_)
  · refine iLenT (iLt (iCndP (fun h => ?_) (fun h => ?_)))
    · rw [decide_eq_true (show i < t.length by omega), Bool.true_and] at hJ
      refine iFa (iLdB hO rfl (iLenK hL.en.sl (iLt ?_)))
      rw [show decide ((j.ents.length : Int) < 60) = decide (j.ents.length < 60) from decide_eq_decide.2 (by omega)]
      exact hJ _ (Ext.refl _)
    · rw [decide_eq_false (show ¬ i < t.length by omega), Bool.false_and] at hJ
      exact hJ _ (Ext.refl _)
  intro _
  simp only [gx]
  have X9 := X7.trans x9
  have hO9 := hO.ext x9
  have hQ9 := hQ.ext x9
  have hL9 := hL.ext x9
  refine iCnd (fun hb => ?_) (fun hb => ?_)
  rotate_left
  · rw [Bool.and_eq_false_iff, decide_eq_false_iff_not, decide_eq_false_iff_not] at hb
    refine fin X9 hO9 hQ9 hL9 ?_ hen htkj
    rcases hb with hb | hb
    · have hmiss : ∀ x ∈ t.drop st, x ≠ 10 := by
        intro x hx
        obtain ⟨k, hk, rfl⟩ := List.getElem_of_mem hx
        rw [List.length_drop] at hk
        rw [List.getElem_drop]
        have := hno (st + k) (by omega) (by omega)
        rwa [getD_lt' (by omega)] at this
      rw [readJ_miss hmiss] at hrd
      exact hrd
    · rw [show 60 - j.ents.length = 0 by omega] at hrd
      exact hrd
  rw [Bool.and_eq_true, decide_eq_true_eq, decide_eq_true_eq] at hb
  obtain ⟨hil, he60⟩ := hb
  refine iIs hil (iNe ?_)
  have hnum : decide (¬ ((t.getD i 0).toNat : Int) = 10) = decide (¬ t.getD i 0 = 10) := decide_eq_decide.2 (not_congr ⟨fun e => UInt8.toNat_inj.1 (by exact_mod_cast e), fun e => by rw [e]; rfl⟩)
  rw [hnum]
  refine iCndP (fun h10 => ?_) (fun h10 => ?_)
  · refine iAdd (by omega) ?_
    refine hKn ((st, i + 1), j) _ ⟨X9, ⟨vs, ve, hO9, hQ9, hL9⟩, hst, by show st ≤ i + 1; omega, hil, htk, fun k h1 h2 => ?_, hen, hrd⟩ (by show t.length - (i + 1) < t.length - i; omega)
    have h2 : k < i + 1 := h2
    by_cases e : k = i
    · rw [e]; exact h10
    · exact hno k h1 (by omega)
  have h10 : t.getD i 0 = 10 := Classical.not_not.1 h10
  -- the line
  obtain ⟨l, hl⟩ : ∃ l, l = (t.drop st).take (i - st) := ⟨_, rfl⟩
  have hll : l.length = i - st := by rw [hl, List.length_take, List.length_drop]; omega
  have htd : t.drop st = l ++ 10 :: t.drop (i + 1) := by
    conv => lhs; rw [← List.take_append_drop (i - st) (t.drop st), ← hl, List.drop_drop]
    rw [show st + (i - st) = i by omega, drop_getD hil, h10]
  have hl10 : ∀ x ∈ l, x ≠ 10 := by
    intro x hx
    obtain ⟨k, hk, rfl⟩ := List.getElem_of_mem hx
    have := hno (st + k) (by omega) (by omega)
    subst hl
    rw [List.getElem_take, List.getElem_drop]
    rwa [getD_lt' (by omega)] at this
  have hlg : ∀ k, k < l.length → l.getD k 0 = t.getD (st + k) 0 := by
    intro k hk
    subst hl
    rw [getD_lt' hk, getD_lt' (by omega), List.getElem_take, List.getElem_drop]
  obtain ⟨m, hm⟩ : ∃ m, 60 - j.ents.length = m + 1 := ⟨60 - j.ents.length - 1, by omega⟩
  rw [hm, htd, readJ_hit hl10, pStep_sStep] at hrd
  have hpl : lastP l ≤ l.length := endP_le l l.length
  have h32 : ∀ k, decide (¬ ((t.getD k 0).toNat : Int) = 32) = !decide (t.getD k 0 = 32) := fun k => by
    rw [← decide_not]
    exact decide_eq_decide.2 (not_congr ⟨fun e => UInt8.toNat_inj.1 (by exact_mod_cast e), fun e => by rw [e]; rfl⟩)
  refine iLp (fun e : Nat => [.int .i64 (e : Int)]) (fun e w' => Ext w9 w' ∧ st ≤ e ∧ e ≤ i ∧ endP l (e - st) = lastP l) (fun e => e - st) i rfl ⟨Ext.refl _, hsi, Nat.le_refl _, by rw [show i - st = l.length by omega]; rfl⟩ ?_
  rintro e w11 Kn2 ⟨x11, hse, hei, hep⟩ hKn2
  intro _
  simp only [gx]
  refine iJnB (decide (st < e) && !decide (t.getD e 0 = 32)) w11 (fun J hJ => ?_) (fun w13 x13 => ?_)
  · refine iLt (iCndP (fun h => ?_) (fun h => ?_))
    · rw [decide_eq_true (show st < e by omega), Bool.true_and] at hJ
      refine iIs (by omega) (iNe ?_)
      rw [h32]
      exact hJ _ (Ext.refl _)
    · rw [decide_eq_false (show ¬ st < e by omega), Bool.false_and] at hJ
      exact hJ _ (Ext.refl _)
  intro _
  simp only [gx]
  have x913 := x11.trans x13
  refine iCnd (fun hc => ?_) (fun hc => ?_)
  · rw [Bool.and_eq_true, decide_eq_true_eq, Bool.not_eq_true', decide_eq_false_iff_not] at hc
    refine iSub (by omega) ?_
    rw [show (e : Int) - 1 = ((e - 1 : Nat) : Int) by omega]
    refine hKn2 (e - 1) _ ⟨x913, by omega, by omega, ?_⟩ (by omega)
    rw [← hep]
    obtain ⟨k, hk⟩ : ∃ k, e - st = k + 1 := ⟨e - st - 1, by omega⟩
    rw [hk, show e - 1 - st = k by omega, endP, if_neg]
    rcases Nat.lt_or_ge (k + 1) l.length with h | h
    · rw [hlg _ h, show st + (k + 1) = e by omega]; exact hc.2
    · simp [List.getD_eq_getElem?_getD, List.getElem?_eq_none h]
  have hpe : e = st + lastP l := by
    rw [Bool.and_eq_false_iff, decide_eq_false_iff_not, Bool.not_eq_false', decide_eq_true_eq] at hc
    rcases hc with hc | hc
    · rw [show e - st = 0 by omega] at hep
      have : lastP l = 0 := hep.symm
      omega
    · rcases Nat.eq_zero_or_pos (e - st) with h0 | h0
      · rw [h0] at hep
        have : lastP l = 0 := hep.symm
        omega
      · obtain ⟨k, hk⟩ : ∃ k, e - st = k + 1 := ⟨e - st - 1, by omega⟩
        have hne : e ≠ i := fun h => by rw [h, h10] at hc; cases hc
        rw [hk, endP, if_pos (by rw [hlg _ (by omega), show st + (k + 1) = e by omega]; exact hc)] at hep
        omega
  have tg : ∀ p, p ≤ l.length → e = st + p → (t.drop st).take (e - st) = l.take p ∧ (t.drop e).take (i - e) = l.drop p := fun p hp he => by
    constructor
    · rw [hl, List.take_take, Nat.min_eq_left (by omega)]; congr 1; omega
    · rw [hl, List.drop_take, List.drop_drop, ← he]; congr 1; omega
  obtain ⟨t1, t2⟩ := tg _ hpl hpe
  have t3 : t.take e = j.text ++ l.take (lastP l) := by
    rw [hpe, List.take_add, htk, ← t1, hpe]; congr 2; omega
  refine iTxSub (i := st) (j := e) hse (by omega) ?_
  rw [t1]
  refine iRet (ok_spec_l35Parse (by rw [List.length_take]; omega) w13) fun w14 x14 => iE20 (iE21 ?_)
  obtain ⟨en, hen'⟩ : ∃ en, en = entOf (splitT 32 (l.take (lastP l))) := ⟨_, rfl⟩
  rw [← hen']
  have hss : sStep j l = if entB en && decide (l.drop (lastP l) = 32 :: decT (chkT 11 (j.text ++ l.take (lastP l)))) then (stepI j.items en).map fun L => ⟨L, j.ents ++ [en], j.text ++ (l ++ [10]), j.hist ++ [L]⟩ else none := by rw [hen']; rfl
  refine iNew3 fun q7 w15 hq7 x15 hB15 => ?_
  refine iSt3 hB15 rfl rfl rfl rfl fun w16 hB16 hc16 => ?_
  have x914 := x913.trans x14
  have s914 := x914.size
  have x916 : Ext w9 w16 := (x914.trans x15).thenCh hc16 fun c hc => by omega
  have X16 := X9.trans x916
  have hL16 := hL9.ext x916
  have hO16 := hO9.ext x916
  have hQ16 := hQ9.ext x916
  refine iJnB (!(entB en && decide (l.drop (lastP l) = 32 :: decT (chkT 11 (j.text ++ l.take (lastP l)))))) w16 (fun J hJ => ?_) (fun w18 x18 => ?_)
  · refine iNot (iCnd (fun he => ?_) (fun he => ?_))
    · intro w19 x19
      rw [Bool.not_eq_true'] at he
      rw [he, Bool.false_and] at hJ
      exact hJ _ x19
    · rw [Bool.not_eq_false'] at he
      rw [he, Bool.true_and] at hJ
      refine iTxSub (i := e) (j := i) hei hit ?_
      refine iTxTo (j := e) (by omega) ?_
      rw [t2, t3]
      have hlc : (j.text ++ l.take (lastP l)).length ≤ 1099511627776 := by rw [← t3, List.length_take]; omega
      refine iRetQ (fun w' _ => ok_spec_l35Check hlc w') ?_
      have hck := chkT_lt (show 11 < 999983 by omega) (j.text ++ l.take (lastP l))
      refine iRetQ (fun w' _ => ok_spec_l01Dec (by omega) w') ?_
      have hdl := decT_len (chkT 11 (j.text ++ l.take (lastP l)))
      refine iCat (a := [32]) (by simp only [List.length_cons, List.length_nil]; omega) ?_
      refine iNeT ?_
      intro w20 x20
      rw [← decide_not] at hJ
      exact hJ _ x20
  intro _
  simp only [gx]
  have X18 := X16.trans x18
  refine iCnd (fun hbad => ?_) (fun hgood => ?_)
  · rw [Bool.not_eq_true'] at hbad
    rw [hss, hbad] at hrd
    exact fin X18 (hO16.ext x18) (hQ16.ext x18) (hL16.ext x18) hrd hen htkj
  rw [Bool.not_eq_false'] at hgood
  rw [hss, hgood, if_pos rfl] at hrd
  have hL18 := hL16.ext x18
  have hB18 := hB16.ext x18
  refine iFa (iLdB (hO16.ext x18) rfl (iFa (iLdB (hO16.ext x18) rfl ?_)))
  have hhl := hL.hl
  obtain ⟨xs, k1, k2⟩ := hL18.st
  have hxl := k1.len
  refine iLenK k1.sl (iSub (by omega) ?_)
  refine iHs (k := j.ents.length) ⟨xs, k1, k2⟩ (by omega) (by omega) fun x hcx hix => ?_
  rw [hL.hx] at hix
  refine iLd3 hB18 ?_
  intro w23 x23
  have X23 := X18.trans x23
  refine iCall ((ok_spec_l35Apply (e := en) (hix.ext x23).sl hL.ji).mono ?_)
  rintro r w24 ⟨x24, v', hm'⟩
  have x1624 := (x18.trans x23).trans x24
  cases hsp : stepI j.items en with
  | none =>
    rw [hsp] at hm' hrd
    subst hm'
    refine iE20 (iE21 ?_)
    intro w25 x25
    refine iNot (iCndT rfl ?_)
    have x1625 := x1624.trans x25
    exact fin (X16.trans x1625) (hO16.ext x1625) (hQ16.ext x1625) (hL16.ext x1625) hrd hen htkj
  | some L' =>
    rw [hsp] at hm' hrd
    obtain ⟨rfl, hi24⟩ := hm'
    have hJ' := stepI_JI hL.ji (by rw [Bool.and_eq_true] at hgood; exact hgood.1) hsp
    refine iE20 (iE21 ?_)
    intro w25 x25
    refine iNot (iCndF rfl ?_)
    have x1625 := x1624.trans x25
    have X25 := X16.trans x1625
    have hO25 := hO16.ext x1625
    have hQ25 := hQ16.ext x1625
    have hB25 := hB16.ext x1625
    have hL25 := hL16.ext x1625
    have hi25 : ItW w.heap.size w25 v' L' := (OwK.mono (lo' := w.heap.size) hi24 X23.size).ext x25
    refine iFa (iLdB hO25 rfl ?_)
    refine iBs1 rfl hi25.cell fun q28 w28 hq28 x28 hB28 => ?_
    obtain ⟨ys, m1, m2⟩ := hL25.st.ext x28
    have hyl := m1.len
    have X28 := X25.trans x28
    refine iAppK u_SSimpl_Item i_SSimpl_Item rfl (by omega) m1 (OwK.ofBlk (k := 1) (lo := 0) (n := 1) hB28 (Nat.zero_le _) rfl (by omega)).sl (by intro u hu; simp at hu; rw [hu]; exact hi25.cell) (by omega) (by omega) X28.size fun v29 w29 ho29 hg29 hb29 => ?_
    have hc29 : Ch (fun c => vs.ownBlock = some c) w28 w29 := grown_ch hg29 fun c hc => hc
    have X29 : Ext w w29 := X28.thenCh hc29 fun c hc => (m1.blk c hc).1
    have itk : ∀ (x : Value) (L : List Itm), ItW w.heap.size w28 x L → ItW w.heap.size w29 x L := fun x L h => h.ch hc29 fun c h1 h2 => h.ne_own m1 (by decide) c h1 h2
    have hO29 : Blk 54 w29 q3 _ := (hO25.ext x28).ch hc29 (m1.ne_blk (hO25.ext x28) (by decide))
    have hQ29 : Blk 54 w29 q2 _ := (hQ25.ext x28).ch hc29 (m1.ne_blk (hQ25.ext x28) (by decide))
    have hB29 : Blk t_impl_Entry w29 q7 en.cs := (hB25.ext x28).ch hc29 (m1.ne_blk (hB25.ext x28) (by decide))
    have hE29 : EnW w.heap.size w29 ve j.ents := (hL25.en.ext x28).ch hc29 fun c h1 h2 => (hL25.en.ext x28).ne_own m1 (by decide) c h1 h2
    have hH29 : HsW w.heap.size w29 v29 (j.hist ++ [L']) := by
      refine ⟨ys ++ [v'], by rw [List.length_append]; exact ho29, fun k hk => ?_⟩
      rw [List.length_append] at hk
      rcases Nat.lt_or_ge k j.hist.length with h | h
      · obtain ⟨x', a1, a2, a3⟩ := m2 k h
        exact ⟨x', by rw [List.getElem?_append_left (by omega)]; exact a1, a2, by rw [gt_app h]; exact itk _ _ a3⟩
      · have hk' : k = j.hist.length := by simp only [List.length_cons, List.length_nil] at hk; omega
        subst hk'
        exact ⟨v', by rw [List.getElem?_append_right (by omega)]; simp [show j.hist.length - ys.length = 0 by omega], hi25.cell, by rw [gt_snoc]; exact itk _ _ (hi25.ext x28)⟩
    refine iFa (iStU hO29 (by simp) hH29.cell fun w30 hO30 hu30 => ?_)
    have c30 : Ch (fun c => c = q3) w29 w30 := hu30.ch rfl
    have hE30 : EnW w.heap.size w30 ve j.ents := hE29.ch c30 fun c h1 h2 => by subst h2; exact hE29.ne_blk hO29 (by decide) h1
    have hH30 : HsW w.heap.size w30 v29 (j.hist ++ [L']) := by
      obtain ⟨zs, z1, z2⟩ := hH29
      exact HsW.ch ⟨zs, z1, z2⟩ c30 (fun c h1 h2 => by subst h2; exact z1.ne_blk hO29 (by decide) h1) fun x L hi c h1 h2 => by subst h2; exact hi.ne_blk hO29 (by decide) h1
    have hB30 : Blk t_impl_Entry w30 q7 en.cs := hB29.ch c30 (by have := X9.size; have := X5.size; have := heap_lt hO9; omega)
    have hQ30 : Blk 54 w30 q2 [.slice none 0 0, .slice none 0 0, .int .i64 0] := hQ29.ch c30 hq23
    have X30 : Ext w w30 := X29.thenCh c30 fun c hc => by omega
    refine iFa (iLdB hO30 rfl ?_)
    refine iLd3 hB30 ?_
    refine iBs31 fun q31 w31 hq31 x31 hB31 => ?_
    have X31 := X30.trans x31
    have hE31 : EnW w.heap.size w31 ve j.ents := hE30.ext x31
    refine iAppK u_Simpl_Entry i_Simpl_Entry rfl (by omega) hE31 (OwK.ofBlk (k := 3) (lo := 0) (n := 1) hB31 (Nat.zero_le _) rfl (by omega)).sl (by intro u hu; simp at hu; rcases hu with rfl | rfl | rfl <;> rfl) (by omega) (by omega) X31.size fun v32 w32 ho32 hg32 hb32 => ?_
    have hc32 : Ch (fun c => ve.ownBlock = some c) w31 w32 := grown_ch hg32 fun c hc => hc
    have X32 : Ext w w32 := X31.thenCh hc32 fun c hc => (hE31.blk c hc).1
    have hO32 : Blk 54 w32 q3 _ := (hO30.ext x31).ch hc32 (hE31.ne_blk (hO30.ext x31) (by decide))
    have hQ32 : Blk 54 w32 q2 _ := (hQ30.ext x31).ch hc32 (hE31.ne_blk (hQ30.ext x31) (by decide))
    have hH32 : HsW w.heap.size w32 v29 (j.hist ++ [L']) := by
      obtain ⟨zs, z1, z2⟩ := hH30.ext x31
      exact HsW.ch ⟨zs, z1, z2⟩ hc32 (fun c h1 h2 => z1.ne_own hE31 (by decide) c h1 h2) fun x L hi c h1 h2 => hi.ne_own hE31 (by decide) c h1 h2
    have hE32 : EnW w.heap.size w32 v32 (j.ents ++ [en]) := by
      show OwK 3 _ _ w32 v32 (j.ents ++ [en]).length (cellsE (j.ents ++ [en]))
      rw [List.length_append, cellsE_app]
      exact ho32
    refine iFa (iStU hO32 (by simp) hE32.cell fun w33 hO33 hu33 => ?_)
    refine iAdd (by omega) ?_
    refine iFa (iStU hO33 (by simp) rfl fun w34 hO34 hu34 => ?_)
    refine iAdd (by omega) ?_
    have c34 : Ch (fun c => c = q3) w32 w34 := (hu33.ch (S := fun c => c = q3) rfl).trans (hu34.ch (S := fun c => c = q3) rfl) fun _ h => .inl h
    have X34 : Ext w w34 := X32.thenCh c34 fun c hc => by omega
    have hpx : (j.text ++ (l ++ [10])).length = i + 1 := by simp only [List.length_append, List.length_cons, List.length_nil]; omega
    refine hKn ((i + 1, i + 1), ⟨L', j.ents ++ [en], j.text ++ (l ++ [10]), j.hist ++ [L']⟩) _ ⟨X34, ⟨v29, v32, ?_, hQ32.ch c34 hq23, ⟨?_, ?_, hJ', ?_, ?_⟩⟩, hpx.symm, Nat.le_refl _, hil, ?_, fun k h1 h2 => ?_, ?_, ?_⟩ (by show t.length - (i + 1) < t.length - i; omega)
    · show Blk _ w34 q3 [v29, v32, .int .i64 ((j.text ++ (l ++ [10])).length : Int)]
      rw [hpx]
      exact hO34
    · obtain ⟨zs, z1, z2⟩ := hH32
      exact HsW.ch ⟨zs, z1, z2⟩ c34 (fun c h1 h2 => by subst h2; exact z1.ne_blk hO32 (by decide) h1) fun x L hi c h1 h2 => by subst h2; exact hi.ne_blk hO32 (by decide) h1
    · exact OwK.ch hE32 c34 fun c h1 h2 => by subst h2; exact hE32.ne_blk hO32 (by decide) h1
    · show (j.hist ++ [L']).length = (j.ents ++ [en]).length + 1
      rw [List.length_append, List.length_append, hhl]; rfl
    · show gt (j.hist ++ [L']) (j.ents ++ [en]).length = L'
      rw [List.length_append, show j.ents.length + [en].length = j.hist.length by rw [hhl]; rfl, gt_snoc]
    · show t.take (i + 1) = j.text ++ (l ++ [10])
      rw [show i + 1 = st + (l.length + 1) by omega, List.take_add, htk, htd]
      congr 1
      rw [List.take_append, List.take_of_length_le (by omega)]
      simp
    · have h1 : i + 1 ≤ k := h1
      have h2 : k < i + 1 := h2
      omega
    · show (j.ents ++ [en]).length ≤ 60
      rw [List.length_append]; simp only [List.length_cons, List.length_nil]; omega
    · show readJ (60 - (j.ents ++ [en]).length) (t.drop (i + 1)) _ = openJ t
      rw [List.length_append, show 60 - (j.ents.length + [en].length) = m by simp only [List.length_cons, List.length_nil]; omega]
      exact hrd
end Go.Proofs.YtapdkkijoflcpaaGreatDoor

/- Contracts: FindItem and SetByLine in the program and in the reference, and their laws. Conditions: the table of powers of ten. -/
namespace Go.Vc
end Go.Vc
namespace Go.Proofs.YtapdkkijoflcpaaGreatDoor
open Go.Vc
end Go.Proofs.YtapdkkijoflcpaaGreatDoor

/- Contracts: SetByLine, AppendEntry in the program and in the reference, and their laws. Conditions: the table of powers of ten. -/
namespace Go.Vc
noncomputable def addC (j : Jn) (e : Ent) : Int := if entB e = false then 1 else match stepI j.items e with
  | none => 5
  | some _ => if j.ents.length = 60 ∨ 6000 < (j.text ++ lineC j.chk e).length then 3 else 0
noncomputable def appT (j : Jn) (e : Ent) : Str := if addC j e = 0 then j.text ++ lineC j.chk e else []
end Go.Vc
namespace Go.Proofs.YtapdkkijoflcpaaGreatDoor
open Go.Vc
end Go.Proofs.YtapdkkijoflcpaaGreatDoor

/- Contracts: AppendEntry in the program and in the reference, and its law. Conditions: the table of powers of ten. -/
namespace Go.Vc
theorem addC_lim (j : Jn) (e : Ent) (h : entB e = true) {L' : List Itm} (hst : stepI j.items e = some L') : addC j e = if j.ents.length = 60 ∨ 6000 < (j.text ++ lineC j.chk e).length then 3 else 0 := by
  unfold addC
  rw [if_neg (by rw [h]; decide), hst]
end Go.Vc
namespace Go.Proofs.YtapdkkijoflcpaaGreatDoor
open Go.Vc
theorem ok_impl_journal_add {w0 w : World} {b : Nat} {vi ve : Value} {j : Jn} {e : Ent} (h0 : Ext w0 w) (hj : JnW w0 w b vi ve j) (hl : e.sz ≤ 4294967296) (hn : j.ents.length ≤ 1048576) (ht : j.text.length ≤ 68719476736) (hT : TabOk w0) :
    Cal Tryz.prog f_impl_journal_add #[.pointer (some ⟨b, 0, none⟩), e.val] w fun r w' => Ext w0 w' ∧ r = .int .i64 (addC j e) ∧ (addC j e = 0 → ∃ j' vi' ve', addJ j e = some j' ∧ JnW w0 w' b vi' ve' j') := by
  apply c_impl_journal_add; unfold S_impl_journal_add
  refine iNew3 fun q w1 hq x1 hQ => ?_
  refine iLd3 hQ ?_
  refine iRet (ok_impl_isEntry (e := e) (by omega) w1) fun w2 x2 => ?_
  have X2 := x1.trans x2
  have hj2 := hj.ext X2
  have hQ2 := hQ.ext x2
  refine iNot (iCnd (fun hb => ?_) (fun hb => ?_))
  · rw [Bool.not_eq_true'] at hb
    have hc : addC j e = 1 := by unfold addC; rw [if_pos hb]
    rw [hc]
    exact ⟨h0.trans X2, rfl, fun h => by cases h⟩
  rw [Bool.not_eq_false'] at hb
  have keepB : ∀ {w' : World} {q : Nat} {t : TypeId} {cs : List Value}, Blk t w2 q cs → Ch (fun _ => False) w2 w' → Blk t w' q cs := fun h hc => h.ch hc fun h => h
  refine ⟨fun _ => False, ?_⟩
  refine iNil (iFa (iLdB hj2.blk rfl ⟨fun w4 hc => iLdB (keepB hj2.blk hc) rfl rfl, ?_⟩))
  refine iLenK hj2.en.sl ?_
  refine iNil (iFa (iLdB hj2.blk rfl ⟨fun w5 hc => iLdB (keepB hj2.blk hc) rfl rfl, ?_⟩))
  refine iLenT ?_
  refine iLd3 hQ2 ⟨fun w6 hc => iLd3 (keepB hQ2 hc) rfl, ?_⟩
  intro w7 x7
  have hj7 := hj2.ext x7
  refine iRet (ok_impl_journal_line (e := e) hj7.blk (jn_chk_lt j) (by omega) (hT.ext ((h0.trans X2).trans x7))) fun w8 x8 => ⟨x8.ch, ?_⟩
  have hlc := lineC_len (jn_chk_lt j) e
  refine iLenT (iAdd (by omega) ?_)
  intro w9 x9
  have X9 := ((x7.trans x8).trans x9)
  refine iLd3 (hQ2.ext X9) ?_
  refine iCall ((ok_impl_journal_enter (e := e) ((h0.trans X2).trans X9) (hj2.ext X9) hb hl hn ht hT).mono ?_)
  rintro r w10 ⟨X10, hm⟩
  cases hst : stepI j.items e with
  | none =>
    have had : addJ j e = none := by unfold addJ; rw [hst]; rfl
    have hc : addC j e = 5 := by unfold addC; rw [if_neg (by rw [hb]; decide), hst]
    rw [had] at hm
    obtain ⟨rfl, -⟩ := hm
    rw [hc]
    exact iNot (iCndT rfl ⟨X10, rfl, fun h => by cases h⟩)
  | some L' =>
    have had : addJ j e = some ⟨L', j.ents ++ [e], j.text ++ lineC j.chk e, j.hist ++ [L']⟩ := by unfold addJ; rw [hst]; rfl
    have hc := addC_lim j e hb hst
    rw [had] at hm
    obtain ⟨rfl, vi', ve', hj'⟩ := hm
    refine iNot (iCndF rfl ?_)
    refine iJnB (decide (j.ents.length = 60 ∨ 6000 < (j.text ++ lineC j.chk e).length)) w10 (fun J hJ => ?_) (fun w12 x12 => ?_)
    · rw [List.length_append] at hJ
      refine iEq (iCndP (fun h => ?_) (fun h => ?_))
      · rw [decide_eq_true (show j.ents.length = 60 ∨ 6000 < j.text.length + (lineC j.chk e).length from .inl (by omega))] at hJ
        exact hJ _ (Ext.refl _)
      · refine iLt ?_
        rw [show decide ((6000 : Int) < (j.text.length : Int) + ((lineC j.chk e).length : Int)) = decide (j.ents.length = 60 ∨ 6000 < j.text.length + (lineC j.chk e).length) from decide_eq_decide.2 (by omega)]
        exact hJ _ (Ext.refl _)
    intro _
    simp only [gx]
    refine iCndP (fun h => ?_) (fun h => ?_)
    · rw [hc, if_pos h]
      exact ⟨X10.trans x12, rfl, fun h => by cases h⟩
    · rw [hc, if_neg h]
      exact ⟨X10.trans x12, rfl, fun _ => ⟨_, vi', ve', had, hj'.ext x12⟩⟩
theorem ok_impl_AppendEntry {t : Str} {e : Ent} (ht : t.length ≤ 4194304) (hl : e.sz ≤ 4294967296) {w : World} (hT : TabOk w) : Ret Tryz.prog f_impl_AppendEntry #[sv t, e.val] w (.tuple #[sv (appT (openJ t) e), .int .i64 (addC (openJ t) e)]) := by
  apply c_impl_AppendEntry; unfold S_impl_AppendEntry
  refine iNew3 fun q w1 hq x1 hQ => ?_
  refine iCall ((ok_impl_goodPart ht (hT.ext x1)).mono ?_)
  rintro r w2 ⟨x2, b, vi, ve, rfl, hj, hen, htl⟩
  refine iLd3 (hQ.ext x2) ?_
  refine iCall ((ok_impl_journal_add (e := e) x2 hj hl (by omega) (by omega) (hT.ext x1)).mono ?_)
  rintro r w3 ⟨X3, rfl, hz⟩
  refine iNe (iCndP (fun h => ?_) (fun h => ?_))
  · refine ⟨?_, x1.trans X3⟩
    unfold appT
    rw [if_neg h]
  · have h : addC (openJ t) e = 0 := Classical.not_not.1 h
    obtain ⟨j', vi', ve', had, hj'⟩ := hz h
    refine iNil (iFa (iLdB hj'.blk rfl ⟨?_, x1.trans X3⟩))
    have hjt : j'.text = (openJ t).text ++ lineC (openJ t).chk e := by
      unfold addJ at had
      cases hst : stepI (openJ t).items e with
      | none => rw [hst] at had; cases had
      | some L' => rw [hst] at had; cases had; rfl
    unfold appT
    rw [if_pos h, h, hjt]
theorem ok_spec_AppendEntry {t : Str} {e : Ent} (ht : t.length ≤ 4194304) (hl : e.sz ≤ 4294967296) (w : World) : Ret Tryz.prog f_spec_AppendEntry #[sv t, e.val] w (.tuple #[sv (appT (openJ t) e), .int .i64 (addC (openJ t) e)]) := by
  apply c_spec_AppendEntry; unfold S_spec_AppendEntry
  refine iNew3 fun q w1 hq x1 hQ => ?_
  refine iLd3 hQ ?_
  refine iRet (ok_spec_l35Is (e := e) (by omega) w1) fun w2 x2 => ?_
  have X2 := x1.trans x2
  have hQ2 := hQ.ext x2
  refine iNot (iCnd (fun hb => ?_) (fun hb => ?_))
  · rw [Bool.not_eq_true'] at hb
    have hc : addC (openJ t) e = 1 := by unfold addC; rw [if_pos hb]
    refine ⟨?_, X2⟩
    unfold appT
    rw [hc]; rfl
  rw [Bool.not_eq_false'] at hb
  refine iCall ((ok_spec_l35Open ht w2).mono ?_)
  rintro r w3 ⟨x3, vs, ve, rfl, hL, hen, htk⟩
  refine iNew3 fun q6 w4 hq6 x4 hB4 => ?_
  refine iSt3 hB4 rfl hL.st.cell hL.en.cell rfl fun w5 hB5 hc5 => ?_
  have s2 := X2.size
  have s3 := x3.size
  have x25 : Ext w2 w5 := (x3.trans x4).thenCh hc5 fun c hc => by omega
  have x35 : Ext w3 w5 := x4.thenCh hc5 fun c hc => by omega
  have hQ5 := hQ2.ext x25
  refine iLd3 hB5 (iLd3 hQ5 ?_)
  intro w6 x6
  refine iCall ((ok_spec_l35Last (hL.ext (x35.trans x6))).mono ?_)
  rintro v17 w7 ⟨x7, hi⟩
  refine ⟨x7, ?_⟩
  intro w8 x8
  refine iCall ((ok_spec_l35Apply (e := e) (hi.ext x8).sl hL.ji).mono ?_)
  rintro r w9 ⟨x9, v', hm⟩
  have hm' : r = .tuple #[v', .bool (stepI (openJ t).items e).isSome] := by
    cases hst : stepI (openJ t).items e with
    | none => rw [hst] at hm; exact hm
    | some L' => rw [hst] at hm; exact hm.1
  subst hm'
  refine iE20 (iE21 ?_)
  intro w10 x10
  have x510 := (((x6.trans x7).trans x8).trans x9).trans x10
  have hB10 := hB5.ext x510
  have htl : (openJ t).text.length ≤ t.length := by
    have := congrArg List.length htk
    rw [List.length_take] at this; omega
  refine iFa (iLdB hB10 rfl ?_)
  refine iTxTo htl ?_
  rw [htk]
  refine iLd3 (hQ5.ext x510) ?_
  refine iRetQ (fun w' _ => ok_spec_l35Put (e := e) (by omega) (by omega) w') ?_
  intro w11 x11
  have X11 := (X2.trans x25).trans (x510.trans x11)
  have hlc := lineC_len (jn_chk_lt (openJ t)) e
  cases hst : stepI (openJ t).items e with
  | none =>
    have hc : addC (openJ t) e = 5 := by unfold addC; rw [if_neg (by rw [hb]; decide), hst]
    refine iNot (iCndT rfl ⟨?_, X11⟩)
    unfold appT
    rw [hc]; rfl
  | some L' =>
    have hc := addC_lim (openJ t) e hb hst
    refine iNot (iCndF rfl ?_)
    refine iJnB (decide ((openJ t).ents.length = 60 ∨ 6000 < ((openJ t).text ++ lineC (openJ t).chk e).length)) w11 (fun J hJ => ?_) (fun w13 x13 => ?_)
    · refine iFa (iLdB (hB10.ext x11) rfl ?_)
      refine iLenK (hL.en.ext ((x35.trans x510).trans x11)).sl (iLe (iCndP (fun h => ?_) (fun h => ?_)))
      · rw [decide_eq_true (.inl (by omega))] at hJ
        exact hJ _ (Ext.refl _)
      · refine iLenT (iLt ?_)
        rw [show decide ((6000 : Int) < (((openJ t).text ++ lineC (chkT 11 (openJ t).text) e).length : Int)) = decide ((openJ t).ents.length = 60 ∨ 6000 < ((openJ t).text ++ lineC (openJ t).chk e).length) from decide_eq_decide.2 ⟨fun h => .inr (by have : (openJ t).chk = chkT 11 (openJ t).text := rfl; rw [this]; omega), fun h2 => by
          have : (openJ t).chk = chkT 11 (openJ t).text := rfl
          rw [this] at h2; omega⟩]
        exact hJ _ (Ext.refl _)
    intro _
    simp only [gx]
    refine iCndP (fun h => ?_) (fun h => ?_)
    · refine ⟨?_, X11.trans x13⟩
      rw [if_pos h] at hc
      unfold appT
      rw [hc]; rfl
    · refine ⟨?_, X11.trans x13⟩
      rw [if_neg h] at hc
      unfold appT
      rw [if_pos hc, hc]; rfl
end Go.Proofs.YtapdkkijoflcpaaGreatDoor

/- Contracts: damaged texts, drawn entries and journals. Conditions: none. -/
namespace Go.Vc
theorem appT_len {j : Jn} {e : Ent} : (appT j e).length ≤ 6000 := by
  unfold appT
  split
  · rename_i h
    unfold addC at h
    split at h
    · omega
    · cases hs : stepI j.items e with
      | none => rw [hs] at h; simp at h
      | some L =>
        rw [hs] at h
        have h : (if j.ents.length = 60 ∨ 6000 < (j.text ++ lineC j.chk e).length then (3 : Int) else 0) = 0 := h
        by_cases hc : j.ents.length = 60 ∨ 6000 < (j.text ++ lineC j.chk e).length
        · rw [if_pos hc] at h; omega
        · omega
  · simp
theorem len_all {L : List Str} {m : Nat} (h : ∀ t ∈ L, t.length ≤ m) {i : Nat} (hi : i < L.length) : (L[i]).length ≤ m := h _ (List.getElem_mem hi)
theorem iBs3D {w : World} {e : TypeId} {a b c : Int} {K : Value → World → Prop} (h : ∀ bb w', bb = w.heap.size ∧ w'.heap.size = bb + 1 → Ext w w' → Blk e w' bb (ints [a, b, c]) → K (.slice (some ⟨bb, 0, none⟩) 3 3) w') :
    xBs e (Value.cells (.int .i64 0)) 1 3 [(0, .int .i64 a), (1, .int .i64 b), (2, .int .i64 c)] w K := by
  refine ⟨#[.int .i64 a, .int .i64 b, .int .i64 c], ?_, h _ _ ⟨rfl, by simp⟩ (Ext.alloc w _) (Blk.new w #[.int .i64 a, .int .i64 b, .int .i64 c] e)⟩
  simp [Instr.fill, Value.cells, show Array.range 3 = #[0, 1, 2] from rfl]
end Go.Vc
namespace Go.Proofs.YtapdkkijoflcpaaGreatDoor
open Go.Vc
def dmgTexts : List Str := [[112], [113], [70], [84], [126], [38], [124], [62], [40], [41], [91, 93], [60, 62], [32], [44], [59], [48], [49], [46], [91], [60], [120], [10]]
theorem ok_spec_l01Damage {e : TypeId} {w0 : World} {vc : Value} {bs : List Nat} (hc : SlB w0 vc bs) {b : Nat} {t : Str} (ht : t.length ≤ 1000000) {w : World} (hS : Vc.Src e w0 vc b w) :
    Drw Tryz.prog f_spec_l01Damage #[.pointer (some ⟨b, 0, none⟩), sv t] e w0 vc b w fun r _ => ∃ t' : Str, r = sv t' ∧ t'.length ≤ t.length + 2 := by
  apply c_spec_l01Damage; unfold S_spec_l01Damage
  refine iBsC dmgTexts (by kernel_rfl) fun q w1 hq x1 hT => ?_
  have hS1 := hS.later x1
  have hC1 : Ch (fun c => c = b) w w1 := x1.ch (S := fun c => c = b)
  have hqb : ¬ q = b := by have := hS.lt; omega
  refine iLenStr (hT.slt (n := 22) rfl (by decide)) ?_
  refine iCall ((ok_spec_l01Next hc hS1 _).mono ?_)
  rintro _ w2 ⟨⟨y, rfl, hy, _⟩, hS2, hch2⟩
  have hy := hy (by decide)
  have hyl : y < dmgTexts.length := by omega
  have hC2 := ch_self hC1 hch2
  refine iIaT ((hT.ch hch2 hqb).slt (n := 22) rfl (by decide)) hyl fun p hp => ?_
  refine iLd hp ?_
  have hlen : (dmgTexts[y]).length ≤ 2 := len_all (show ∀ t ∈ dmgTexts, t.length ≤ 2 by decide) hyl
  generalize dmgTexts[y] = s at *
  refine iLenT (iEq (iCndP (fun h0 => ?_) (fun h0 => ?_)))
  · exact ⟨⟨s, rfl, by omega⟩, hS2, hC2⟩
  refine iLenT ?_
  refine iCall ((ok_spec_l01Next hc hS2 _).mono ?_)
  rintro _ w3 ⟨⟨k, rfl, hk, _⟩, hS3, hch3⟩
  have hk := hk (by omega)
  have hkt : k < t.length := by omega
  have hC3 := ch_self hC2 hch3
  refine iCall ((ok_spec_l01Next hc hS3 3).mono ?_)
  rintro _ w4 ⟨⟨x, rfl, _, _⟩, hS4, hch4⟩
  have hC4 := ch_self hC3 hch4
  have e1 : (k : Int) + 1 = ((k + 1 : Nat) : Int) := by omega
  refine iEq (iCndP (fun _ => ?_) (fun _ => ?_))
  · refine iTxTo (by omega) ?_
    refine iCat (by rw [List.length_take]; omega) ?_
    refine iAdd (by omega) ?_
    rw [e1]
    refine iTxFrom (by omega) ?_
    refine iCat (by simp only [List.length_append, List.length_take, List.length_drop]; omega) ?_
    intro w5 x5
    exact ⟨⟨_, rfl, by simp only [List.length_append, List.length_take, List.length_drop]; omega⟩, hS4.later x5, ch_ext hC4 x5⟩
  refine iEq (iCndP (fun _ => ?_) (fun _ => ?_))
  · refine iTxTo (by omega) ?_
    refine iAdd (by omega) ?_
    rw [e1]
    refine iTxFrom (by omega) ?_
    refine iCat (by simp only [List.length_take, List.length_drop]; omega) ?_
    intro w5 x5
    exact ⟨⟨_, rfl, by simp only [List.length_append, List.length_take, List.length_drop]; omega⟩, hS4.later x5, ch_ext hC4 x5⟩
  · refine iTxTo (by omega) ?_
    refine iCat (by rw [List.length_take]; omega) ?_
    refine iTxFrom (by omega) ?_
    refine iCat (by simp only [List.length_append, List.length_take, List.length_drop]; omega) ?_
    intro w5 x5
    exact ⟨⟨_, rfl, by simp only [List.length_append, List.length_take, List.length_drop]; omega⟩, hS4.later x5, ch_ext hC4 x5⟩
def entTexts : List Str := [[97], [98], [97, 98], [99], [122, 122], [97, 98, 99, 100, 101, 102, 103, 104]]
theorem ok_spec_l35Entry {e : TypeId} (hneN : t_impl_Node ≠ e) {w0 : World} {vc : Value} {bs : List Nat} (hc : SlB w0 vc bs) {b : Nat} {w : World} (hS : Vc.Src e w0 vc b w) :
    Drw Tryz.prog f_spec_l35Entry #[.pointer (some ⟨b, 0, none⟩)] e w0 vc b w fun r _ => ∃ en : Ent, r = en.val ∧ en.sz ≤ 300 := by
  apply c_spec_l35Entry; unfold S_spec_l35Entry
  refine iNew3 fun b2 w1 hb2 x1 hB1 => ?_
  have hS1 := hS.later x1
  have hb2b : ¬ b2 = b := by have := hS.lt; omega
  refine iBsC entTexts (by kernel_rfl) fun q w2 hq x2 hT => ?_
  have hS2 := hS1.later x2
  have hC2 : Ch (fun c => c = b) w w2 := (x1.trans x2).ch (S := fun c => c = b)
  have hqb : ¬ q = b := by have := hS1.lt; omega
  have hB2 := hB1.ext x2
  refine iCall ((ok_spec_l01Next hc hS2 6).mono ?_)
  rintro _ w3 ⟨⟨y, rfl, hy, _⟩, hS3, hch3⟩
  have hy := hy (by decide)
  have hyl : y < entTexts.length := by show y < 6; omega
  have hC3 := ch_self hC2 hch3
  have hB3 := hB2.ch hch3 hb2b
  refine iIaT ((hT.ch hch3 hqb).slt (n := 6) rfl (by decide)) hyl fun p hp => ?_
  refine iLd hp ?_
  have hlen : (entTexts[y]).length ≤ 8 := len_all (show ∀ t ∈ entTexts, t.length ≤ 8 by decide) hyl
  generalize entTexts[y] = nm at *
  have fin : ∀ (en : Ent) (w5 : World), Vc.Src e w0 vc b w5 → Ch (fun c => c = b) w w5 → Blk 25 w5 b2 [.int .i64 0, .string ⟨#[]⟩, .string ⟨#[]⟩] → en.sz ≤ 300 →
      xStA Tryz.prog w5 3 (.pointer (some ⟨b2, 0, none⟩)) (.agg #[.int .i64 en.kd, sv en.nm, sv en.fm]) fun w6 => xLdA w6 3 (.pointer (some ⟨b2, 0, none⟩)) fun r => (∃ en : Ent, r = en.val ∧ en.sz ≤ 300) ∧ Vc.Src e w0 vc b w6 ∧ Ch (fun c => c = b) w w6 := by
    intro en w5 gS gC gB hsz
    refine iSt3 gB rfl rfl rfl rfl fun w6 hB6 hch6 => ?_
    refine iLd3 hB6 ?_
    exact ⟨⟨en, rfl, hsz⟩, gS.ch hch6 (fun h => hb2b h.symm) (fun c hc => by have hc : c = b2 := hc; have := hS.ext.size; omega), gC.trans hch6 fun c hc => .inr (by have hc : c = b2 := hc; omega)⟩
  refine iCall ((ok_spec_l01Next hc hS3 5).mono ?_)
  rintro _ w4 ⟨⟨x, rfl, _, _⟩, hS4, hch4⟩
  have hC4 := ch_self hC3 hch4
  have hB4 : Blk 25 w4 b2 [.int .i64 0, .string ⟨#[]⟩, .string ⟨#[]⟩] := hB3.ch hch4 hb2b
  refine iEq (iCndP (fun _ => ?_) (fun _ => ?_))
  · refine iBuild (cs := #[.int .i64 2, sv nm, sv []]) (by simp [Instr.fill, Value.cells]) ?_
    exact fin ⟨2, nm, []⟩ w4 hS4 hC4 hB4 (by show nm.length + 0 ≤ 300; omega)
  refine iEq ?_
  refine iJnX (fun xs w' => (∃ t, xs = [.bool t]) ∧ w' = w4) (fun J hJ => ?_) ?_
  · refine iCndP (fun _ => hJ _ _ ⟨⟨true, rfl⟩, rfl⟩) (fun _ => ?_)
    exact iEq (hJ _ _ ⟨⟨_, rfl⟩, rfl⟩)
  rintro _ _ ⟨⟨t, rfl⟩, rfl⟩
  intro _
  cases t with
  | true =>
    refine iCndT rfl ?_
    refine iBuild (cs := #[.int .i64 3, sv nm, sv []]) (by simp [Instr.fill, Value.cells]) ?_
    exact fin ⟨3, nm, []⟩ _ hS4 hC4 hB4 (by show nm.length + 0 ≤ 300; omega)
  | false =>
    refine iCndF rfl ?_
    refine iCall ((ok_spec_l23Small hneN hc (n := 9) (by decide) hS4).mono ?_)
    rintro v w11 ⟨⟨N, hN, ho⟩, hS11, hch11⟩
    have hC11 := ch_self hC4 hch11
    have ho11 : RawW w.heap.size t_impl_Node w11 v N := OwK.mono ho hC4.size
    have hB11 := hB4.ch hch11 hb2b
    refine iRet (ok_spec_l02Is ho11.sl (by omega)) fun w12 x12 => ?_
    refine iNot ?_
    refine iJnX (fun xs w' => ∃ u, xs = [u] ∧ (∃ f : Fm, f.good ∧ f.size ≤ 40 ∧ FmW w.heap.size w' u f) ∧ Ext w12 w') (fun J hJ => ?_) ?_
    · cases hb : isN N with
      | true =>
        refine iCndF rfl ?_
        obtain ⟨f, gf, sf, rfl⟩ := isN_iff.1 hb
        exact hJ _ _ ⟨_, rfl, ⟨f, gf, sf, FmW.ofRaw (OwK.ext ho11 x12)⟩, Ext.refl _⟩
      | false =>
        refine iCndT rfl ?_
        refine iCall ((ok_spec_l02Var 0 w12).mono ?_)
        rintro u w15 ⟨x15, h15⟩
        exact hJ _ _ ⟨u, rfl, ⟨.var 0, show 0 < 6 by decide, by decide, OwK.mono h15 (by have := hC11.size; have := x12.size; omega)⟩, x15⟩
    rintro _ w14 ⟨u, rfl, ⟨f, gf, sf, hf⟩, x14⟩
    intro _
    have x14' := x12.trans x14
    have hS14 := hS11.later x14'
    have hC14 := ch_ext hC11 x14'
    have hB14 := hB11.ext x14'
    refine iCall ((ok_spec_l01Next hc hS14 4).mono ?_)
    rintro _ w16 ⟨⟨z, rfl, _, _⟩, hS16, hch16⟩
    have hC16 := ch_self hC14 hch16
    have hB16 := hB14.ch hch16 hb2b
    have hf16 : FmW w.heap.size w16 u f := OwK.src hf hS14 hneN hch16
    refine iEq ?_
    refine iJnX (fun xs w' => ∃ u, xs = [u] ∧ (∃ f : Fm, f.good ∧ f.size ≤ 40 ∧ FmW w.heap.size w' u f) ∧ Vc.Src e w0 vc b w' ∧ Ch (fun c => c = b) w w' ∧ Blk 25 w' b2 [.int .i64 0, .string ⟨#[]⟩, .string ⟨#[]⟩]) (fun J hJ => ?_) ?_
    · refine iCndP (fun _ => ?_) (fun _ => hJ _ _ ⟨u, rfl, ⟨f, gf, sf, hf16⟩, hS16, hC16, hB16⟩)
      refine iCall ((ok_spec_l02Draw hneN hc (k := 3) (by decide) true 9 hS16 (by decide) (by decide)).mono ?_)
      rintro u2 w19 ⟨⟨g, gg, sg, hg⟩, hS19, hch19⟩
      exact hJ _ _ ⟨u2, rfl, ⟨g, gg, by omega, OwK.mono hg hC16.size⟩, hS19, ch_self hC16 hch19, hB16.ch hch19 hb2b⟩
    rintro _ w18 ⟨u3, rfl, ⟨g, gg, sg, hg⟩, hS18, hC18, hB18⟩
    intro _
    refine iRet (ok_spec_l02Text (f := g) hg.sl gg (by omega)) fun w20 x20 => ?_
    have hbl := body_len g
    refine iBuild (cs := #[.int .i64 1, sv nm, sv g.body]) (by simp [Instr.fill, Value.cells]) ?_
    exact fin ⟨1, nm, g.body⟩ w20 (hS18.later x20) (ch_ext hC18 x20) (hB18.ext x20) (by show nm.length + g.body.length ≤ 300; omega)
end Go.Proofs.YtapdkkijoflcpaaGreatDoor

/- Contracts: drawn journals with an entry; the dice of the laws. Conditions: none. -/
namespace Go.Proofs.YtapdkkijoflcpaaGreatDoor
open Go.Vc
def anyTexts : List Str := [[], [65], [97, 98, 99, 100, 101, 102, 103, 104, 105], [97, 32, 98]]
theorem ok_spec_l35Any {e : TypeId} (hneN : t_impl_Node ≠ e) {w0 : World} {vc : Value} {bs : List Nat} (hc : SlB w0 vc bs) {b : Nat} {w : World} (hS : Vc.Src e w0 vc b w) :
    Drw Tryz.prog f_spec_l35Any #[.pointer (some ⟨b, 0, none⟩)] e w0 vc b w fun r _ => ∃ en : Ent, r = en.val ∧ en.sz ≤ 400 := by
  apply c_spec_l35Any; unfold S_spec_l35Any
  have hlow := hS.ext.size
  refine iNew3 fun b2 w1 hb2 x1 hB1 => ?_
  have hS1 := hS.later x1
  have hb2b : ¬ b2 = b := by have := hS.lt; omega
  have hC1 : Ch (fun c => c = b) w w1 := x1.ch (S := fun c => c = b)
  refine iCall ((ok_spec_l35Entry hneN hc hS1).mono ?_)
  rintro _ w2 ⟨⟨en, rfl, hsz⟩, hS2, hch2⟩
  have hC2 := ch_self hC1 hch2
  have hB2 := hB1.ch hch2 hb2b
  refine iNew3 fun b3 w3 hb3 x3 hB3 => ?_
  have hS3 := hS2.later x3
  have hC3 := ch_ext hC2 x3
  have hb3b : ¬ b3 = b := by have := hS2.lt; omega
  have hb32 : ¬ b2 = b3 := by have := hB2.lt; omega
  have hB23 := hB2.ext x3
  have hlo3 : w.heap.size ≤ b3 := by have := hC2.size; omega
  refine iSt3 hB3 rfl rfl rfl rfl fun w4 hB4 hch4 => ?_
  have hS4 := hS3.ch hch4 (fun h => hb3b h.symm) (fun c hc => by have hc : c = b3 := hc; omega)
  have hC4 := hC3.trans hch4 fun c hc => .inr (by have hc : c = b3 := hc; omega)
  have hB24 : Blk 25 w4 b2 [.int .i64 0, .string ⟨#[]⟩, .string ⟨#[]⟩] := hB23.ch hch4 hb32
  have hB4 : Blk 25 w4 b3 [.int .i64 en.kd, sv en.nm, sv en.fm] := hB4
  have fin : ∀ (g : Ent) (w5 : World), Vc.Src e w0 vc b w5 → Ch (fun c => c = b) w w5 → Blk 25 w5 b2 [.int .i64 0, .string ⟨#[]⟩, .string ⟨#[]⟩] → Blk 25 w5 b3 [.int .i64 g.kd, sv g.nm, sv g.fm] → g.sz ≤ 400 →
      xLdA w5 3 (.pointer (some ⟨b3, 0, none⟩)) fun v27 => xStA Tryz.prog w5 3 (.pointer (some ⟨b2, 0, none⟩)) v27 fun w6 => xLdA w6 3 (.pointer (some ⟨b2, 0, none⟩)) fun r => (∃ en : Ent, r = en.val ∧ en.sz ≤ 400) ∧ Vc.Src e w0 vc b w6 ∧ Ch (fun c => c = b) w w6 := by
    intro g w5 gS gC g2 g3 hsz
    refine iLd3 g3 ?_
    refine iSt3 g2 rfl rfl rfl rfl fun w6 hB6 hch6 => ?_
    refine iLd3 hB6 ?_
    exact ⟨⟨g, rfl, hsz⟩, gS.ch hch6 (fun h => hb2b h.symm) (fun c hc => by have hc : c = b2 := hc; omega), gC.trans hch6 fun c hc => .inr (by have hc : c = b2 := hc; omega)⟩
  have upd : ∀ {w5 w6 : World}, Upd b3 w5 w6 → Vc.Src e w0 vc b w5 → Ch (fun c => c = b) w w5 → Blk 25 w5 b2 [.int .i64 0, .string ⟨#[]⟩, .string ⟨#[]⟩] → Vc.Src e w0 vc b w6 ∧ Ch (fun c => c = b) w w6 ∧ Blk 25 w6 b2 [.int .i64 0, .string ⟨#[]⟩, .string ⟨#[]⟩] := fun k gS gC g2 =>
    ⟨gS.upd k (fun h => hb3b h.symm) (by omega), gC.trans (k.ch (S := fun c => c = b3) rfl) (fun c hc => .inr (by have hc : c = b3 := hc; omega)), g2.upd k hb32⟩
  refine iCall ((ok_spec_l01Next hc hS4 30).mono ?_)
  rintro _ w5 ⟨⟨x, rfl, _, _⟩, hS5, hch5⟩
  have hC5 := ch_self hC4 hch5
  have hB25 := hB24.ch hch5 hb2b
  have hB35 := hB4.ch hch5 hb3b
  have hsz' : en.nm.length + en.fm.length ≤ 300 := hsz
  refine iEq (iCndP (fun _ => ?_) (fun _ => ?_))
  · refine iBsC anyTexts (by kernel_rfl) fun q w6 hq x6 hT => ?_
    have hqb : ¬ q = b := by have := hS5.lt; omega
    have hS6 := hS5.later x6
    refine iCall ((ok_spec_l01Next hc hS6 4).mono ?_)
    rintro _ w7 ⟨⟨y, rfl, hy, _⟩, hS7, hch7⟩
    have hy := hy (by decide)
    have hyl : y < anyTexts.length := by show y < 4; omega
    refine iIaT ((hT.ch hch7 hqb).slt (n := 4) rfl (by decide)) hyl fun p hp => ?_
    refine iLd hp ?_
    have hlen : (anyTexts[y]).length ≤ 9 := len_all (show ∀ t ∈ anyTexts, t.length ≤ 9 by decide) hyl
    generalize anyTexts[y] = s at *
    refine iFa ?_
    have hB37 := (hB35.ext x6).ch hch7 hb3b
    refine iStB (i := 1) hB37 (show 1 < 3 by decide) rfl fun hB8 => ?_
    obtain ⟨gS, gC, g2⟩ := upd (Upd.setCell w7 b3 1 (sv s)) hS7 (ch_self (ch_ext hC5 x6) hch7) ((hB25.ext x6).ch hch7 hb2b)
    exact fin ⟨en.kd, s, en.fm⟩ _ gS gC g2 hB8 (by show s.length + en.fm.length ≤ 400; omega)
  refine iEq (iCndP (fun _ => ?_) (fun _ => ?_))
  · refine iBs3D fun q w6 hq x6 hB => ?_
    have hS6 := hS5.later x6
    refine iCall ((ok_spec_l01Pick hc hS6 (l := [0, 4, -1]) rfl hB (by have := hS5.lt; omega) (by decide) (by decide)).mono ?_)
    rintro _ w7 ⟨⟨y, rfl, _⟩, hS7, hch7⟩
    refine iFa ?_
    have hB37 := (hB35.ext x6).ch hch7 hb3b
    refine iStB (i := 0) hB37 (show 0 < 3 by decide) rfl fun hB8 => ?_
    obtain ⟨gS, gC, g2⟩ := upd (Upd.setCell w7 b3 0 (.int .i64 y)) hS7 (ch_self (ch_ext hC5 x6) hch7) ((hB25.ext x6).ch hch7 hb2b)
    exact fin ⟨y, en.nm, en.fm⟩ _ gS gC g2 hB8 (by show en.nm.length + en.fm.length ≤ 400; omega)
  refine iEq (iCndP (fun _ => ?_) (fun _ => ?_))
  · refine iCall ((ok_spec_l01Damage hc (t := [112, 38, 113]) (by decide) hS5).mono ?_)
    rintro _ w7 ⟨⟨s, rfl, hs⟩, hS7, hch7⟩
    have hs : s.length ≤ 5 := hs
    refine iFa ?_
    have hB37 := hB35.ch hch7 hb3b
    refine iStB (i := 2) hB37 (show 2 < 3 by decide) rfl fun hB8 => ?_
    obtain ⟨gS, gC, g2⟩ := upd (Upd.setCell w7 b3 2 (sv s)) hS7 (ch_self hC5 hch7) (hB25.ch hch7 hb2b)
    exact fin ⟨en.kd, en.nm, s⟩ _ gS gC g2 hB8 (by show en.nm.length + s.length ≤ 400; omega)
  · exact fin en w5 hS5 hC5 hB25 hB35 (by omega)
theorem ok_spec_l35Some {e : TypeId} (hneN : t_impl_Node ≠ e) {w0 : World} {vc : Value} {bs : List Nat} (hc : SlB w0 vc bs) {b : Nat} {w : World} (hS : Vc.Src e w0 vc b w) :
    Drw Tryz.prog f_spec_l35Some #[.pointer (some ⟨b, 0, none⟩)] e w0 vc b w fun r _ => ∃ t : Str, r = sv t ∧ t.length ≤ 6000 := by
  apply c_spec_l35Some; unfold S_spec_l35Some
  refine iCall ((ok_spec_l01Next hc hS 10).mono ?_)
  rintro _ w1 ⟨⟨n, rfl, hn, _⟩, hS1, hch1⟩
  refine iLp (fun s : Str × Nat => [sv s.1, .int .i64 (s.2 : Int)]) (fun s w' => s.1.length ≤ 6000 ∧ s.2 ≤ 10 ∧ Vc.Src e w0 vc b w' ∧ Ch (fun c => c = b) w w') (fun s => s.2) ([], n) rfl ⟨Nat.zero_le _, by show n ≤ 10; have := hn (by omega); omega, hS1, hch1⟩ ?_
  rintro ⟨t, k⟩ w3 Kn ⟨ht, hk, hS3, hC3⟩ hKn
  have hk : k ≤ 10 := hk
  have ht : t.length ≤ 6000 := ht
  intro _
  simp only [gx]
  refine iLt (iCndP (fun h4 => ?_) (fun h4 => ?_))
  · refine iCall ((ok_spec_l35Entry hneN hc hS3).mono ?_)
    rintro _ w4 ⟨⟨en, rfl, hsz⟩, hS4, hch4⟩
    have hC4 := ch_self hC3 hch4
    refine iRet (ok_spec_AppendEntry (by omega) (by omega) w4) fun w5 x5 => iE20 (iE21 ?_)
    have e1 : (k : Int) - 1 = ((k - 1 : Nat) : Int) := by omega
    refine iEq (iCndP (fun _ => ?_) (fun _ => ?_))
    · refine iSub (by omega) ?_
      rw [e1]
      exact hKn (_, k - 1) _ ⟨appT_len, by show k - 1 ≤ 10; omega, hS4.later x5, ch_ext hC4 x5⟩ (by show k - 1 < k; omega)
    · refine iSub (by omega) ?_
      rw [e1]
      exact hKn (t, k - 1) _ ⟨ht, by show k - 1 ≤ 10; omega, hS4.later x5, ch_ext hC4 x5⟩ (by show k - 1 < k; omega)
  · refine iCall ((ok_spec_l01Next hc hS3 30).mono ?_)
    rintro _ w6 ⟨⟨y, rfl, _, _⟩, hS6, hch6⟩
    have hC6 := ch_self hC3 hch6
    refine iEq (iCndP (fun _ => ?_) (fun _ => ⟨⟨t, rfl, ht⟩, hS6, hC6⟩))
    refine iLp (fun s : Str × Nat => [sv s.1, .int .i64 (s.2 : Int)]) (fun s w' => s.1.length ≤ 6000 ∧ Ext w6 w') (fun s => 70 - s.2) (t, 0) rfl ⟨ht, Ext.refl _⟩ ?_
    rintro ⟨t2, j⟩ w8 Kn2 ⟨ht2, x8⟩ hKn2
    have ht2 : t2.length ≤ 6000 := ht2
    intro _
    simp only [gx]
    refine iLt (iCndP (fun h9 => ?_) (fun h9 => ⟨⟨t2, rfl, ht2⟩, hS6.later x8, ch_ext hC6 x8⟩))
    refine iRem (by omega) (iRem (by omega) ?_)
    refine iAdd (by omega) ?_
    rw [show (j : Int) % 13 = ((j % 13 : Nat) : Int) by omega, show ((j % 13 : Nat) : Int) + 1 = ((j % 13 + 1 : Nat) : Int) by omega]
    have hm : j % 13 < 13 := Nat.mod_lt _ (by decide)
    refine iTxSub (l := [97, 98, 99, 100, 101, 102, 103, 104, 105, 106, 107, 108, 109]) (by omega) (by show j % 13 + 1 ≤ 13; omega) ?_
    refine iCat (a := [113]) (by simp only [List.length_take, List.length_drop, List.length_cons, List.length_nil]; omega) ?_
    have hnl : (([113] : Str) ++ (([97, 98, 99, 100, 101, 102, 103, 104, 105, 106, 107, 108, 109] : Str).drop (j % 13)).take (j % 13 + 1 - j % 13)).length ≤ 20 := by
      simp only [List.length_append, List.length_take, List.length_drop, List.length_cons, List.length_nil]; omega
    generalize ([113] : Str) ++ (([97, 98, 99, 100, 101, 102, 103, 104, 105, 106, 107, 108, 109] : Str).drop (j % 13)).take (j % 13 + 1 - j % 13) = nm at *
    refine iBuild (cs := #[.int .i64 1, sv nm, sv [112]]) (by simp [Instr.fill, Value.cells]) ?_
    refine iRet (ok_spec_AppendEntry (t := t2) (e := ⟨1, nm, [112]⟩) (by omega) (by show nm.length + 1 ≤ _; omega) w8) fun w9 x9 => iE20 (iE21 ?_)
    refine iEq (iCndP (fun _ => ?_) (fun _ => ?_))
    · refine iAdd (by omega) ?_
      exact hKn2 (_, j + 1) _ ⟨appT_len, x8.trans x9⟩ (by show 70 - (j + 1) < 70 - j; omega)
    · refine iAdd (by omega) ?_
      exact hKn2 (t2, j + 1) _ ⟨ht2, x8.trans x9⟩ (by show 70 - (j + 1) < 70 - j; omega)
theorem ok_spec_l35Draw {e : TypeId} (hneN : t_impl_Node ≠ e) {w0 : World} {vc : Value} {bs : List Nat} (hc : SlB w0 vc bs) {b : Nat} {w : World} (hS : Vc.Src e w0 vc b w) :
    Drw Tryz.prog f_spec_l35Draw #[.pointer (some ⟨b, 0, none⟩)] e w0 vc b w fun r _ => ∃ t : Str, r = sv t ∧ t.length ≤ 6010 := by
  apply c_spec_l35Draw; unfold S_spec_l35Draw
  refine iCall ((ok_spec_l35Some hneN hc hS).mono ?_)
  rintro _ w1 ⟨⟨t, rfl, ht⟩, hS1, hch1⟩
  refine iCall ((ok_spec_l01Next hc hS1 6).mono ?_)
  rintro _ w2 ⟨⟨x, rfl, _, _⟩, hS2, hch2⟩
  have hC2 := ch_self hch1 hch2
  refine iEq ?_
  refine iJnX (fun xs w' => (∃ t, xs = [.bool t]) ∧ w' = w2) (fun J hJ => ?_) ?_
  · refine iCndP (fun _ => hJ _ _ ⟨⟨true, rfl⟩, rfl⟩) (fun _ => ?_)
    exact iEq (hJ _ _ ⟨⟨_, rfl⟩, rfl⟩)
  rintro _ _ ⟨⟨q, rfl⟩, rfl⟩
  intro _
  cases q with
  | true =>
    refine iCndT rfl ?_
    refine iLenT (iAdd (by omega) ?_)
    refine iCall ((ok_spec_l01Next hc hS2 _).mono ?_)
    rintro _ w5 ⟨⟨y, rfl, hy, _⟩, hS5, hch5⟩
    have hy := hy (by omega)
    refine iTxTo (by omega) ?_
    exact ⟨⟨_, rfl, by rw [List.length_take]; omega⟩, hS5, ch_self hC2 hch5⟩
  | false =>
    refine iCndF rfl ?_
    refine iEq (iCndP (fun _ => ?_) (fun _ => ⟨⟨t, rfl, by omega⟩, hS2, hC2⟩))
    refine iCall ((ok_spec_l01Damage hc (t := t) (by omega) hS2).mono ?_)
    rintro _ w6 ⟨⟨s, rfl, hs⟩, hS6, hch6⟩
    exact ⟨⟨s, rfl, by omega⟩, hS6, ch_self hC2 hch6⟩
theorem ok_spec_DrawAppendEntry {vc : Value} {w : World} {bs : List Nat} (hc : SlB w vc bs) : Cal Tryz.prog f_spec_DrawAppendEntry #[vc] w fun r w' => Ext w w' ∧ ∃ (t : Str) (en : Ent), r = .tuple #[sv t, en.val] ∧ t.length ≤ 6010 ∧ en.sz ≤ 400 := by
  apply c_spec_DrawAppendEntry; unfold S_spec_DrawAppendEntry
  refine iNew3 fun b3 w1 hb3 x1 hB1 => ?_
  refine iCall ((ok_spec_l01FromE (hc.ext x1)).mono ?_)
  rintro _ w2 ⟨b, rfl, hS2⟩
  have hlo := hS2.lo
  have hb : ¬ b3 = b := by have := hB1.lt; omega
  refine iCall ((ok_spec_l35Draw (by decide) (hc.ext x1) hS2).mono ?_)
  rintro _ w3 ⟨⟨t, rfl, ht⟩, hS3, hch3⟩
  refine iCall ((ok_spec_l35Any (by decide) (hc.ext x1) hS3).mono ?_)
  rintro _ w4 ⟨⟨en, rfl, hsz⟩, hS4, hch4⟩
  have hB4 := ((hB1.ext hS2.ext).ch hch3 hb).ch hch4 hb
  refine iSt3 hB4 rfl rfl rfl rfl fun w5 hB5 hch5 => ?_
  refine iLd3 hB5 ?_
  exact ⟨(x1.trans hS4.ext).thenCh hch5 fun c hc => by have hc : c = b3 := hc; omega, t, en, rfl, ht, hsz⟩
end Go.Proofs.YtapdkkijoflcpaaGreatDoor

/- Contracts: the laws' helpers for rows of entries; EntriesOf in the program and in the reference, and its law. Conditions: the table of powers of ten. -/
namespace Go.Vc
end Go.Vc
namespace Go.Proofs.YtapdkkijoflcpaaGreatDoor
open Go.Vc
end Go.Proofs.YtapdkkijoflcpaaGreatDoor

/- Plain maths: a journal's text reads as that journal. No program in sight. Conditions: none. -/
namespace Go.Vc
theorem parM_mem {b : Bool} {t : Str} {c : UInt8} (h : c ∈ par b t) : c ∈ t ∨ c = 40 ∨ c = 41 := by
  unfold par at h
  cases b
  · exact .inl h
  · rw [if_pos rfl] at h
    rcases List.mem_cons.1 h with h | h
    · exact .inr (.inl h)
    · rcases List.mem_append.1 h with h | h
      · exact .inl h
      · exact .inr (.inr (by simpa using h))
theorem body_ge : ∀ (f : Fm), f.good → ∀ c ∈ f.body, 38 ≤ c.toNat
  | .var v, hg, c, h => by
    have h : c = vl v := by simpa [Fm.body] using h
    subst h
    have hg : v < 6 := hg
    have : v = 0 ∨ v = 1 ∨ v = 2 ∨ v = 3 ∨ v = 4 ∨ v = 5 := by omega
    rcases this with rfl | rfl | rfl | rfl | rfl | rfl <;> decide
  | .fls, _, c, h => by
    have h : c = 70 := by simpa [Fm.body] using h
    subst h; decide
  | .and a b, hg, c, h => by
    rcases List.mem_append.1 h with h | h
    · rcases parM_mem h with h | rfl | rfl
      · exact body_ge a hg.1 c h
      · decide
      · decide
    · rcases List.mem_cons.1 h with rfl | h
      · decide
      rcases parM_mem h with h | rfl | rfl
      · exact body_ge b hg.2 c h
      · decide
      · decide
  | .or a b, hg, c, h => by
    rcases List.mem_append.1 h with h | h
    · rcases parM_mem h with h | rfl | rfl
      · exact body_ge a hg.1 c h
      · decide
      · decide
    · rcases List.mem_cons.1 h with rfl | h
      · decide
      rcases parM_mem h with h | rfl | rfl
      · exact body_ge b hg.2 c h
      · decide
      · decide
  | .imp a b, hg, c, h => by
    rw [Fm.body] at h
    split at h
    · split at h
      · have h : c = 84 := by simpa using h
        subst h; decide
      · rcases List.mem_cons.1 h with rfl | h
        · decide
        rcases parM_mem h with h | rfl | rfl
        · exact body_ge a hg.1 c h
        · decide
        · decide
    · rcases List.mem_append.1 h with h | h
      · rcases parM_mem h with h | rfl | rfl
        · exact body_ge a hg.1 c h
        · decide
        · decide
      · rcases List.mem_cons.1 h with rfl | h
        · decide
        · exact body_ge b hg.2 c h
  | .box a, hg, c, h => by
    rcases List.mem_cons.1 h with rfl | h
    · decide
    rcases List.mem_cons.1 h with rfl | h
    · decide
    rcases parM_mem h with h | rfl | rfl
    · exact body_ge a hg c h
    · decide
    · decide
  | .dia a, hg, c, h => by
    rcases List.mem_cons.1 h with rfl | h
    · decide
    rcases List.mem_cons.1 h with rfl | h
    · decide
    rcases parM_mem h with h | rfl | rfl
    · exact body_ge a hg c h
    · decide
    · decide
theorem goodT_ge {t : Str} (h : goodT t = true) : ∀ c ∈ t, 38 ≤ c.toNat := by
  unfold goodT at h
  rw [Bool.and_eq_true, decide_eq_true_eq, decide_eq_true_eq] at h
  have := body_ge (rd t).1 (prs_good _ _ _ _ trivial)
  rw [h.2] at this
  exact this
theorem nameOk_ge {t : Str} (h : nameOk t = true) : ∀ c ∈ t, 97 ≤ c.toNat := fun c hc => by
  unfold nameOk at h
  rw [Bool.and_eq_true, List.all_eq_true] at h
  have := h.1 c hc
  unfold small at this
  rw [Bool.and_eq_true, decide_eq_true_eq] at this
  exact this.1
theorem ne_of_ge {c d : UInt8} {n : Nat} (h : n ≤ c.toNat) (hd : d.toNat < n) : c ≠ d := fun e => by subst e; omega
theorem decT_ge (n : Nat) : ∀ c ∈ decT n, 48 ≤ c.toNat := by
  induction n using Nat.strongRecOn with
  | _ n ih =>
    intro c hc
    by_cases h : n < 10
    · unfold decT at hc
      rw [Lib.decDigits, dif_pos h] at hc
      have hc : c = UInt8.ofNat (48 + n) := by simpa using hc
      subst hc
      rw [UInt8.toNat_ofNat']; omega
    · have : decT n = decT (n / 10) ++ [UInt8.ofNat (48 + n % 10)] := by unfold decT; conv => lhs; rw [Lib.decDigits, dif_neg h]
      rw [this] at hc
      rcases List.mem_append.1 hc with hc | hc
      · exact ih (n / 10) (by omega) c hc
      · have hc : c = UInt8.ofNat (48 + n % 10) := by simpa using hc
        subst hc
        rw [UInt8.toNat_ofNat']; omega
theorem ent_cases {e : Ent} (h : entB e = true) : nameOk e.nm = true ∧ ((e.kd = 1 ∧ goodT e.fm = true) ∨ (e.kd = 2 ∧ e.fm = []) ∨ (e.kd = 3 ∧ e.fm = [])) := by
  unfold entB at h
  split at h
  · rw [Bool.and_eq_true] at h
    exact ⟨h.1, .inl ⟨by assumption, h.2⟩⟩
  · split at h
    · rename_i h1 h2
      rw [Bool.and_eq_true, decide_eq_true_eq] at h
      exact ⟨h.1, .inr (h2.imp (fun e => ⟨e, h.2⟩) fun e => ⟨e, h.2⟩)⟩
    · cases h
theorem split_line {e : Ent} (h : entB e = true) : entOf (splitT 32 (lineT e)) = e := by
  obtain ⟨hn, hc⟩ := ent_cases h
  have n32 : ∀ x ∈ e.nm, x ≠ 32 := fun x hx => ne_of_ge (nameOk_ge hn x hx) (by decide)
  rcases hc with ⟨hk, hg⟩ | ⟨hk, hf⟩ | ⟨hk, hf⟩
  · have f32 : ∀ x ∈ e.fm, x ≠ 32 := fun x hx => ne_of_ge (goodT_ge hg x hx) (by decide)
    unfold lineT
    rw [if_pos hk, splitT_hit (by decide), splitT_hit n32, splitT_miss f32]
    obtain ⟨k, a, b⟩ := e
    have hk : k = 1 := hk
    subst hk; rfl
  · unfold lineT
    rw [if_neg (by omega), if_pos hk, splitT_hit (by decide), splitT_miss n32]
    obtain ⟨k, a, b⟩ := e
    have hk : k = 2 := hk
    have hf : b = [] := hf
    subst hk; subst hf; rfl
  · unfold lineT
    rw [if_neg (by omega), if_neg (by omega), splitT_hit (by decide), splitT_miss n32]
    obtain ⟨k, a, b⟩ := e
    have hk : k = 3 := hk
    have hf : b = [] := hf
    subst hk; subst hf; rfl
theorem line_no10 {e : Ent} (h : entB e = true) : ∀ x ∈ lineT e, x ≠ 10 := by
  obtain ⟨hn, hc⟩ := ent_cases h
  have n10 : ∀ x ∈ e.nm, x ≠ 10 := fun x hx => ne_of_ge (nameOk_ge hn x hx) (by decide)
  have k1 : ∀ x ∈ kLet, x ≠ 10 := by decide
  have k2 : ∀ x ∈ kDrop, x ≠ 10 := by decide
  have k3 : ∀ x ∈ kClaim, x ≠ 10 := by decide
  intro x hx
  unfold lineT at hx
  rcases hc with ⟨hk, hg⟩ | ⟨hk, hf⟩ | ⟨hk, hf⟩
  · rw [if_pos hk] at hx
    rcases List.mem_append.1 hx with hx | hx
    · exact k1 x hx
    rcases List.mem_cons.1 hx with rfl | hx
    · decide
    rcases List.mem_append.1 hx with hx | hx
    · exact n10 x hx
    rcases List.mem_cons.1 hx with rfl | hx
    · decide
    · exact ne_of_ge (goodT_ge hg x hx) (by decide)
  · rw [if_neg (by omega), if_pos hk] at hx
    rcases List.mem_append.1 hx with hx | hx
    · exact k2 x hx
    rcases List.mem_cons.1 hx with rfl | hx
    · decide
    · exact n10 x hx
  · rw [if_neg (by omega), if_neg (by omega)] at hx
    rcases List.mem_append.1 hx with hx | hx
    · exact k3 x hx
    rcases List.mem_cons.1 hx with rfl | hx
    · decide
    · exact n10 x hx
theorem pStep_line {j : Jn} {e : Ent} (h : entB e = true) : pStep j (lineT e ++ 32 :: decT (chkT j.chk (lineT e))) = addJ j e := by
  have hd : ∀ x ∈ decT (chkT j.chk (lineT e)), x ≠ 32 := fun x hx => ne_of_ge (decT_ge _ x hx) (by decide)
  have h1 : entOf (splitT 32 (lineT e ++ 32 :: decT (chkT j.chk (lineT e)))).dropLast = e := by
    rw [split_last hd, List.dropLast_concat, split_line h]
  unfold pStep
  rw [h1, h, decide_eq_true (by unfold lineC; simp)]
  rfl
/-- The journals that come about. -/
inductive Reach : Jn → Prop
  | nil : Reach jn0
  | add {j j' : Jn} {e : Ent} : Reach j → entB e = true → addJ j e = some j' → Reach j'
theorem addJ_some {j j' : Jn} {e : Ent} (h : addJ j e = some j') : ∃ L, stepI j.items e = some L ∧ j' = ⟨L, j.ents ++ [e], j.text ++ lineC j.chk e, j.hist ++ [L]⟩ := by
  unfold addJ at h
  cases hst : stepI j.items e with
  | none => rw [hst] at h; cases h
  | some L => rw [hst] at h; cases h; exact ⟨L, rfl, rfl⟩
theorem Reach.read {j : Jn} (h : Reach j) : ∀ (m : Nat) (t : Str), j.ents.length ≤ m → readJ m (j.text ++ t) jn0 = readJ (m - j.ents.length) t j := by
  induction h with
  | nil => intro m t _; rfl
  | @add j j' e hr he ha ih =>
    intro m t hm
    obtain ⟨L, hst, rfl⟩ := addJ_some ha
    have hm' : j.ents.length + 1 ≤ m := by simpa using hm
    show readJ m ((j.text ++ lineC j.chk e) ++ t) jn0 = _
    rw [List.append_assoc, ih m _ (by omega)]
    obtain ⟨k, hk⟩ : ∃ k, m - j.ents.length = k + 1 := ⟨m - j.ents.length - 1, by omega⟩
    have hl : lineC j.chk e ++ t = (lineT e ++ 32 :: decT (chkT j.chk (lineT e))) ++ 10 :: t := by unfold lineC; simp
    have h10 : ∀ x ∈ lineT e ++ 32 :: decT (chkT j.chk (lineT e)), x ≠ 10 := fun x hx => by
      rcases List.mem_append.1 hx with hx | hx
      · exact line_no10 he x hx
      rcases List.mem_cons.1 hx with rfl | hx
      · decide
      · exact ne_of_ge (decT_ge _ x hx) (by decide)
    rw [hl, hk, readJ_hit h10, pStep_line he, ha]
    show readJ k t _ = readJ (m - (j.ents ++ [e]).length) t _
    rw [List.length_append, show m - (j.ents.length + [e].length) = k by simp only [List.length_cons, List.length_nil]; omega]
theorem Reach.open {j : Jn} (h : Reach j) (hl : j.ents.length ≤ 60) : openJ j.text = j := by
  have := h.read 60 [] hl
  rw [List.append_nil, readJ_miss (m := 60 - j.ents.length) (t := []) (fun x hx => by cases hx)] at this
  exact this
theorem read_reach : ∀ (m : Nat) (t : Str) {j : Jn}, Reach j → Reach (readJ m t j)
  | 0, _, _, h => h
  | m + 1, t, j, h => by
    rw [readJ]
    split
    · cases hp : pStep j (t.takeWhile fun c => c != 10) with
      | none => exact h
      | some j' =>
        refine read_reach m _ ?_
        unfold pStep at hp
        split at hp
        · rename_i hb
          rw [Bool.and_eq_true] at hb
          exact .add h hb.1 hp
        · cases hp
    · exact h
theorem open_reach (t : Str) : Reach (openJ t) := read_reach 60 t .nil
end Go.Vc

/- Contracts: ReplayEntries in the program and in the reference, and its law. Conditions: the table of powers of ten. -/
namespace Go.Vc
end Go.Vc
namespace Go.Proofs.YtapdkkijoflcpaaGreatDoor
open Go.Vc
end Go.Proofs.YtapdkkijoflcpaaGreatDoor

/- Contracts: ReadNotebook and NotebookAt in the program and in the reference, and their laws. Conditions: the table of powers of ten. -/
namespace Go.Vc
section
variable {P : Program} {w : World}
end
end Go.Vc
namespace Go.Proofs.YtapdkkijoflcpaaGreatDoor
open Go.Vc
theorem ok_impl_size_impl_Entry {v : Value} {w : World} {n : Nat} {xs : List Value} (hs : SlK 3 w v n xs) : Ret Tryz.prog f_impl_size_impl_Entry #[v] w (.int .i64 (n : Int)) := by
  apply c_impl_size_impl_Entry; unfold S_impl_size_impl_Entry
  exact iLenK hs ⟨rfl, Ext.refl _⟩
theorem ok_impl_ReadNotebook {t : Str} (ht : t.length ≤ 4194304) {w : World} (hT : TabOk w) : Cal Tryz.prog f_impl_ReadNotebook #[sv t] w fun r w' => Ext w w' ∧ ∃ v, r = .tuple #[v, .int .i64 ((openJ t).ents.length : Int), .int .i64 ((openJ t).text.length : Int)] ∧ ItW w.heap.size w' v (openJ t).items ∧ (openJ t).items.length ≤ 12 := by
  apply c_impl_ReadNotebook; unfold S_impl_ReadNotebook
  refine iCall ((ok_impl_goodPart ht hT).mono ?_)
  rintro r w1 ⟨x1, b, vi, ve, rfl, hj, hen, htl⟩
  refine iNil (iFa (iLdB hj.blk rfl (iNil (iFa (iLdB hj.blk rfl ?_)))))
  refine iRetQ (fun w' hw' => ok_impl_size_impl_Entry (hj.en.ext hw').sl) ?_
  refine iNil (iFa (iLdB hj.blk rfl (iLenT ?_)))
  intro w2 x2
  exact ⟨x1.trans x2, vi, rfl, hj.it.ext x2, hj.ji.len⟩
end Go.Proofs.YtapdkkijoflcpaaGreatDoor

/- Contracts: NotebookAt in the program and in the reference, and its law. Conditions: the table of powers of ten. -/
namespace Go.Vc
noncomputable def nbI (t : Str) (k : Int) : List Itm := if 0 ≤ k ∧ k ≤ ((openJ t).ents.length : Int) then (readJ k.toNat t jn0).items else []
noncomputable def nbC (t : Str) (k : Int) : Int := if 0 ≤ k ∧ k ≤ ((openJ t).ents.length : Int) then 0 else 2
end Go.Vc
namespace Go.Proofs.YtapdkkijoflcpaaGreatDoor
open Go.Vc
theorem ok_impl_inRangeJ (x a b : Int) (w : World) : Ret Tryz.prog f_impl_inRange #[.int .i64 x, .int .i64 a, .int .i64 b] w (.bool (decide (a ≤ x ∧ x ≤ b))) := by
  apply c_impl_inRange; unfold S_impl_inRange
  refine iJnB (decide (a ≤ x ∧ x ≤ b)) w (fun J hJ => ?_) (fun w2 x2 => fun _ => ⟨by first | trivial | rfl, x2⟩)
  refine iLe (iCndP (fun h => ?_) (fun h => ?_))
  · refine iLe ?_
    rw [show decide (x ≤ b) = decide (a ≤ x ∧ x ≤ b) from decide_eq_decide.2 ⟨fun h2 => ⟨h, h2⟩, fun h2 => h2.2⟩]
    exact hJ _ (Ext.refl _)
  · rw [decide_eq_false (show ¬ (a ≤ x ∧ x ≤ b) from fun h2 => h h2.1)] at hJ
    exact hJ _ (Ext.refl _)
theorem ok_impl_NotebookAt {t : Str} {k : Int} (ht : t.length ≤ 4194304) {w : World} (hT : TabOk w) : Cal Tryz.prog f_impl_NotebookAt #[sv t, .int .i64 k] w fun r w' => Ext w w' ∧ ∃ v, r = .tuple #[v, .int .i64 (nbC t k)] ∧ ItW w.heap.size w' v (nbI t k) ∧ (nbI t k).length ≤ 12 := by
  apply c_impl_NotebookAt; unfold S_impl_NotebookAt
  refine iCall ((ok_impl_goodPart ht hT).mono ?_)
  rintro r w1 ⟨x1, b, vi, ve, rfl, hj, hen, htl⟩
  refine iNil (iFa (iLdB hj.blk rfl ?_))
  refine iRet (ok_impl_size_impl_Entry hj.en.sl) fun w2 x2 => ?_
  refine iRet (ok_impl_inRangeJ k 0 ((openJ t).ents.length : Int) w2) fun w3 x3 => ?_
  have X3 := (x1.trans x2).trans x3
  refine iNot (iCnd (fun hb => ?_) (fun hb => ?_))
  · rw [Bool.not_eq_true', decide_eq_false_iff_not] at hb
    refine ⟨X3, .slice none 0 0, ?_, ?_, ?_⟩
    · unfold nbC; rw [if_neg hb]
    · unfold nbI; rw [if_neg hb]; exact OwK.nil _ _ _ _
    · unfold nbI; rw [if_neg hb]; exact Nat.zero_le _
  · rw [Bool.not_eq_false', decide_eq_true_eq] at hb
    obtain ⟨n, rfl⟩ : ∃ n : Nat, k = (n : Int) := ⟨k.toNat, by omega⟩
    refine iCall ((ok_impl_readJournal (m := n) (by omega) ht (hT.ext X3)).mono ?_)
    rintro r w4 ⟨x4, b', vi', ve', rfl, hj', -, -⟩
    refine iNil (iFa (iLdB hj'.blk rfl ?_))
    refine ⟨X3.trans x4, vi', ?_, ?_, ?_⟩
    · unfold nbC; rw [if_pos hb]
    · unfold nbI; rw [if_pos hb, Int.toNat_natCast]; exact OwK.mono hj'.it X3.size
    · unfold nbI; rw [if_pos hb, Int.toNat_natCast]; exact hj'.ji.len
end Go.Proofs.YtapdkkijoflcpaaGreatDoor

/- Plain law of journals: what is cut off a journal's last line. No program in sight. Conditions: none. -/
namespace Go.Vc
theorem split10 : ∀ {t : Str}, 10 ∈ t → t = t.takeWhile (fun c => c != 10) ++ 10 :: (t.dropWhile fun c => c != 10).tail
  | [], h => by cases h
  | x :: t, h => by
    by_cases hx : x = 10
    · subst hx; simp
    · have h' : 10 ∈ t := by
        rcases List.mem_cons.1 h with e | h
        · exact absurd e.symm hx
        · exact h
      have ih := split10 h'
      have hb : (x != 10) = true := by simpa using hx
      rw [List.takeWhile_cons, List.dropWhile_cons, hb]
      show x :: t = x :: (t.takeWhile _ ++ 10 :: (t.dropWhile _).tail)
      rw [← ih]
theorem readJ_pre : ∀ (m : Nat) (t : Str) (j : Jn), ∃ r, j.text ++ t = (readJ m t j).text ++ r
  | 0, t, j => ⟨t, rfl⟩
  | m + 1, t, j => by
    rw [readJ]
    split
    · rename_i h10
      cases hp : pStep j (t.takeWhile fun c => c != 10) with
      | none => exact ⟨t, rfl⟩
      | some j' =>
        obtain ⟨r, hr⟩ := readJ_pre m (t.dropWhile fun c => c != 10).tail j'
        refine ⟨r, ?_⟩
        show j.text ++ t = (readJ m (t.dropWhile fun c => c != 10).tail j').text ++ r
        rw [← hr]
        unfold pStep at hp
        split at hp
        · rename_i hb
          rw [Bool.and_eq_true, decide_eq_true_eq] at hb
          obtain ⟨L, _, rfl⟩ := addJ_some hp
          show j.text ++ t = (j.text ++ lineC j.chk _) ++ _
          rw [hb.2, List.append_assoc]
          congr 1
          rw [List.append_assoc]
          exact split10 h10
        · cases hp
    · exact ⟨t, rfl⟩
theorem readJ_len : ∀ (m : Nat) (t : Str) (j : Jn), (readJ m t j).ents.length ≤ j.ents.length + m
  | 0, t, j => Nat.le_refl _
  | m + 1, t, j => by
    rw [readJ]
    split
    · cases hp : pStep j (t.takeWhile fun c => c != 10) with
      | none => show j.ents.length ≤ _; omega
      | some j' =>
        have h1 := readJ_len m (t.dropWhile fun c => c != 10).tail j'
        show (readJ m (t.dropWhile fun c => c != 10).tail j').ents.length ≤ _
        unfold pStep at hp
        split at hp
        · obtain ⟨L, _, rfl⟩ := addJ_some hp
          simp only [List.length_append, List.length_cons, List.length_nil] at h1
          omega
        · cases hp
    · omega
theorem openJ_pre (t : Str) : ∃ r, t = (openJ t).text ++ r := readJ_pre 60 t jn0
theorem openJ_len (t : Str) : (openJ t).ents.length ≤ 60 := by
  have := readJ_len 60 t jn0
  rw [show jn0.ents.length = 0 from rfl, Nat.zero_add] at this
  exact this
/-- The first lines alone tell the state behind them. -/
theorem Reach.first {j : Jn} (h : Reach j) : ∀ (k : Nat) (r r' : Str), k ≤ j.ents.length → readJ k (j.text ++ r) jn0 = readJ k (j.text ++ r') jn0 := by
  induction h with
  | nil =>
    intro k r r' hk
    obtain rfl : k = 0 := by simpa [jn0] using hk
    rfl
  | @add j j' e hr he ha ih =>
    intro k r r' hk
    have ha' : Reach j' := .add hr he ha
    by_cases hk1 : k ≤ j.ents.length
    · obtain ⟨L, _, rfl⟩ := addJ_some ha
      show readJ k ((j.text ++ lineC j.chk e) ++ r) jn0 = readJ k ((j.text ++ lineC j.chk e) ++ r') jn0
      rw [List.append_assoc, List.append_assoc]
      exact ih k _ _ hk1
    · have : k = j'.ents.length := by
        obtain ⟨L, _, rfl⟩ := addJ_some ha
        simp only [List.length_append, List.length_cons, List.length_nil] at hk ⊢
        omega
      rw [ha'.read k r (by omega), ha'.read k r' (by omega), this, Nat.sub_self]
      rfl
theorem lineC_no10 {c : Nat} {e : Ent} (he : entB e = true) {k : Nat} (hk : k < (lineC c e).length) : ∀ x ∈ (lineC c e).take k, x ≠ 10 := by
  have e1 : lineC c e = (lineT e ++ 32 :: decT (chkT c (lineT e))) ++ [10] := by unfold lineC; simp
  rw [e1] at hk ⊢
  rw [List.length_append, List.length_singleton] at hk
  rw [List.take_append_of_le_length (by omega)]
  intro x hx
  have hx := List.mem_of_mem_take hx
  rcases List.mem_append.1 hx with hx | hx
  · exact line_no10 he x hx
  rcases List.mem_cons.1 hx with rfl | hx
  · decide
  · exact ne_of_ge (decT_ge _ x hx) (by decide)
/-- A line that is not whole is not read. -/
theorem Reach.cut {j : Jn} (h : Reach j) (hl : j.ents.length ≤ 60) {s : Str} (hs : ∀ x ∈ s, x ≠ 10) : openJ (j.text ++ s) = j := by
  have := h.read 60 s hl
  rw [readJ_miss hs] at this
  exact this
end Go.Vc

/- The laws' helpers: sizes of codes, equal lists and frames. Conditions: none. -/
namespace Go.Vc
end Go.Vc
namespace Go.Proofs.YtapdkkijoflcpaaGreatDoor
open Go.Vc
theorem ok_laws_big {vc : Value} {w : World} {bs : List Nat} (hc : SlB w vc bs) : Ret Tryz.prog f_laws_big #[vc] w (.bool (decide ((4096 : Int) < (bs.length : Nat)))) := by
  apply c_laws_big; unfold S_laws_big
  refine iLenB hc ?_
  refine iLt ?_
  exact ⟨rfl, Ext.refl _⟩
end Go.Proofs.YtapdkkijoflcpaaGreatDoor

/- The law on crashes of a journal: what its body answers. Conditions: none; the table of powers of ten is asked for. -/
namespace Go.Vc
/-- '!=' on the same item. -/
theorem iNeItm {P : Program} {w : World} {t t0 t1 t2 : TypeId} {x : Itm} {xo yo : Operand} {K : Value → Prop} (hu : P.underlying t = some (.struct (P.fieldsOf t))) (hp : P.stoodInHeld t = false) (hg : P.eqGuardType P.depth t = false)
    (hf : (P.fieldsOf t).toList.map (fun f => (f.name == "_", f.offset, f.type)) = [(false, 0, t0), (false, 1, t1), (false, 2, t2)]) (h0 : P.underlying t0 = some .string) (h1 : P.underlying t1 = some .string) (h2 : P.underlying t2 = some (.int .i64))
    (h : K (.bool false)) : xR P w (do eqGuard .neq t xo yo x.val x.val; binOp .neq t x.val x.val) K := by
  refine ⟨_, fun w' _ => ?_, h⟩
  obtain ⟨f0, f1, f2, hl, n0, n1, n2, o0, o1, o2, rfl, rfl, rfl⟩ : ∃ f0 f1 f2, (P.fieldsOf t).toList = [f0, f1, f2] ∧ ¬ f0.name = "_" ∧ ¬ f1.name = "_" ∧ ¬ f2.name = "_" ∧ f0.offset = 0 ∧ f1.offset = 1 ∧ f2.offset = 2 ∧ f0.type = t0 ∧ f1.type = t1 ∧ f2.type = t2 := by
    generalize (P.fieldsOf t).toList = l at hf
    rcases l with _ | ⟨f0, _ | ⟨f1, _ | ⟨f2, _ | ⟨f3, l⟩⟩⟩⟩ <;> simp at hf
    exact ⟨f0, f1, f2, rfl, hf.1.1, hf.2.1.1, hf.2.2.1, hf.1.2.1, hf.2.1.2.1, hf.2.2.2.1, hf.1.2.2, hf.2.1.2.2, hf.2.2.2.2⟩
  have pt : ∀ (t : TypeId) (cs : Array Value) (o : Nat) (x : Value), (P.underlying t = some (.int .i64) ∨ P.underlying t = some .string) → cs[o]? = some x → (part t cs o).run P w' = .ok x w' := fun t cs o x ht hx => by
    have hg : isAgg? P t = some false := by rcases ht with ht | ht <;> simp [isAgg?, ht]
    simp [part, isAgg_run hg, hx]
  have eqs : ∀ (d : Nat) (t : TypeId) (a : Str), P.underlying t = some .string → (Op.equalIn (d + 1) t (sv a) (sv a)).run P w' = .ok true w' := fun d t a ht => by
    have := run_equalIn_string w' d t ⟨a.toArray⟩ ⟨a.toArray⟩ ht
    simpa using this
  show ((do eqGuard .neq t xo yo (.agg #[sv x.nm, sv x.fm, .int .i64 x.cl]) (.agg #[sv x.nm, sv x.fm, .int .i64 x.cl]); binOp .neq t (.agg #[sv x.nm, sv x.fm, .int .i64 x.cl]) (.agg #[sv x.nm, sv x.fm, .int .i64 x.cl])) : Sem Value).run P w' = .ok (.bool false) w'
  rw [Sem.run_bind, run_eqGuard_agg w' .neq t xo yo _ _ hg, Result.andThen_ok, run_neq_struct, run_equalIn_struct w' 9999 t _ _ hu hp, hl]
  simp only [Op.eqFields, ne_eq, n0, n1, n2, not_false_eq_true, if_true, o0, o1, o2, Sem.run_bind]
  rw [pt _ _ 0 (sv x.nm) (.inr h0) rfl, Result.andThen_ok, pt _ _ 0 (sv x.nm) (.inr h0) rfl, Result.andThen_ok, eqs 9998 _ x.nm h0, Result.andThen_ok]
  simp only [Bool.not_true, Bool.false_eq_true, if_false, Sem.run_bind]
  rw [pt _ _ 1 (sv x.fm) (.inr h1) rfl, Result.andThen_ok, pt _ _ 1 (sv x.fm) (.inr h1) rfl, Result.andThen_ok, eqs 9998 _ x.fm h1, Result.andThen_ok]
  simp only [Bool.not_true, Bool.false_eq_true, if_false, Sem.run_bind]
  rw [pt _ _ 2 (.int .i64 x.cl) (.inl h2) rfl, Result.andThen_ok, pt _ _ 2 (.int .i64 x.cl) (.inl h2) rfl, Result.andThen_ok, run_equalIn_int w' 9998 _ .i64 .i64 _ _ h2, Result.andThen_ok]
  simp
/-- What stands behind a journal to which an entry is put. -/
theorem crash_add {t : Str} {e : Ent} (h : addC (openJ t) e = 0) :
    entB e = true ∧ ∃ j', openJ (appT (openJ t) e) = j' ∧ Reach j' ∧ j'.text = (openJ t).text ++ lineC (openJ t).chk e ∧ appT (openJ t) e = j'.text ∧ j'.ents.length = (openJ t).ents.length + 1 ∧ j'.ents.length ≤ 60 := by
  have he : entB e = true := by
    cases hb : entB e with
    | true => rfl
    | false => unfold addC at h; rw [if_pos hb] at h; cases h
  refine ⟨he, ?_⟩
  have happ : appT (openJ t) e = (openJ t).text ++ lineC (openJ t).chk e := by unfold appT; rw [if_pos h]
  have hR := open_reach t
  have hlen := openJ_len t
  unfold addC at h
  rw [if_neg (by rw [he]; decide)] at h
  cases hs : stepI (openJ t).items e with
  | none => rw [hs] at h; simp at h
  | some L =>
    rw [hs] at h
    have h : (if (openJ t).ents.length = 60 ∨ 6000 < ((openJ t).text ++ lineC (openJ t).chk e).length then (3 : Int) else 0) = 0 := h
    have h60 : ¬ (openJ t).ents.length = 60 := fun hc => by rw [if_pos (.inl hc)] at h; cases h
    have hadd : addJ (openJ t) e = some ⟨L, (openJ t).ents ++ [e], (openJ t).text ++ lineC (openJ t).chk e, (openJ t).hist ++ [L]⟩ := by unfold addJ; rw [hs]; rfl
    have hR' := Reach.add hR he hadd
    have hl' : ((openJ t).ents ++ [e]).length = (openJ t).ents.length + 1 := by simp
    refine ⟨_, ?_, hR', rfl, happ, hl', by rw [hl']; omega⟩
    rw [happ]
    exact hR'.open (by rw [hl']; omega)
end Go.Vc
namespace Go.Proofs.YtapdkkijoflcpaaGreatDoor
open Go.Vc
theorem ok_laws_roll {vc : Value} {w : World} {bs : List Nat} (hc : SlB w vc bs) (seed : Nat) : Cal Tryz.prog f_laws_roll #[vc, .int .u64 (seed : Int)] w fun v w' => ∃ b, v = .pointer (some ⟨b, 0, none⟩) ∧ Vc.Src 62 w vc b w' := by
  apply c_laws_roll; unfold S_laws_roll
  have hbl := hc.len
  refine iMulU fun m _ => ?_
  refine iLenB hc (iConvU (by omega) ?_)
  refine iAddUW fun m0 hm0 => ?_
  have hvc : ∃ a n c, vc = .slice a n c := by obtain ⟨a, c, h, _⟩ := hc.1; exact ⟨a, _, c, h⟩
  obtain ⟨va, vn, vcc, rfl⟩ := hvc
  refine iBuild (cs := #[.slice va vn vcc, .int .i64 0, .int .u64 (m0 : Int)]) (by simp [Instr.fill, Value.cells]) ?_
  refine iNew fun b w1 hb h1 hB => ?_
  have hB : Blk 62 w1 b [.slice va vn vcc, .int .i64 0, .int .u64 (m0 : Int)] := hB
  have hlo : w.heap.size ≤ b := by omega
  refine iLp (fun k : Nat => [.int .i64 (k : Int)]) (fun k w' => k ≤ bs.length ∧ Vc.Src 62 w (.slice va vn vcc) b w') (fun k => bs.length - k) 0 rfl ⟨Nat.zero_le _, h1, hlo, 0, m0, hB, by omega, hm0⟩ ?_
  rintro k w3 Kn ⟨hk, hS⟩ hKn
  have hc3 := hc.ext hS.ext
  intro _
  simp only [gx]
  refine iLenB hc3 (iLt (iCndP (fun h => ?_) (fun h => ⟨b, rfl, hS⟩)))
  obtain ⟨hX, _, at_, hash, hB3, hat, hh⟩ := hS
  refine iNil (iFa (iLdB hB3 (v := .int .u64 (hash : Int)) rfl ?_))
  refine iMulU fun m1 _ => ?_
  refine iIaB hc3 (by omega) fun p y hy hp => iLd hp ?_
  refine iConvU (by omega) (iAddUW fun m2 _ => iAddUW fun m3 hm3 => ?_)
  refine iNil (iFa ?_)
  intro w4 h4
  have hB4 := hB3.ext h4
  refine iStB hB4 (show 2 < 3 by decide) rfl fun hB5 => ?_
  have hu := Upd.setCell w4 b 2 (.int .u64 (m3 : Int))
  intro w6 h6
  refine iAdd (by omega) ?_
  exact hKn (k + 1) _ ⟨by omega, ((hX.trans h4).upd hu hlo).trans h6, hlo, at_, m3, Blk.ext hB5 h6, hat, hm3⟩ (by omega)
/-- Rows of the same items are told the same. -/
theorem same_items {t0 t1 t2 : TypeId} (h0 : Tryz.prog.underlying t0 = some .string) (h1 : Tryz.prog.underlying t1 = some .string) (h2 : Tryz.prog.underlying t2 = some (.int .i64))
    (hf : (Tryz.prog.fieldsOf 38).toList.map (fun f => (f.name == "_", f.offset, f.type)) = [(false, 0, t0), (false, 1, t1), (false, 2, t2)])
    {w : World} {a b : Value} {L : List Itm} {xo yo : Operand} {K F : World → Prop} (ha : SlIt w a L) (hb : SlIt w b L) (hl : L.length ≤ 12) (hK : ∀ w', Ext w w' → K w') :
    lp (fun K1 xs1 w2 => ∀ _ : Nat → Value, xLenS a fun v209 => xLt .i64 (gx xs1 0) v209 fun v210 => cnd v210 (xIa 3 a (gx xs1 0) fun v215 => xLdA w2 3 v215 fun v216 => xIa 3 b (gx xs1 0) fun v219 => xLdA w2 3 v219 fun v220 =>
      xR Tryz.prog w2 (do eqGuard .neq 38 xo yo v216 v220; binOp .neq 38 v216 v220) fun v221 => ∀ w38, Ext w2 w38 → cnd v221 (F w38) (xAdd .i64 (gx xs1 0) (.int .i64 1) fun v212 => K1 [v212] w38)) (K w2)) [(.int .i64 0)] w := by
  refine iLp (fun i : Nat => [.int .i64 (i : Int)]) (fun i w' => i ≤ L.length ∧ Ext w w') (fun i => L.length - i) 0 rfl ⟨Nat.zero_le _, Ext.refl _⟩ ?_
  rintro i w2 Kn ⟨hi, x2⟩ hKn
  intro _
  simp only [gx]
  have ha2 : SlIt w2 a L := SlK.ext ha x2
  have hb2 : SlIt w2 b L := SlK.ext hb x2
  refine iLenK ha2 ?_
  refine iLt (iCndP (fun h => ?_) (fun _ => hK _ x2))
  have hi1 : i < L.length := by omega
  refine iItm ha2 rfl hi1 (iItm hb2 rfl hi1 ?_)
  refine iNeItm (by kernel_rfl) (by kernel_rfl) (by kernel_rfl) hf h0 h1 h2 ?_
  intro w3 x3
  refine iCndF rfl ?_
  refine iAdd (by omega) ?_
  exact hKn (i + 1) _ ⟨by omega, x2.trans x3⟩ (by omega)
theorem fld_items : (Tryz.prog.fieldsOf 38).toList.map (fun f => (f.name == "_", f.offset, f.type)) = [(false, 0, t_string), (false, 1, t_string), (false, 2, t_i64)] := by kernel_rfl
theorem u_stringC : Tryz.prog.underlying t_string = some .string := by kernel_rfl
theorem u_i64C : Tryz.prog.underlying t_i64 = some (.int .i64) := by kernel_rfl
theorem ok_laws_FnCrashes {w : World} {vc : Value} {bs : List Nat} (hT : TabOk w) (hc : SlB w vc bs) : Ret Tryz.prog f_laws_FnCrashes #[vc] w (.bool true) := by
  apply c_laws_FnCrashes; unfold S_laws_FnCrashes
  refine iRet (ok_laws_big hc) fun w1 x1 => ?_
  refine iCndP (fun _ => ⟨by first | trivial | rfl, x1⟩) (fun _ => ?_)
  refine iCall ((ok_spec_DrawAppendEntry (hc.ext x1)).mono ?_)
  rintro _ w2 ⟨x2, t, en, rfl, ht, hsz⟩
  refine iE20 (iE21 ?_)
  refine iNew3 fun b4 w3 hb4 x3 hB3 => ?_
  refine iSt3 hB3 rfl rfl rfl rfl fun w4 hB4 hch4 => ?_
  refine iLd3 hB4 ?_
  have X4 : Ext w w4 := ((x1.trans x2).trans x3).thenCh hch4 fun c hc => by have hc : c = b4 := hc; have := (x1.trans x2).size; omega
  refine iRet (ok_impl_AppendEntry (t := t) (e := en) (by omega) (by omega) (hT.ext X4)) fun w5 x5 => iE20 (iE21 ?_)
  refine iLd3 (hB4.ext x5) ?_
  refine iRet (ok_spec_AppendEntry (t := t) (e := en) (by omega) (by omega) w5) fun w6 x6 => iE20 (iE21 ?_)
  refine iJnB false w6 (fun J hJ => ?_) (fun w8 x8 => ?_)
  · refine iNe (iCndF (decide_eq_false fun h => h rfl) ?_)
    refine iNeT ?_
    rw [decide_eq_false (fun h => h rfl)]
    exact hJ _ (Ext.refl _)
  intro _
  refine iCndF rfl ?_
  have X8 := ((X4.trans x5).trans x6).trans x8
  refine iNe (iCndP (fun h => ?_) (fun h => ?_))
  · have e : appT (openJ t) en = [] := by unfold appT; rw [if_neg h]
    rw [e]
    refine iEqT (b := []) ?_
    exact ⟨by rw [decide_eq_true rfl], X8⟩
  have h0 : addC (openJ t) en = 0 := Classical.not_not.1 h
  obtain ⟨he, j', hj', hR', htx, happ, hel, h60⟩ := crash_add h0
  obtain ⟨r0, hr0⟩ := openJ_pre t
  have hR := open_reach t
  have hn60 := openJ_len t
  have hal : (appT (openJ t) en).length ≤ 6000 := appT_len
  rw [happ] at hal hj' ⊢
  have hLn : 0 < (lineC (openJ t).chk en).length := by unfold lineC; simp only [List.length_append, List.length_cons]; omega
  have hno := fun k hk => lineC_no10 (c := (openJ t).chk) he (k := k) hk
  have htl : t.length = (openJ t).text.length + r0.length := by
    have := congrArg List.length hr0
    rwa [List.length_append] at this
  have hjl : j'.text.length = (openJ t).text.length + (lineC (openJ t).chk en).length := by rw [htx, List.length_append]
  have htk : t.take (openJ t).text.length = (openJ t).text := by
    have := List.take_left (l₁ := (openJ t).text) (l₂ := r0)
    rwa [← hr0] at this
  have htk' : j'.text.take (openJ t).text.length = (openJ t).text := by rw [htx]; exact List.take_left
  refine iCall ((ok_impl_ReadNotebook (t := t) (by omega) (hT.ext X8)).mono ?_)
  rintro _ w9 ⟨x9, v63, rfl, hI9, hl9⟩
  refine iE30 (iE31 (iE32 ?_))
  refine iCall ((ok_impl_ReadNotebook (t := j'.text) (by omega) (hT.ext (X8.trans x9))).mono ?_)
  rintro _ w10 ⟨x10, v69, rfl, hI10, hl10⟩
  rw [hj'] at hI10 hl10 ⊢
  refine iE30 (iE31 (iE32 ?_))
  have X10 := (X8.trans x9).trans x10
  generalize hjt : openJ t = j at *
  refine iJnB false w10 (fun J hJ => ?_) (fun w12 x12 => ?_)
  · refine iAdd (by omega) (iNe (iCndF (decide_eq_false (by omega)) ?_))
    refine iLenT (iNe (iCndF (decide_eq_false fun h => h rfl) ?_))
    refine iLenT (iLt (iCndF (decide_eq_false (by omega)) ?_))
    refine iLe (iCndF (decide_eq_false (by omega)) ?_)
    refine iTxTo (by omega) (iTxTo (by omega) (iNeT ?_))
    rw [htk, htk', decide_eq_false (fun h => h rfl)]
    exact fun w17 x17 => hJ _ x17
  intro _
  refine iCndF rfl ?_
  have X12 := X10.trans x12
  have hI12 := (hI9.ext x10).ext x12
  have hI12' := hI10.ext x12
  refine iCall ((ok_laws_roll (hc.ext X12) 10).mono ?_)
  rintro _ w18 ⟨b, rfl, hS18⟩
  refine iLp (fun k : Nat => [.int .i64 (k : Int)]) (fun k w' => k ≤ 4 ∧ Vc.Src 62 w12 vc b w') (fun k => 4 - k) 0 rfl ⟨by decide, hS18⟩ ?_
  rintro k w20 Kn ⟨hk, hS20⟩ hKn
  intro _
  simp only [gx]
  refine iLt (iCndP (fun hk4 => ?_) (fun hk4 => ?_))
  · refine iSub (by omega) (iAdd (by omega) ?_)
    refine iCall ((ok_laws_dice_below (hc.ext X12) hS20 _).mono ?_)
    rintro _ w21 ⟨⟨y, rfl, hy, _⟩, hS21, _⟩
    have hy := hy (by omega)
    have hyl : y ≤ (lineC j.chk en).length := by omega
    refine iAdd (by omega) ?_
    rw [show (j.text.length : Int) + (y : Int) = ((j.text.length + y : Nat) : Int) by omega]
    refine iTxTo (by omega) ?_
    refine iCall ((ok_impl_ReadNotebook (t := j'.text.take (j.text.length + y)) (by rw [List.length_take]; omega) (hT.ext (X12.trans hS21.ext))).mono ?_)
    rintro _ w22 ⟨x22, v121, rfl, hI22, hl22⟩
    have hG : openJ (j'.text.take (j.text.length + y)) = if y = (lineC j.chk en).length then j' else j := by
      by_cases hf : y = (lineC j.chk en).length
      · rw [if_pos hf, List.take_of_length_le (by omega), hj']
      · rw [if_neg hf, htx, List.take_length_add_append]
        exact hR.cut hn60 (hno y (by omega))
    refine iE30 (iE31 (iE32 ?_))
    rw [hG] at hI22 hl22 ⊢
    have X22 : Ext w12 w22 := hS21.ext.trans x22
    refine iEq ?_
    refine iJnX (fun xs w' => ∃ u, xs = [u] ∧ Ext w22 w' ∧ SlIt w' u (if y = (lineC j.chk en).length then j' else j).items) (fun J hJ => ?_) ?_
    · refine iCndP (fun hf => ?_) (fun hf => ?_)
      · rw [if_pos (by omega)] at hJ
        exact hJ _ _ ⟨v69, rfl, Ext.refl _, (hI12'.ext X22).sl⟩
      · rw [if_neg (by omega)] at hJ
        exact hJ _ _ ⟨v63, rfl, Ext.refl _, (hI12.ext X22).sl⟩
    rintro _ w23 ⟨u, rfl, x23, hu⟩
    have hI23 := hI22.ext x23
    intro _
    simp only [gx]
    refine iJnB false w23 (fun J hJ => ?_) (fun w26 x26 => ?_)
    · refine iLenK hI23.sl (iLenK hu (iNe (iCndF (decide_eq_false fun h => h rfl) ?_)))
      by_cases hf : y = (lineC j.chk en).length
      · rw [if_pos hf]
        refine iNe (iCndT (decide_eq_true (by omega)) ?_)
        refine iLt (iCndF (decide_eq_false (by omega)) ?_)
        refine iNe (iCndF (decide_eq_false fun h => h rfl) ?_)
        refine iNe (iCndT (decide_eq_true (by omega)) ?_)
        refine iLt ?_
        rw [decide_eq_false (by omega)]
        exact hJ _ (Ext.refl _)
      · rw [if_neg hf]
        refine iNe (iCndF (decide_eq_false fun h => h rfl) ?_)
        refine iNe (iCndT (decide_eq_true (by omega)) ?_)
        refine iEq (iCndF (decide_eq_false (by omega)) ?_)
        refine iNe (iCndF (decide_eq_false fun h => h rfl) ?_)
        exact hJ _ (Ext.refl _)
    intro _
    refine iCndF rfl ?_
    refine same_items u_stringC u_stringC u_i64C fld_items (SlK.ext hI23.sl x26) (SlK.ext hu x26) hl22 fun w28 x28 => ?_
    refine iAdd (by omega) ?_
    exact hKn (k + 1) _ ⟨by omega, hS21.later (((x22.trans x23).trans x26).trans x28)⟩ (by omega)
  · have X20 := X12.trans hS20.ext
    refine iLp (fun k : Nat => [.int .i64 (k : Int)]) (fun k w' => k ≤ j.ents.length + 1 ∧ Ext w w') (fun k => j.ents.length + 1 - k) 0 rfl ⟨Nat.zero_le _, X20⟩ ?_
    rintro m w31 Kn2 ⟨hm, x31⟩ hKn2
    intro _
    simp only [gx]
    refine iLe (iCndP (fun h32 => ?_) (fun _ => ⟨by first | trivial | rfl, x31⟩))
    have hmn : m ≤ j.ents.length := by omega
    have c1 : nbC t (m : Int) = 0 := by unfold nbC; rw [hjt, if_pos ⟨by omega, by omega⟩]
    have c2 : nbC j'.text (m : Int) = 0 := by unfold nbC; rw [hj', if_pos ⟨by omega, by omega⟩]
    have i12 : nbI t (m : Int) = nbI j'.text (m : Int) := by
      unfold nbI
      rw [hjt, hj', if_pos ⟨by omega, by omega⟩, if_pos ⟨by omega, by omega⟩, Int.toNat_natCast]
      have := hR.first m r0 (lineC j.chk en) hmn
      rw [← hr0, ← htx] at this
      rw [this]
    refine iCall ((ok_impl_NotebookAt (t := t) (k := (m : Int)) (by omega) (hT.ext x31)).mono ?_)
    rintro _ w32 ⟨x32, v188, rfl, hI32, hl32⟩
    refine iE20 (iE21 ?_)
    refine iCall ((ok_impl_NotebookAt (t := j'.text) (k := (m : Int)) (by omega) (hT.ext (x31.trans x32))).mono ?_)
    rintro _ w33 ⟨x33, v194, rfl, hI33, hl33⟩
    refine iE20 (iE21 ?_)
    rw [c1, c2]
    rw [← i12] at hI33 hl33
    have hI32 := hI32.ext x33
    generalize nbI t (m : Int) = L at *
    refine iJnB false w33 (fun J hJ => ?_) (fun w35 x35 => ?_)
    · refine iAdd (by omega) (iNe (iCndF (decide_eq_false fun h => h rfl) ?_))
      refine iLenK hI32.sl (iLenK hI33.sl (iNe ?_))
      rw [decide_eq_false (fun h => h rfl)]
      exact hJ _ (Ext.refl _)
    intro _
    refine iCndF rfl ?_
    refine same_items u_stringC u_stringC u_i64C fld_items (SlK.ext hI32.sl x35) (SlK.ext hI33.sl x35) hl33 fun w37 x37 => ?_
    refine iAdd (by omega) ?_
    exact hKn2 (m + 1) _ ⟨by omega, (((x31.trans x32).trans x33).trans x35).trans x37⟩ (by omega)
end Go.Proofs.YtapdkkijoflcpaaGreatDoor
