/- The proof of FnSequentsOfDeductions, part 5 of 8. Conditions: none. -/
import Derived.Test.YtkjoppimpmojfaaGreatKR52d
namespace Go.Vc
theorem TB {s:Ded} {G:List Sq} (h:s.rule = 1):dN s G = (decide (G = []) && (decide (0 ≤ s.num ∧ s.num ≤ (s.asm.length:Int) - 1) && decide (gt s.asm s.num.toNat = s.con))):=by
 unfold dN ruleB
 rw [if_pos (.inl h),if_pos h]
theorem S9 {s:Ded} {G:List Sq} (h:s.rule = 2):dN s G = decide (G = [(s.asm,Fm.fls.body)]):=by
 unfold dN ruleB
 rw [if_pos (by omega),if_neg (by omega),if_pos h]
theorem QZ {s:Ded} {G:List Sq} (h:s.rule = 3):dN s G = (match parK s.con 2 with | some p=>decide (G = [(s.asm,p.1),(s.asm,p.2)]) | none=>false):=by
 unfold dN ruleB
 rw [if_pos (by omega),if_neg (by omega),if_neg (by omega),if_pos h]
 rfl
theorem N7 {s:Ded} {G:List Sq} (h:s.rule = 6):dN s G = (match parK s.con 3 with | some p=>decide (G = [(s.asm,p.1)]) | none=>false):=by
 unfold dN ruleB
 rw [if_pos (by omega),if_neg (by omega),if_neg (by omega),if_neg (by omega),if_neg (by omega),if_neg (by omega),if_pos h]
 rfl
theorem H2 {s:Ded} {G:List Sq} (h:s.rule = 7):dN s G = (match parK s.con 3 with | some p=>decide (G = [(s.asm,p.2)]) | none=>false):=by
 unfold dN ruleB
 rw [if_pos (by omega),if_neg (by omega),if_neg (by omega),if_neg (by omega),if_neg (by omega),if_neg (by omega),if_neg (by omega),if_pos h]
 rfl
theorem SH {s:Ded} {G:List Sq} (h:s.rule = 9):dN s G = (match parK s.con 4 with | some p=>decide (G = [(s.asm ++ [p.1],p.2)]) | none=>false):=by
 unfold dN ruleB
 rw [if_pos (by omega),if_neg (by omega),if_neg (by omega),if_neg (by omega),if_neg (by omega),if_neg (by omega),if_neg (by omega),if_neg (by omega),if_neg (by omega),if_pos h]
 rfl
end Go.Vc
namespace Go.Proofs.YtkjoppimpmojfaaGreat
open Go.Vc
theorem DQ {v:Value} {L:List Str} {w:World} (hs:SlT w v L):Ret Tryz.prog l7 #[v] w (.int .i64 (L.length:Int)):=by
 apply sV;unfold mB
 exact aM hs ⟨rfl,Ext.refl _⟩
def WantQ (s:Ded) (G:List Sq) (w:World):List Value → World → Prop:=fun xs w'=>∃ u ok R,xs = [u,.bool ok] ∧ Ext w w' ∧ GsR w' u R ∧ (ok && decide (G = R.map Prod.snd)) = dN s G
theorem WantQ.no {s:Ded} {G:List Sq} {w w':World} (x:Ext w w') (h:dN s G = false):WantQ s G w [.slice none 0 0,.bool false] w':=⟨_,false,[],rfl,x,GsR.nil _,by rw [h];rfl⟩
theorem AC {x:DV} {w:World} {v:Value} {R:List (Value × Sq)} (hx:SlT w x.vl x.d.asm) (h:GsR w v R) (hp:plT x.d.con = true) (hl:x.d.asm.length ≤ 1000):Ret Tryz.prog iL #[.agg x.cs.toArray,v] w (.bool (dN x.d (R.map Prod.snd))):=by
 generalize hG:R.map Prod.snd = G
 apply o8;unfold iK
 refine iNew5 fun q1 w1 hq1 x1 hB1=>?_
 have hx1:=hx.ext x1
 have hc1:aD x.vl = true:=SlK.lfCell hx1
 have hB1:Blk aC w1 q1 [.int .i64 x.d.rule,x.vp,x.vl,sv x.d.con,.int .i64 x.d.num]:=hB1
 refine iFa (iLdB hB1 (i:=0) (v:=.int .i64 x.d.rule) rfl ?_)
 have pass:∀ {J:List Value → World → Prop},(∀ xs w,WantQ x.d G w1 xs w → J xs w) → ∀ xs w,WantQ x.d G w1 xs w → (∀ _:Nat → Value,J [gx xs 0,gx xs 1] w):=fun hJ xs w hq=>by
  obtain ⟨u,ok,R',rfl,h1,h2,h3⟩:=hq
  exact fun _=>hJ _ _ ⟨u,ok,R',rfl,h1,h2,h3⟩
 refine iEq ?_
 refine iJnX (WantQ x.d G w1) (fun J2 hJ2=>?_) (fun xs w3 hq=>?_)
 rotate_left
 ·obtain ⟨u,ok,R',rfl,x3,hR',he⟩:=hq
  intro _
  simp only [gx]
  have X3:=x1.trans x3
  refine iJnB (dN x.d G) w3 (fun J hJ=>?_) (fun w4 x4=>fun _=>⟨by first | trivial | rfl,X3.trans x4⟩)
  cases ok with
  | false=>
   rw [← he] at hJ
   exact iCndF rfl (hJ _ (Ext.refl _))
  | true=>
   rw [Bool.true_and] at he
   refine iCndT rfl ?_
   refine iRet (tB (h.ext X3) hR') fun w5 x5=>?_
   rw [hG,he]
   exact hJ _ x5
 refine iCndP (fun h1=>?_) (fun h1=>?_)
 · -- an assumption
  have hi:=TB (G:=G) h1
  refine iJnB (decide (0 ≤ x.d.num ∧ x.d.num ≤ (x.d.asm.length:Int) - 1) && decide (gt x.d.asm x.d.num.toNat = x.d.con)) w1 (fun J hJ=>?_) (fun w5 x5=>?_)
  ·refine iFa (iLdB hB1 (i:=4) (v:=.int .i64 x.d.num) rfl ?_)
   refine iFa (iLdB hB1 (i:=2) (v:=x.vl) rfl ?_)
   refine iRetQ (fun w' x'=>DQ (hx1.ext x')) (iSub (by omega) ?_)
   refine iRetQ (fun w' _=>iP _ _ _ w') ?_
   refine iCndP (fun hr=>?_) (fun hr=>?_)
   ·rw [decide_eq_true hr,Bool.true_and] at hJ
    refine iFa (iLdB hB1 (i:=2) (v:=x.vl) rfl ?_)
    refine iFa (iLdB hB1 (i:=4) (v:=.int .i64 x.d.num) rfl ?_)
    refine iIaG (j:=x.d.num.toNat) hx1 (by omega) (by omega) ?_
    refine iFa (iLdB hB1 (i:=3) (v:=sv x.d.con) rfl (iEqT ?_))
    exact fun w6 x6=>hJ _ x6
   ·rw [decide_eq_false hr,Bool.false_and] at hJ
    exact fun w7 x7=>hJ _ x7
  ·intro _
   refine hJ2 _ _ ⟨_,_,[],rfl,x5,GsR.nil _,?_⟩
   rw [hi,Bool.and_comm];rfl
 refine iEq ?_
 refine iJnX (WantQ x.d G w1) (fun J8 hJ8=>?_) (pass hJ2)
 refine iCndP (fun h2=>?_) (fun h2=>?_)
 ·have hi:=S9 (G:=G) h2
  refine iFa (iLdB hB1 (i:=2) (v:=x.vl) rfl ?_)
  refine cY hc1 rfl ?_
  refine iBsA fun b w10 _ x10 hB=>?_
  refine hJ8 _ _ ⟨_,true,[(x.vl,(x.d.asm,Fm.fls.body))],rfl,x10,GsR.one hB (hx1.ext x10),?_⟩
  rw [hi,Bool.true_and];rfl
 refine iEq ?_
 refine iJnX (WantQ x.d G w1) (fun J11 hJ11=>?_) (pass hJ8)
 refine iCndP (fun h3=>?_) (fun h3=>?_)
 ·have hi:=QZ (G:=G) h3
  refine iFa (iLdB hB1 (i:=3) (v:=sv x.d.con) rfl ?_)
  refine iCall ((bT hp 2 w1).mono ?_)
  rintro _ w13 ⟨x13,u,rfl,hu⟩
  refine iEx rfl (iEx rfl ?_)
  by_cases hk:(fT x.d.con).kind = 2
  ·obtain ⟨p,hp1,hp2⟩:=fL (.inl rfl) hk
   rw [hp2] at hu
   rw [hp1] at hi
   have hx13:=hx1.ext x13
   refine iJnX (fun xs w'=>∃ u R',xs = [u] ∧ Ext w1 w' ∧ GsR w' u R' ∧ R'.map Prod.snd = [(x.d.asm,p.1),(x.d.asm,p.2)]) (fun J hJ=>?_) ?_
   ·refine iCndT (decide_eq_true hk) ?_
    refine iFa (iLdB (hB1.ext x13) (i:=2) (v:=x.vl) rfl ?_)
    refine iIaG (j:=0) hu.sl rfl (by simp) (cY hc1 rfl ?_)
    refine iFa (iLdB (hB1.ext x13) (i:=2) (v:=x.vl) rfl ?_)
    refine iIaG (j:=1) hu.sl rfl (by simp) (cY hc1 rfl ?_)
    intro w16 x16
    refine iBsA2 fun b w17 _ x17 hB=>?_
    intro w18 x18
    have xx:=(x16.trans x17).trans x18
    exact hJ _ _ ⟨_,_,rfl,x13.trans xx,GsR.two (hB.ext x18) (hx13.ext xx) (hx13.ext xx),rfl⟩
   ·rintro _ w15 ⟨u',R',rfl,x15,hR',he⟩
    intro _
    refine hJ11 _ _ ⟨u',_,R',rfl,x15,hR',?_⟩
    rw [hi,he,decide_eq_true hk,Bool.true_and]
  ·rw [oQ (.inl rfl) hk] at hi
   refine iJnX (fun xs w'=>xs = [.slice none 0 0] ∧ w' = w13) (fun J hJ=>iCndF (decide_eq_false hk) (hJ _ _ ⟨rfl,rfl⟩)) ?_
   rintro _ w15 ⟨rfl,rfl⟩
   intro _
   show J11 [_,.bool (decide ((fT x.d.con).kind = 2))] _
   rw [decide_eq_false hk]
   exact hJ11 _ _ (WantQ.no x13 hi)
 refine iEq ?_
 refine iJnX (fun xs w'=>xs = [.bool (decide (x.d.rule = 6 ∨ x.d.rule = 7))] ∧ w' = w1) (fun J hJ=>?_) ?_
 ·refine iCndP (fun h6=>?_) (fun h6=>?_)
  ·rw [decide_eq_true (.inl h6)] at hJ
   exact hJ _ _ ⟨rfl,rfl⟩
  ·refine iEq (hJ _ _ ⟨?_,rfl⟩)
   rw [show decide (x.d.rule = 6 ∨ x.d.rule = 7) = decide (x.d.rule = 7) from decide_eq_decide.2 ⟨fun e=>e.resolve_left h6,.inr⟩]
 rintro _ w20 ⟨rfl,rfl⟩
 intro _
 refine iJnX (WantQ x.d G w20) (fun J21 hJ21=>?_) (pass hJ11)
 show cnd (.bool (decide (x.d.rule = 6 ∨ x.d.rule = 7))) _ _
 refine iCndP (fun h67=>?_) (fun h67=>?_)
 ·refine iFa (iLdB hB1 (i:=3) (v:=sv x.d.con) rfl ?_)
  refine iCall ((bT hp 3 w20).mono ?_)
  rintro _ w23 ⟨x23,u,rfl,hu⟩
  refine iEx rfl (iEx rfl ?_)
  by_cases hk:(fT x.d.con).kind = 3
  ·obtain ⟨p,hp1,hp2⟩:=fL (.inr (.inl rfl)) hk
   rw [hp2] at hu
   have hx23:=hx1.ext x23
   obtain ⟨j,hj,hr,hi⟩:∃ j:Nat,j < 2 ∧ x.d.rule = (j:Int) + 6 ∧ dN x.d G = decide (G = [(x.d.asm,gt [p.1,p.2] j)]):=by
    rcases h67 with h6 | h7
    ·exact ⟨0,by decide,by omega,by rw [N7 h6,hp1];rfl⟩
    ·exact ⟨1,by decide,by omega,by rw [H2 h7,hp1];rfl⟩
   refine iJnX (fun xs w'=>∃ u R',xs = [u] ∧ Ext w20 w' ∧ GsR w' u R' ∧ R'.map Prod.snd = [(x.d.asm,gt [p.1,p.2] j)]) (fun J hJ=>?_) ?_
   ·refine iCndT (decide_eq_true hk) ?_
    refine iFa (iLdB (hB1.ext x23) (i:=2) (v:=x.vl) rfl ?_)
    refine iFa (iLdB (hB1.ext x23) (i:=0) (v:=.int .i64 x.d.rule) rfl ?_)
    refine iSub (by omega) ?_
    refine iIaG (j:=j) hu.sl (by omega) (by simpa using hj) (cY hc1 rfl ?_)
    intro w26 x26
    refine iBsA fun b w27 _ x27 hB=>?_
    intro w28 x28
    have xx:=(x26.trans x27).trans x28
    exact hJ _ _ ⟨_,_,rfl,x23.trans xx,GsR.one (hB.ext x28) (hx23.ext xx),rfl⟩
   ·rintro _ w25 ⟨u',R',rfl,x25,hR',he⟩
    intro _
    refine hJ21 _ _ ⟨u',_,R',rfl,x25,hR',?_⟩
    rw [hi,he,decide_eq_true hk,Bool.true_and]
  ·have hi:dN x.d G = false:=by
    rcases h67 with h6 | h7
    ·rw [N7 h6,oQ (.inr (.inl rfl)) hk]
    ·rw [H2 h7,oQ (.inr (.inl rfl)) hk]
   refine iJnX (fun xs w'=>xs = [.slice none 0 0] ∧ w' = w23) (fun J hJ=>iCndF (decide_eq_false hk) (hJ _ _ ⟨rfl,rfl⟩)) ?_
   rintro _ w25 ⟨rfl,rfl⟩
   intro _
   show J21 [_,.bool (decide ((fT x.d.con).kind = 3))] _
   rw [decide_eq_false hk]
   exact hJ21 _ _ (WantQ.no x23 hi)
 refine iEq ?_
 refine iJnX (WantQ x.d G w20) (fun J29 hJ29=>?_) (pass hJ21)
 refine iCndP (fun h9=>?_) (fun h9=>?_)
 ·have hi:=SH (G:=G) h9
  refine iFa (iLdB hB1 (i:=3) (v:=sv x.d.con) rfl ?_)
  refine iCall ((bT hp 4 w20).mono ?_)
  rintro _ w31 ⟨x31,u,rfl,hu⟩
  refine iEx rfl (iEx rfl ?_)
  by_cases hk:(fT x.d.con).kind = 4
  ·obtain ⟨p,hp1,hp2⟩:=fL (.inr (.inr rfl)) hk
   rw [hp2] at hu
   rw [hp1] at hi
   have hx31:=hx1.ext x31
   refine iJnX (fun xs w'=>∃ u R',xs = [u] ∧ Ext w20 w' ∧ GsR w' u R' ∧ R'.map Prod.snd = [(x.d.asm ++ [p.1],p.2)]) (fun J hJ=>?_) ?_
   ·refine iCndT (decide_eq_true hk) ?_
    refine iFa (iLdB (hB1.ext x31) (i:=2) (v:=x.vl) rfl ?_)
    refine iIaG (j:=0) hu.sl rfl (by simp) ?_
    refine iIaG (j:=1) hu.sl rfl (by simp) ?_
    intro w34 x34
    refine iCall ((gN (t:=p.1) (hx31.ext x34) (by omega)).mono ?_)
    rintro r1 w35 ⟨x35,ho1⟩
    refine ⟨x35,cY ho1.cell rfl ?_⟩
    intro w36 x36
    refine iBsA fun b w37 _ x37 hB=>?_
    intro w38 x38
    have xx:=(x36.trans x37).trans x38
    exact hJ _ _ ⟨_,_,rfl,(x31.trans (x34.trans x35)).trans xx,GsR.one (hB.ext x38) (ho1.ext xx).sl,rfl⟩
   ·rintro _ w33 ⟨u',R',rfl,x33,hR',he⟩
    intro _
    refine hJ29 _ _ ⟨u',_,R',rfl,x33,hR',?_⟩
    rw [hi,he,decide_eq_true hk,Bool.true_and]
  ·rw [oQ (.inr (.inr rfl)) hk] at hi
   refine iJnX (fun xs w'=>xs = [.slice none 0 0] ∧ w' = w31) (fun J hJ=>iCndF (decide_eq_false hk) (hJ _ _ ⟨rfl,rfl⟩)) ?_
   rintro _ w33 ⟨rfl,rfl⟩
   intro _
   show J29 [_,.bool (decide ((fT x.d.con).kind = 4))] _
   rw [decide_eq_false hk]
   exact hJ29 _ _ (WantQ.no x31 hi)
 ·exact hJ29 _ _ (WantQ.no (Ext.refl _) (if_neg (by omega)))
end Go.Proofs.YtkjoppimpmojfaaGreat

namespace Go.Vc
theorem IB (L:List DV) (k:Nat):(aO L).take (k * 5) = aO (L.take k):=by
 induction L generalizing k with
 | nil=>simp [aO]
 | cons x L ih=>
  cases k with
  | zero=>simp [aO]
  | succ k=>
   show ((x.cs ++ aO L)).take ((k + 1) * 5) = x.cs ++ aO (L.take k)
   rw [List.take_append,List.take_of_length_le (by simp [DV.cs];omega),show (k + 1) * 5 - x.cs.length = k * 5 by simp [DV.cs];omega,ih]
theorem US {α:Type} [Inhabited α] {L:List α} {k i:Nat} (h:i < k) (hk:k ≤ L.length):gt (L.take k) i = gt L i:=by
 rw [gt_eq (by rw [List.length_take];omega),gt_eq (by omega),List.getElem_take]
end Go.Vc
namespace Go.Proofs.YtkjoppimpmojfaaGreat
open Go.Vc
theorem l1 {v:Value} {L:List Str} {w:World} (hs:SlT w v L):Ret Tryz.prog mZ #[v] w (.bool (decide (L.length ≤ 12) && L.all plT)):=by
 apply xI;unfold m8
 refine iJnB (decide (L.length ≤ 12) && L.all plT) w (fun J hJ=>?_) (fun w2 x2=>fun _=>⟨by first | trivial | rfl,x2⟩)
 refine aM hs (iLe (iCndP (fun h=>?_) (fun h=>?_)))
 ·rw [decide_eq_true (show L.length ≤ 12 by omega),Bool.true_and] at hJ
  refine iRet (m7 (p:=fun t=>!plT t) hs fun x _ w' x'=>?_) fun w3 x3=>iNot ?_
  ·refine iRet (v:=.bool (!plT x)) ?_ fun w5 x5=>⟨rfl,x5⟩
   apply uU;unfold lG
   exact iRet (gH x w') fun w4 x4=>iNot ⟨rfl,x4⟩
  ·rw [show (!L.any fun t=>!plT t) = L.all plT by rw [List.not_any_eq_all_not];simp]
   exact hJ _ x3
 ·rw [decide_eq_false (show ¬ L.length ≤ 12 by omega),Bool.false_and] at hJ
  exact hJ _ (Ext.refl _)
theorem xG {R:List DV} {k:Nat} (hk:k < R.length) (hR:R.length ≤ 1000000000) (hg:∀ j,j < k → goodD (R.map DV.d) j = true) {v0:Value} {w:World} (h0:SlK 5 w v0 k (aO (R.take k))) (hpr:∀ x ∈ R,SlI w x.vp x.d.prem) (hlr:∀ x ∈ R,SlT w x.vl x.d.asm) (hpb:∀ x ∈ R,x.d.prem.length ≤ 1000000000):
  Ret Tryz.prog oB #[v0,.agg (gt R k).cs.toArray] w (.bool (goodD (R.map DV.d) k)):=by
 have hmem:∀ {j:Nat},j < R.length → gt R j ∈ R:=fun hj=>by rw [gt_eq hj];exact List.getElem_mem _
 have hgd:∀ {j:Nat},j < R.length → gt (R.map DV.d) j = (gt R j).d:=fun hj=>d7 hj
 have hpm:=hpr _ (hmem hk)
 have hlm:=hlr _ (hmem hk)
 have hpb:=hpb _ (hmem hk)
 have e0:goodD (R.map DV.d) k = (nY (gt R k).d && (inD k (gt R k).d && ruleB (gt R k).d (sU (R.map DV.d) (gt R k).d))):=by unfold goodD;rw [hgd hk]
 rw [e0]
 generalize hx:gt R k = x at *
 apply AJ;unfold n8
 refine iNew5 fun q1 w1 hq1 x1 hB1=>?_
 have hB1:Blk aC w1 q1 [.int .i64 x.d.rule,x.vp,x.vl,sv x.d.con,.int .i64 x.d.num]:=hB1
 have e1:nY x.d = ((decide (x.d.asm.length ≤ 12) && x.d.asm.all plT) && (plT x.d.con && (decide (x.d.rule = 1) || decide (x.d.num = 0)))):=rfl
 refine iJnB (!nY x.d) w1 (fun J hJ=>?_) (fun w3 x3=>?_)
 ·refine iFa (iLdB hB1 (i:=2) (v:=x.vl) rfl ?_)
  refine iRet (l1 (hlm.ext x1)) fun w4 x4=>iNot ?_
  rw [e1] at hJ
  cases ha:(decide (x.d.asm.length ≤ 12) && x.d.asm.all plT) with
  | false=>
   rw [ha,Bool.false_and] at hJ
   exact iCndT rfl (hJ _ x4)
  | true=>
   rw [ha,Bool.true_and] at hJ
   refine iCndF rfl ?_
   refine iFa (iLdB (hB1.ext x4) (i:=3) (v:=sv x.d.con) rfl ?_)
   refine iRet (gH x.d.con w4) fun w5 x5=>iNot ?_
   cases hp:plT x.d.con with
   | false=>
    rw [hp,Bool.false_and] at hJ
    exact iCndT rfl (hJ _ (x4.trans x5))
   | true=>
    rw [hp,Bool.true_and] at hJ
    refine iCndF rfl ?_
    have hB5:=(hB1.ext x4).ext x5
    refine iFa (iLdB hB5 (i:=0) (v:=.int .i64 x.d.rule) rfl ?_)
    refine iNe (iCndP (fun h=>?_) (fun h=>?_))
    ·rw [decide_eq_false (show ¬ x.d.rule = 1 from h),Bool.false_or] at hJ
     refine iFa (iLdB hB5 (i:=4) (v:=.int .i64 x.d.num) rfl (iNe ?_))
     rw [show (decide (¬ x.d.num = 0)) = !decide (x.d.num = 0) by simp]
     exact hJ _ (x4.trans x5)
    ·rw [decide_eq_true (show x.d.rule = 1 from Classical.not_not.1 h),Bool.true_or] at hJ
     exact hJ _ (x4.trans x5)
 intro _
 simp only [gx]
 have X3:=x1.trans x3
 refine iCnd (fun hs=>?_) (fun hs=>?_)
 ·have hs:nY x.d = false:=by simpa using hs
  rw [hs,Bool.false_and]
  exact ⟨by first | trivial | rfl,X3⟩
 have hs:nY x.d = true:=by simpa using hs
 rw [hs,Bool.true_and]
 obtain ⟨s1,s2,s3⟩:=eQ hs
 have hB3:=hB1.ext x3
 refine iFa (iLdB hB3 (i:=1) (v:=x.vp) rfl ?_)
 have hp3:=hpm.ext X3
 have hpl:(ints x.d.prem).length = x.d.prem.length:=bA _
 refine iLenI hp3 ?_
 have hpsl:=SlI.len hp3
 -- the judgements so far
 refine iLp (fun s:Value × Nat=>[s.1,.int .i64 (s.2:Int)]) (fun s w'=>s.2 ≤ x.d.prem.length ∧ Ext w3 w' ∧ (∀ q ∈ x.d.prem.take s.2,0 ≤ q ∧ q ≤ (k:Int) - 1) ∧ ∃ RG:List (Value × Sq),RG.map Prod.snd = (x.d.prem.take s.2).map (fun q=>jdg (gt (R.map DV.d) q.toNat)) ∧ OwK 2 w3.heap.size kI w' s.1 RG.length (cH RG) ∧ ∀ y ∈ RG,∃ z ∈ R,y.1 = z.vl ∧ y.2 = (z.d.asm,z.d.con) ∧ plT z.d.con = true) (fun s=>x.d.prem.length - s.2) (.slice none 0 0,0) rfl ⟨Nat.zero_le _,Ext.refl _,(fun q hq=>by cases hq),[],rfl,OwK.nil 2 _ _ _,fun y hy=>(by cases hy)⟩ ?_
 rintro ⟨gv,i⟩ w4 Kn ⟨hi,x4,hin,RG,hRG,hrow,hRL⟩ hKn
 have hi:i ≤ x.d.prem.length:=hi
 have hin:∀ q ∈ x.d.prem.take i,0 ≤ q ∧ q ≤ (k:Int) - 1:=hin
 have hRG:RG.map Prod.snd = (x.d.prem.take i).map (fun q=>jdg (gt (R.map DV.d) q.toNat)):=hRG
 have hrow:OwK 2 w3.heap.size kI w4 gv RG.length (cH RG):=hrow
 have hRGl:RG.length = i:=by
  have:=congrArg List.length hRG
  rw [List.length_map,List.length_map,List.length_take] at this
  omega
 have X4:=X3.trans x4
 have hB4:=hB3.ext x4
 intro _
 simp only [gx]
 refine iLt (iCndP (fun h=>?_) (fun h=>?_))
 ·have hil:i < x.d.prem.length:=by omega
  refine iIaN (hpm.ext X4) hil fun p hp=>?_
  have eq:x.d.prem.getD i 0 = x.d.prem[i]:=by simp [hil]
  rw [eq] at hp
  have hq:x.d.prem[i] ∈ x.d.prem:=List.getElem_mem hil
  have etk:x.d.prem.take (i + 1) = x.d.prem.take i ++ [x.d.prem[i]]:=List.take_succ_eq_append_getElem hil
  generalize x.d.prem[i] = qi at *
  refine iLd hp ?_
  refine iLenK (SlK.ext h0 X4) ?_
  refine iSub (by omega) ?_
  refine iRet (iP _ _ _ w4) fun w5 x5=>iNot ?_
  by_cases hr:0 ≤ qi ∧ qi ≤ (k:Int) - 1
  rotate_left
  ·rw [decide_eq_false hr]
   have:inD k x.d = false:=by
    unfold inD
    rw [List.all_eq_false]
    exact ⟨qi,hq,by rw [decide_eq_false hr];simp⟩
   rw [this,Bool.false_and]
   exact iCndT rfl ⟨by first | trivial | rfl,X4.trans x5⟩
  rw [decide_eq_true hr]
  refine iCndF rfl ?_
  have X5:=X4.trans x5
  obtain ⟨m,rfl⟩:=Int.eq_ofNat_of_zero_le hr.1
  have hmk:m < k:=by omega
  have htk:(R.take k).length = k:=by rw [List.length_take];omega
  refine iAtD (SlK.ext h0 X5) htk.symm (by omega) ?_
  have hmR:m < R.length:=by omega
  have hgm:gt (R.take k) m = gt R m:=US hmk (by omega)
  rw [hgm]
  have hyl:=(hlr _ (hmem hmR)).ext X5
  have hgood:=(eQ (eP (hg m hmk)).1).2.2
  rw [hgd hmR] at hgood
  have hjd:jdg (gt (R.map DV.d) ((m:Nat):Int).toNat) = ((gt R m).d.asm,(gt R m).d.con):=by rw [Int.toNat_natCast,hgd hmR];rfl
  have hym:=hmem hmR
  generalize gt R m = y at *
  refine iRet (HB (SlK.lfCell hyl)) fun w6 x6=>?_
  refine iBsA fun bb w7 hbb x7 hB7=>?_
  have x47:=(x5.trans x6).trans x7
  refine iAppK HY HC rfl (by decide) (OwK.ext hrow x47) (SlK.ofBlk (n:=1) hB7 rfl (by decide)) (fun z hz=>by
   simp only [List.mem_cons,List.not_mem_nil,or_false] at hz
   rcases hz with rfl | rfl
   ·exact SlK.lfCell hyl
   ·rfl) (by omega) (by omega) (Nat.le_trans x4.size x47.size) fun gv' w8 hrow8 hg8 hat8=>?_
  refine iAdd (by omega) ?_
  have x8:Ext w3 w8:=(x4.trans x47).grown hg8 fun c hc=>(OwK.blk hrow c hc).1
  refine hKn (gv',i + 1) _ ⟨hil,x8,?_,RG ++ [(y.vl,(y.d.asm,y.d.con))],?_,?_,fun z hz=>?_⟩ (by show x.d.prem.length - (i + 1) < x.d.prem.length - i;omega)
  ·show ∀ q ∈ x.d.prem.take (i + 1),_
   rw [etk]
   intro q hq
   rcases List.mem_append.1 hq with hq | hq
   ·exact hin q hq
   ·rw [List.mem_singleton.1 hq];exact hr
  ·show _ = (x.d.prem.take (i + 1)).map _
   rw [List.map_append,hRG,etk,List.map_append]
   congr 1
   show [(y.d.asm,y.d.con)] = [jdg (gt (R.map DV.d) ((m:Nat):Int).toNat)]
   rw [hjd]
  ·show OwK 2 _ _ _ gv' _ _
   rw [C9,List.length_append]
   exact hrow8
  ·rcases List.mem_append.1 hz with hz | hz
   ·exact hRL z hz
   ·rw [List.mem_singleton.1 hz]
    exact ⟨y,hym,rfl,rfl,hgood⟩
 ·have hil:i = x.d.prem.length:=by omega
  rw [hil,List.take_length] at hRG hin
  have hinD:inD k x.d = true:=by
   unfold inD
   rw [List.all_eq_true]
   exact fun q hq=>decide_eq_true (hin q hq)
  rw [hinD,Bool.true_and]
  have hRG:RG.map Prod.snd = sU (R.map DV.d) x.d:=hRG
  have hpR:∀ g ∈ RG,plT g.2.2 = true:=fun g hg=>by
   obtain ⟨z,_,_,e2,e3⟩:=hRL g hg
   rw [e2];exact e3
  have hGs:GsR w4 gv RG:=⟨hrow.sl,fun g hg=>by
   obtain ⟨z,hz,e1,e2,_⟩:=hRL g hg
   rw [e1,e2]
   exact (hlr z hz).ext X4⟩
  rw [← hRG,← Q5]
  refine iJnB (dN x.d (RG.map Prod.snd) || elimB x.d (RG.map Prod.snd)) w4 (fun J hJ=>?_) (fun w13 x13=>fun _=>⟨by first | trivial | rfl,X4.trans x13⟩)
  refine iLdA hB4 rfl ?_
  refine iRet (AC (x:=x) (hlm.ext X4) hGs s3 (by omega)) fun w14 x14=>?_
  refine iCnd (fun hi1=>?_) (fun hi1=>?_)
  ·rw [hi1,Bool.true_or] at hJ
   exact hJ _ x14
  ·rw [hi1,Bool.false_or] at hJ
   refine iLdA (hB4.ext x14) rfl ?_
   exact iRet (AU (x:=x) (hlm.ext (X4.trans x14)) (hGs.ext x14) hpR (by omega)) fun w15 x15=>hJ _ (x14.trans x15)
theorem uV {R:List DV} {v:Value} {w:World} (hR:R.length ≤ 1000000000) (h:RdD w v R) (hpb:∀ x ∈ R,x.d.prem.length ≤ 1000000000):Cal Tryz.prog lM #[v] w fun u w'=>Ext w w' ∧ ∃ z:Int,u = .int .i64 z ∧ decide (0 ≤ z) = !dH (R.map DV.d):=by
 apply wT;unfold lW
 refine iLenK h.row ?_
 refine iLp (fun i:Nat=>[.int .i64 (i:Int)]) (fun i w'=>i ≤ R.length ∧ Ext w w' ∧ ∀ j,j < i → goodD (R.map DV.d) j = true) (fun i=>R.length - i) 0 rfl ⟨Nat.zero_le _,Ext.refl _,fun j hj=>absurd hj (Nat.not_lt_zero _)⟩ ?_
 rintro i w2 Kn ⟨hi,x2,hok⟩ hKn
 intro _
 simp only [gx]
 refine iLt (iCndP (fun h1=>?_) (fun h1=>?_))
 ·have hil:i < R.length:=by omega
  have hm:gt R i ∈ R:=by rw [gt_eq hil];exact List.getElem_mem _
  have h2:=h.ext x2
  refine iAtD h2.row rfl hil ?_
  refine iNew5 fun q3 w3 hq3 x3 hB3=>?_
  refine iStAB hB3 rfl rfl (fun y hy=>DV.cell (h2.prem _ hm) (h2.asm _ hm) y (by simpa using hy)) fun w4 hu4 hB4=>?_
  have x24:Ext w2 w4:=x3.upd hu4 (by omega)
  have h4:=h2.ext x24
  refine M8 h4.row (by omega) fun v' hv'=>?_
  rw [IB] at hv'
  refine iLdA hB4 rfl ?_
  refine iRetQ (fun w' x'=>xG hil hR hok (SlK.ext hv' x') (fun x hx=>(h4.prem x hx).ext x') (fun x hx=>(h4.asm x hx).ext x') hpb) (iNot ?_)
  intro w5 x5
  have X5:=(x2.trans x24).trans x5
  refine iCnd (fun hb=>?_) (fun hb=>?_)
  ·refine ⟨X5,_,rfl,?_⟩
   have hb:goodD (R.map DV.d) i = false:=by simpa using hb
   have:dH (R.map DV.d) = false:=by
    unfold dH
    rw [List.all_eq_false]
    exact ⟨i,List.mem_range.2 (by rw [List.length_map];exact hil),by rw [hb];simp⟩
   rw [this,decide_eq_true (by omega)];rfl
  ·have hb:goodD (R.map DV.d) i = true:=by simpa using hb
   refine iAdd (by omega) (hKn (i + 1) _ ⟨by omega,X5,fun j hj=>?_⟩ (by omega))
   by_cases e:j = i
   ·subst e;exact hb
   ·exact hok j (by omega)
 ·refine ⟨x2,-1,rfl,?_⟩
  have:dH (R.map DV.d) = true:=by
   unfold dH
   rw [List.all_eq_true]
   intro j hj
   rw [List.mem_range,List.length_map] at hj
   exact hok j (by omega)
  rw [this];rfl
theorem pL {v va fv:Value} {b:Bool} {w:World} (hs:Sl w v [va]) (hf:∀ w',Ext w w' → callV Tryz.prog fv [va] w' fun u w''=>u = .bool b ∧ Ext w' w''):
  Ret Tryz.prog b9 #[v,fv] w (.bool b):=by
 apply fN;unfold bY
 refine iCall (Cal.mono (R:=fun r w'=>Ext w w' ∧ ∃ z:Int,r = .int .i64 z ∧ decide (0 ≤ z) = b) ?_ ?_)
 ·apply gC;unfold cK
  refine iLenS hs ?_
  refine iLp (fun i:Nat=>[.int .i64 (i:Int)]) (fun i w'=>i ≤ 1 ∧ Ext w w' ∧ (i = 1 → b = false)) (fun i=>1 - i) 0 rfl ⟨Nat.zero_le _,Ext.refl _,fun h=>by omega⟩ ?_
  rintro i w2 Kn ⟨hi,h2,hno⟩ hKn
  intro _
  simp only [gx]
  refine iLt (iCndP (fun h=>?_) (fun h=>?_))
  ·have hi0:i = 0:=by simp at h;omega
   subst hi0
   refine iIa (j:=0) (hs.ext h2) (by omega) (by simp) fun p hp=>?_
   have hp:w2.cell? p = some va:=hp
   refine iLd hp ?_
   refine (hf w2 h2).mono ?_
   rintro u w3 ⟨rfl,x3⟩
   refine iCnd (fun h3=>?_) (fun h3=>?_)
   ·exact ⟨h2.trans x3,_,rfl,by rw [h3];rfl⟩
   ·refine iAdd (by omega) ?_
    exact hKn 1 _ ⟨Nat.le_refl _,h2.trans x3,fun _=>h3⟩ (by omega)
  ·have hi1:i = 1:=by simp at h;omega
   exact ⟨h2,-1,rfl,by rw [hno hi1];rfl⟩
 ·rintro r w1 ⟨h1,z,rfl,hz⟩
  refine iLe ?_
  rw [hz]
  exact ⟨by first | trivial | rfl,h1⟩
theorem vV {v:Value} {n:Nat} {xs:List Value} {w:World} (hs:SlK 5 w v n xs):Ret Tryz.prog mS #[v] w (.bool (decide (1 ≤ n ∧ n ≤ 120))):=by
 apply wZ;unfold mU
 refine iJnB (decide (1 ≤ n ∧ n ≤ 120)) w (fun J hJ=>?_) (fun w2 x2=>fun _=>⟨by first | trivial | rfl,x2⟩)
 refine iLenK hs (iLe (iCndP (fun h=>?_) (fun h=>?_)))
 ·refine iLenK hs (iLe ?_)
  rw [show decide ((n:Int) ≤ 120) = decide (1 ≤ n ∧ n ≤ 120) from decide_eq_decide.2 (by omega)]
  exact hJ _ (Ext.refl _)
 ·rw [decide_eq_false (show ¬ (1 ≤ n ∧ n ≤ 120) by omega)] at hJ
  exact hJ _ (Ext.refl _)
theorem AE {v va:Value} {R:List DV} {w:World} (hs:Sl w v [va]) (h:RdD w va R) (hpb:∀ x ∈ R,x.d.prem.length ≤ 1000000000):Ret Tryz.prog pE #[v] w (.int .i64 (codeD (R.map DV.d))):=by
 apply DD;unfold pN
 refine iRet (pL (b:=!decide (1 ≤ R.length ∧ R.length ≤ 120)) hs fun w' x'=>iClo rfl ?_) fun w1 x1=>?_
 ·show Cal Tryz.prog nV #[va] w' _
  apply zZ;unfold nT
  exact iRet (vV (SlK.ext h.row x')) fun w2 x2=>iNot ⟨rfl,x2⟩
 have hl:(R.map DV.d).length = R.length:=List.length_map _
 unfold codeD
 rw [hl]
 by_cases hc:1 ≤ R.length ∧ R.length ≤ 120
 rotate_left
 ·rw [decide_eq_false hc,if_neg hc]
  exact iCndT rfl ⟨rfl,x1⟩
 rw [decide_eq_true hc,if_pos hc]
 refine iCndF rfl ?_
 refine iRet (pL (b:=!dH (R.map DV.d)) (hs.ext x1) fun w' x'=>iClo rfl ?_) fun w2 x2=>?_
 ·show Cal Tryz.prog nL #[va] w' _
  apply AA;unfold nZ
  refine iCall ((uV (by omega) (h.ext (x1.trans x')) hpb).mono ?_)
  rintro _ w3 ⟨x3,z,rfl,hz⟩
  refine iLe ⟨?_,x3⟩
  rw [hz]
 cases hg:dH (R.map DV.d) with
 | true=>exact iCndF rfl ⟨rfl,x1.trans x2⟩
 | false=>exact iCndT rfl ⟨rfl,x1.trans x2⟩
end Go.Proofs.YtkjoppimpmojfaaGreat

namespace Go.Vc
theorem iFld5 {sz f:Nat} {w:World} {v x:Value} {n:Nat} {xs:List Value} {j:Nat} {k:IntKind} {K:Value → Prop} (hs:SlK sz w v n xs) (h1:j < n) (hf:f < sz) (hx:xs[j * sz + f]? = some x) (h:K x):xIa sz v (.int k (j:Int)) fun p=>xFa f p fun q=>xLd w q K:=by
 refine iIaK hs h1 fun b o hc=>?_
 exact iFa (iLd ((hc f hf).trans hx) h)
end Go.Vc
namespace Go.Proofs.YtkjoppimpmojfaaGreat
open Go.Vc
structure OwI (lo:Nat) (w:World) (v:Value) (R:List IV):Prop where
 row:OwK 5 lo aT w v R.length (cA R)
 prem:∀ j,j < R.length → Ow lo t_i64 w (gt R j).vp (ints (nats (gt R j).i.prem))
 left:∀ j,j < R.length → Ow lo aB w (gt R j).vl (strs (gt R j).i.left)
 dp:∀ a b,a < R.length → b < R.length → a ≠ b → ∀ c,(gt R a).vp.ownBlock = some c → (gt R b).vp.ownBlock ≠ some c
 dl:∀ a b,a < R.length → b < R.length → a ≠ b → ∀ c,(gt R a).vl.ownBlock = some c → (gt R b).vl.ownBlock ≠ some c
theorem OwI.ext {lo:Nat} {w w':World} {v:Value} {R:List IV} (h:OwI lo w v R) (x:Ext w w'):OwI lo w' v R:=⟨OwK.ext h.row x,fun j hj=>(h.prem j hj).ext x,fun j hj=>(h.left j hj).ext x,h.dp,h.dl⟩
theorem OwI.rd {lo:Nat} {w:World} {v:Value} {R:List IV} (h:OwI lo w v R):RdI w v R:=by
 refine ⟨h.row.sl,fun x hx=>?_,fun x hx=>?_⟩
 ·obtain ⟨j,hj,rfl⟩:=List.getElem_of_mem hx
  rw [← gt_eq hj];exact (h.prem j hj).sl
 ·obtain ⟨j,hj,rfl⟩:=List.getElem_of_mem hx
  rw [← gt_eq hj];exact (h.left j hj).sl
end Go.Proofs.YtkjoppimpmojfaaGreat

namespace Go.Vc
theorem lP {z0 z1 z2 z3 z4 a b c d f:Value} {K:Value → Prop} (ha:aD a = true) (hb:aD b = true) (hc:aD c = true) (hd:aD d = true) (hf:aD f = true) (h:K (.agg #[a,b,c,d,f])):aK #[z0,z1,z2,z3,z4] #[(0,1),(1,1),(2,1),(3,1),(4,1)] [(0,a),(1,b),(2,c),(3,d),(4,f)] K:=
 j4 (cs:=#[a,b,c,d,f]) (by simp [Instr.fill,aH ha,aH hb,aH hc,aH hd,aH hf]) h
end Go.Vc
namespace Go.Proofs.YtkjoppimpmojfaaGreat
open Go.Vc
abbrev bp (b:Nat):Value:=.pointer (some ⟨b,0,none⟩)
def TyS (l0:Nat) (w:World) (c:Nat):Prop:=l0 ≤ c ∧ ∃ cs,Blk aT w c cs
def SCh (l0 b:Nat) (w w':World):Prop:=Ch (fun c=>c = b ∨ TyS l0 w c) w w'
theorem SCh.trans {l0 b:Nat} {w w' w'':World} (h:SCh l0 b w w') (k:SCh l0 b w' w''):SCh l0 b w w'':=by
 refine Ch.trans h k fun c hc=>?_
 by_cases hlt:c < w.heap.size
 ·by_cases hs:c = b ∨ TyS l0 w c
  ·exact .inl hs
  ·rcases hc with hc | ⟨h0,cs,hc⟩
   ·exact absurd (.inl hc) hs
   ·refine .inl (.inr ⟨h0,cs,?_⟩)
    unfold Blk at hc ⊢
    rw [← h.block c hlt hs];exact hc
 ·exact .inr (by omega)
theorem SCh.ext {l0 b:Nat} {w w':World} (x:Ext w w'):SCh l0 b w w':=x.ch
theorem SCh.blk {l0 b:Nat} {w w':World} (x:Ch (fun c=>c = b) w w'):SCh l0 b w w':=x.mono fun _ h=>.inl h
theorem SCh.row {b k lo n:Nat} {w w':World} {v:Value} {xs:List Value} (h:OwK k lo aT w v n xs) (x:Ch (fun c=>v.ownBlock = some c) w w'):SCh lo b w w':=x.mono fun c hc=>by
 obtain ⟨cur,hh⟩:=OwK.ty h hc
 exact .inr ⟨(OwK.blk h c hc).1,cur.toList,by unfold Blk;rw [hh]⟩
theorem Ow.sch {e':TypeId} {l0 lo b:Nat} {e:TypeId} {w w':World} {v:Value} {xs cs:List Value} (h:Ow lo e w v xs) (x:SCh l0 b w w') (hB:Blk e' w b cs) (h1:e ≠ e') (h2:e ≠ aT):Ow lo e w' v xs:=by
 refine Ow.ch h x fun c hc hS=>?_
 rcases hS with rfl | ⟨-,cs',hS⟩
 ·exact h.ne_blk hB h1 hc
 ·exact h.ne_blk hS h2 hc
def Sep (w:World) (vs:List Value) (Q:List IV):Prop:=∀ u ∈ vs,∀ c,u.ownBlock = some c → c < w.heap.size ∧ ∀ j,j < Q.length → (gt Q j).vp.ownBlock ≠ some c
theorem Sep.le {w w':World} {vs:List Value} {Q:List IV} (h:Sep w vs Q) (hs:w.heap.size ≤ w'.heap.size):Sep w' vs Q:=fun u hu c hc=>⟨Nat.lt_of_lt_of_le (h u hu c hc).1 hs,(h u hu c hc).2⟩
theorem Sep.snoc {w w':World} {vs:List Value} {Q:List IV} {x:IV} (h:Sep w vs Q) (hs:w.heap.size ≤ w'.heap.size) (hx:∀ c,x.vp.ownBlock = some c → w.heap.size ≤ c):Sep w' vs (Q ++ [x]):=fun u hu c hc=>by
 obtain ⟨h1,h2⟩:=h u hu c hc
 refine ⟨by omega,fun j hj e=>?_⟩
 rw [List.length_append,List.length_singleton] at hj
 by_cases hjl:j < Q.length
 ·rw [gt_eq (by rw [List.length_append];omega),List.getElem_append_left hjl,← gt_eq hjl] at e
  exact h2 j hjl e
 ·have:j = Q.length:=by omega
  subst this
  rw [BO] at e
  have:=hx c e
  omega
structure SM (e:TypeId) (l0:Nat) (w:World) (b:Nat) (vs zs:List Value) (Q:List IV):Prop where
 lob:l0 ≤ b
 ex:∃ vp,Blk e w b (vp :: vs) ∧ OwI l0 w vp Q ∧ Sep w zs Q
theorem SM.ext {e:TypeId} {l0:Nat} {w w':World} {b:Nat} {vs zs:List Value} {Q:List IV} (h:SM e l0 w b vs zs Q) (x:Ext w w'):SM e l0 w' b vs zs Q:=by
 obtain ⟨h0,vp,h1,h2,h3⟩:=h
 exact ⟨h0,vp,h1.ext x,h2.ext x,h3.le x.size⟩
theorem SM.grow {e:TypeId} {l0 lo:Nat} {w w':World} {b:Nat} {vs xs:List Value} {u u':Value} {Q:List IV} (h:SM e l0 w b vs [u] Q) (he:t_i64 ≠ e) (hu:Ow lo t_i64 w u xs) (hg:w.grownBy w' u.ownBlock) (hat:u'.ownBlock = u.ownBlock ∨ ∃ c,u'.ownBlock = some c ∧ w.heap.size ≤ c) (hlt:∀ c,u'.ownBlock = some c → c < w'.heap.size):SM e l0 w' b vs [u'] Q:=by
 obtain ⟨h0,vp,hB,hO,hS⟩:=h
 have hch:=dG (S:=fun k=>u.ownBlock = some k) hg fun k hk=>hk
 have hu1:u ∈ [u]:=List.mem_singleton.2 rfl
 refine ⟨h0,vp,hB.grown hg (hu.ne_blk hB he),⟨OwK.ch hO.row hch fun c hc hc'=>absurd (ne_ty (OwK.ty hO.row hc) (hu.ty hc')) (by decide),fun j hj=>(hO.prem j hj).ch hch fun c hc hc'=>(hS u hu1 c hc').2 j hj hc,fun j hj=>(hO.left j hj).ch hch fun c hc hc'=>absurd (ne_ty ((hO.left j hj).ty hc) (hu.ty hc')) (by decide),hO.dp,hO.dl⟩,?_⟩
 intro z hz c hc
 rw [List.mem_singleton.1 hz] at hc
 refine ⟨hlt c hc,fun j hj e'=>?_⟩
 rcases hat with e1 | ⟨c',e1,hge⟩
 ·rw [e1] at hc
  exact (hS u hu1 c hc).2 j hj e'
 ·rw [e1] at hc
  cases hc
  have:=((hO.prem j hj).blk _ e').2
  omega
theorem OwI.nil (l0:Nat) (w:World):OwI l0 w (.slice none 0 0) []:=⟨OwK.nil _ _ _ _,fun j hj=>absurd hj (Nat.not_lt_zero j),fun j hj=>absurd hj (Nat.not_lt_zero j),fun a _ ha=>absurd ha (Nat.not_lt_zero a),fun a _ ha=>absurd ha (Nat.not_lt_zero a)⟩
theorem OwI.snoc {lo:Nat} {w w':World} {v v':Value} {Q:List IV} {x:IV} (h:OwI lo w v Q) (hg:w.grownBy w' v.ownBlock) (hrow:OwK 5 lo aT w' v' (Q.length + 1) (cA Q ++ x.cs)) (hp:Ow lo t_i64 w x.vp (ints (nats x.i.prem))) (hl:Ow lo aB w x.vl (strs x.i.left))
  (hdp:∀ j,j < Q.length → ∀ c,(gt Q j).vp.ownBlock = some c → x.vp.ownBlock ≠ some c) (hdl:∀ j,j < Q.length → ∀ c,(gt Q j).vl.ownBlock = some c → x.vl.ownBlock ≠ some c):OwI lo w' v' (Q ++ [x]):=by
 have hch:=dG (S:=fun k=>v.ownBlock = some k) hg fun k hk=>hk
 have keep:∀ {e:TypeId} {u:Value} {xs:List Value},e ≠ aT → Ow lo e w u xs → Ow lo e w' u xs:=fun hne k=>k.ch hch fun c hc hS=>hne (ne_ty (k.ty hc) (OwK.ty h.row hS))
 have gl:∀ {j:Nat},j < Q.length → gt (Q ++ [x]) j = gt Q j:=fun hj=>by rw [gt_eq (by rw [List.length_append];omega),gt_eq hj,List.getElem_append_left hj]
 have ge:gt (Q ++ [x]) Q.length = x:=BO Q x
 have hlen:(Q ++ [x]).length = Q.length + 1:=by rw [List.length_append];rfl
 refine ⟨?_,fun j hj=>?_,fun j hj=>?_,fun a b ha hb hab c hc=>?_,fun a b ha hb hab c hc=>?_⟩
 ·rw [hlen,SN,show cA [x] = x.cs by simp [cA]];exact hrow
 ·rw [hlen] at hj
  by_cases hjl:j < Q.length
  ·rw [gl hjl];exact keep (by decide) (h.prem j hjl)
  ·have:j = Q.length:=by omega
   subst this
   rw [ge];exact keep (by decide) hp
 ·rw [hlen] at hj
  by_cases hjl:j < Q.length
  ·rw [gl hjl];exact keep (by decide) (h.left j hjl)
  ·have:j = Q.length:=by omega
   subst this
   rw [ge];exact keep (by decide) hl
 ·rw [hlen] at ha hb
  by_cases h1:a < Q.length
  ·rw [gl h1] at hc
   by_cases h2:b < Q.length
   ·rw [gl h2];exact h.dp a b h1 h2 hab c hc
   ·have:b = Q.length:=by omega
    subst this
    rw [ge];exact hdp a h1 c hc
  ·have:a = Q.length:=by omega
   subst this
   rw [ge] at hc
   have h2:b < Q.length:=by omega
   rw [gl h2]
   exact fun hc'=>hdp b h2 c hc' hc
 ·rw [hlen] at ha hb
  by_cases h1:a < Q.length
  ·rw [gl h1] at hc
   by_cases h2:b < Q.length
   ·rw [gl h2];exact h.dl a b h1 h2 hab c hc
   ·have:b = Q.length:=by omega
    subst this
    rw [ge];exact hdl a h1 c hc
  ·have:a = Q.length:=by omega
   subst this
   rw [ge] at hc
   have h2:b < Q.length:=by omega
   rw [gl h2]
   exact fun hc'=>hdl b h2 c hc' hc
theorem IS {lo:Nat} {v:Value} {l:List Int} {w:World} (hs:Ow lo t_i64 w v (ints l)) (hL:l.length ≤ 1099511627776):
  Cal Tryz.prog mX #[v] w fun r w'=>Ext w w' ∧ Ow w.heap.size t_i64 w' r (ints l):=by
 apply xC;unfold m6
 have hll:(ints l).length = l.length:=bA l
 refine T3 hs (fun e=>?_) ?_
 ·refine iCndT rfl ⟨Ext.refl _,?_⟩
  have:ints l = []:=by
   obtain ⟨_,h | ⟨g,cap,cur,hv,_⟩⟩:=hs
   ·exact List.length_eq_zero_iff.1 h.2
   ·rw [e] at hv;cases hv
  rw [this];exact Ow.nil _ _ _
 ·refine iCndF rfl ?_
  refine iBs0 fun u w1 hw1 x1 ho=>?_
  refine iApp n6 nR rfl ho (hs.ext x1).sl (fun y hy=>by
   obtain ⟨z,_,rfl⟩:=List.mem_map.1 hy
   rfl) (by simp only [List.length_nil];omega) (by simp only [List.length_nil];omega) (by omega) fun u' w2 ho2 hg=>?_
  refine ⟨x1.grown hg fun b hb=>(ho.blk b hb).1,by simpa using ho2⟩
theorem HD {v:Value} {n:Nat} {xs:List Value} {w:World} (hs:SlK 5 w v n xs):Ret Tryz.prog kO #[v] w (.int .i64 (n:Int)):=by
 apply tK;unfold kW
 exact iLenK hs ⟨rfl,Ext.refl _⟩
abbrev SMi (l0:Nat) (w:World) (b:Nat) (vs:List Value) (Q:List IV):Prop:=SM 49 l0 w b vs vs Q
theorem jT {l0 b:Nat} {w:World} {vs vl vq:Value} {Q:List IV} (hM:SMi l0 w b [vs] Q) {rule:Nat} {L:List Str} {ps:List Nat} {c main:Str} (hl:TxW 0 w vl L) (hp:Ow 0 t_i64 w vq (ints (nats ps))) (hL:L.length ≤ 1000000) (hP:ps.length ≤ 1000000) (hQ:Q.length ≤ 1000000):
  Cal Tryz.prog cB #[bp b,.int .i64 (rule:Int),vl,sv c,sv main,vq] w fun u w'=>u = .int .i64 (Q.length:Int) ∧ SCh l0 b w w' ∧ ∃ x:IV,x.i = ⟨rule,ps,L,c,main⟩ ∧ SMi l0 w' b [vs] (Q ++ [x]):=by
 obtain ⟨hlo,vp,hB,hO,hSe⟩:=hM
 apply xF;unfold m9
 refine iNil (iFa (iLdB hB (i:=0) (v:=vp) rfl ?_))
 intro w1 x1
 refine iCall ((IS (hp.ext x1) (by rw [eA];omega)).mono ?_)
 rintro rp w2 ⟨x2,hrp⟩
 refine ⟨x2,fun w3 x3=>?_⟩
 refine iCall ((oL (hl.ext ((x1.trans x2).trans x3)) (by omega)).mono ?_)
 rintro rl w4 ⟨x4,hrl⟩
 refine ⟨x4,lP rfl hrp.cell hrl.cell rfl rfl ?_⟩
 intro w5 x5
 refine iBs15 fun bb w6 hbb x6 hB6=>⟨x6,fun w7 x7=>?_⟩
 have X1:Ext w w4:=((x1.trans x2).trans x3).trans x4
 have x47:=(x5.trans x6).trans x7
 have X7:=X1.trans x47
 have hO7:=hO.ext X7
 have hB7:=hB.ext X7
 have hwl:l0 ≤ w.heap.size:=Nat.le_trans hlo (Nat.le_of_lt hB.lt)
 have hrp7:Ow l0 t_i64 w7 rp (ints (nats ps)):=(hrp.ext ((x3.trans x4).trans x47)).mono (Nat.le_trans hwl x1.size)
 have hrl7:Ow l0 aB w7 rl (strs L):=(hrl.ext x47).mono (Nat.le_trans hwl ((x1.trans x2).trans x3).size)
 have hsl:SlK 5 w7 (.slice (some ⟨bb,0,none⟩) 1 1) 1 (IV.cs ⟨⟨rule,ps,L,c,main⟩,rp,rl⟩):=SlK.ofBlk (hB6.ext x7) rfl (by decide)
 refine iAppK uK tV rfl (by decide) hO7.row hsl (fun y hy=>by
  simp only [IV.cs,List.mem_cons,List.not_mem_nil,or_false] at hy
  rcases hy with rfl | rfl | rfl | rfl | rfl
  ·rfl
  ·exact hrp.cell
  ·exact hrl.cell
  ·rfl
  ·rfl) (by omega) (by omega) (Nat.le_trans hwl X7.size) fun vp' w8 hrow8 hg8 hat8=>?_
 have hch8:=dG (S:=fun k=>vp.ownBlock = some k) hg8 fun k hk=>hk
 have hB8:=hB7.grown hg8 (fun e=>GX hO7.row hB7 (by decide) e)
 have hO8:OwI l0 w8 vp' (Q ++ [⟨⟨rule,ps,L,c,main⟩,rp,rl⟩]):=hO7.snoc hg8 hrow8 hrp7 hrl7 (fun j hj k hk hk'=>by
  have h1:=((hO.prem j hj).blk k hk).2
  have h2:=(hrp.blk k hk').1
  have:=x1.size
  omega) (fun j hj k hk hk'=>by
  have h1:=((hO.left j hj).blk k hk).2
  have h2:=(hrl.blk k hk').1
  have:=((x1.trans x2).trans x3).size
  omega)
 refine iNil (iFa ?_)
 intro w9 x9
 have hB9:=hB8.ext x9
 refine iStB (i:=0) hB9 (by simp) hrow8.cell fun hB10=>?_
 have hch10:=(Upd.setCell w9 b 0 vp').ch (S:=fun k=>k = b) rfl
 generalize w9.setCell ⟨b,0,none⟩ vp' = w10 at *
 intro w11 x11
 have hB10:Blk 49 w10 b [vp',vs]:=hB10
 have hO9:=hO8.ext x9
 have ne9:∀ {e:TypeId} {k:Nat} {xs:List Value} {u:Value},e ≠ 49 → Ow l0 e w9 u xs → Ow l0 e w10 u xs:=fun hne h=>h.ch hch10 fun c hc hS=>h.ne_blk hB9 hne (by have hS:c = b:=hS;rw [hc,hS])
 have hO10:OwI l0 w10 vp' (Q ++ [⟨⟨rule,ps,L,c,main⟩,rp,rl⟩]):=⟨OwK.ch hO9.row hch10 fun k hk hS=>GX hO9.row hB9 (by decide) (by have hS:k = b:=hS;rw [hk,hS]),fun j hj=>ne9 (k:=0) (by decide) (hO9.prem j hj),fun j hj=>ne9 (k:=0) (by decide) (hO9.left j hj),hO9.dp,hO9.dl⟩
 have hO11:=hO10.ext x11
 have hB11:=hB10.ext x11
 refine iNil (iFa (iLdB hB11 (i:=0) (v:=vp') rfl ?_))
 refine iRet (HD hO11.row.sl) fun w12 x12=>?_
 rw [List.length_append,List.length_singleton]
 refine iSub (by omega) ?_
 have hfin:=((((SCh.ext (b:=b) X7).trans (SCh.row hO7.row hch8)).trans (SCh.ext x9)).trans (SCh.blk hch10)).trans (SCh.ext (x11.trans x12))
 refine ⟨by congr 1;omega,hfin,_,rfl,hlo,vp',hB11.ext x12,hO11.ext x12,hSe.snoc hfin.size fun c hc=>Nat.le_trans x1.size (hrp.blk c hc).1⟩
end Go.Proofs.YtkjoppimpmojfaaGreat

namespace Go.Vc
theorem UZ {L:List Str} (h:Inc L) (t:Str):addT L t = insT t L:=by
 have e:setT L = L:=BB (gV _) h fun u=>cP
 show (L ++ [t]).foldl (fun a x=>insT x a) [] = _
 rw [List.foldl_append]
 show insT t (setT L) = _
 rw [e]
theorem oK (L:List Str) (t:Str):(addT L t).length ≤ L.length + 1:=by
 have:=mD (L ++ [t])
 rw [List.length_append,List.length_singleton] at this
 exact this
theorem KP {N:Nat} {s:Ded} {g:List Nat} {a:Str} {p:Str × Str} (h:s.rule = 4 ∨ s.rule = 5) (hp:parK a 2 = some p):makeD N s g a = [⟨1,[],setT (addT (setT s.asm) a ++ [p.1,p.2]),s.con,[]⟩,⟨3,[N],addT (setT s.asm) a,s.con,a⟩,⟨11,[gt g 0,N + 1],setT s.asm,s.con,a⟩]:=by
 unfold makeD
 rw [if_neg (by omega),if_neg (by omega),if_neg (by omega),if_pos h,hp]
theorem ID {N:Nat} {s:Ded} {g:List Nat} {a:Str} {p:Str × Str} (h:s.rule = 8) (hp:parK a 3 = some p):makeD N s g a = [⟨10,[gt g 1],addT (addT (setT s.asm) a) p.1,s.con,[]⟩,⟨10,[gt g 2],addT (addT (setT s.asm) a) p.2,s.con,[]⟩,⟨5,[N,N + 1],addT (setT s.asm) a,s.con,a⟩,⟨11,[gt g 0,N + 2],setT s.asm,s.con,a⟩]:=by
 unfold makeD
 rw [if_neg (by omega),if_neg (by omega),if_neg (by omega),if_neg (by omega),if_neg (by omega),if_neg (by omega),if_pos h,hp]
theorem N9 {N:Nat} {s:Ded} {g:List Nat} {a:Str} {p:Str × Str} (h:s.rule = 10) (hp:parK a 4 = some p):makeD N s g a = [⟨10,[gt g 1],addT (setT s.asm) a,p.1,[]⟩,⟨1,[],addT (addT (setT s.asm) a) p.2,s.con,[]⟩,⟨8,[N,N + 1],addT (setT s.asm) a,s.con,a⟩,⟨11,[gt g 0,N + 2],setT s.asm,s.con,a⟩]:=by
 unfold makeD
 rw [if_neg (by omega),if_neg (by omega),if_neg (by omega),if_neg (by omega),if_neg (by omega),if_neg (by omega),if_neg (by omega),if_neg (by omega),hp]
end Go.Vc
namespace Go.Proofs.YtkjoppimpmojfaaGreat
open Go.Vc
theorem IY {v0 v1:Value} {ps:List Int} {at_:List Nat} {w:World} (h0:SlI w v0 ps) (h1:SlN w v1 at_) (hin:∀ q ∈ ps,0 ≤ q ∧ q.toNat < at_.length) (hl:ps.length ≤ 1000000):Cal Tryz.prog yR #[v0,v1] w fun r w'=>Ext w w' ∧ Ow w.heap.size t_i64 w' r (ints (nats (ps.map fun j=>gt at_ j.toNat))):=by
 apply KM;unfold xX
 refine iLenI h0 ?_
 refine iLp (fun s:Value × Nat=>[s.1,.int .i64 (s.2:Int)]) (fun s w'=>s.2 ≤ ps.length ∧ Ext w w' ∧ Ow w.heap.size t_i64 w' s.1 (ints (nats ((ps.take s.2).map fun j=>gt at_ j.toNat)))) (fun s=>ps.length - s.2) (.slice none 0 0,0) rfl ⟨Nat.zero_le _,Ext.refl _,Ow.nil _ _ _⟩ ?_
 rintro ⟨r,i⟩ w2 Kn ⟨hi,x2,ho⟩ hKn
 have hi:i ≤ ps.length:=hi
 have ho:Ow w.heap.size t_i64 w2 r (ints (nats ((ps.take i).map fun j=>gt at_ j.toNat))):=ho
 intro _
 simp only [gx]
 refine iLt (iCndP (fun h=>?_) (fun h=>?_))
 ·have hil:i < ps.length:=by omega
  refine iIaN (h0.ext x2) hil fun p hp=>?_
  have e:ps.getD i 0 = ps[i]:=by simp [hil]
  rw [e] at hp
  have etk:ps.take (i + 1) = ps.take i ++ [ps[i]]:=List.take_succ_eq_append_getElem hil
  obtain ⟨q0,q1⟩:=hin _ (List.getElem_mem hil)
  generalize ps[i] = q at *
  refine iLd hp ?_
  obtain ⟨m,rfl⟩:=Int.eq_ofNat_of_zero_le q0
  rw [Int.toNat_natCast] at q1
  refine iIaNN (h1.ext x2) q1 fun p2 hp2=>?_
  rw [show at_.getD m 0 = gt at_ m by rw [gt_eq q1];simp [q1]] at hp2
  refine iLd hp2 ?_
  have hlen:(ints (nats ((ps.take i).map fun j=>gt at_ j.toNat))).length = i:=by rw [bA,eA,List.length_map,List.length_take];omega
  refine iApp1 n6 nR rfl ho rfl (by rw [hlen];omega) (by rw [hlen];omega) x2.size fun r' w5 ho5 hg5=>?_
  refine iAdd (by omega) ?_
  refine hKn (r',i + 1) _ ⟨hil,x2.grown hg5 fun b hb=>(ho.blk b hb).1,?_⟩ (by show ps.length - (i + 1) < ps.length - i;omega)
  show Ow _ _ _ r' (ints (nats ((ps.take (i + 1)).map fun j=>gt at_ j.toNat)))
  rw [etk,List.map_append]
  rw [show ints (nats ((ps.take i).map (fun j=>gt at_ j.toNat) ++ [((m:Nat):Int)].map fun j=>gt at_ j.toNat)) = ints (nats ((ps.take i).map fun j=>gt at_ j.toNat)) ++ [.int .i64 ((gt at_ m:Nat):Int)] by simp [ints,nats]]
  exact ho5
 ·have:i = ps.length:=by omega
  subst this
  rw [List.take_length] at ho
  exact ⟨x2,ho⟩
theorem iIaG1 {lo:Nat} {w:World} {vg:Value} {g:List Nat} {j:Nat} {K:Value → Prop} (hg:Ow lo t_i64 w vg (ints (nats g))) (hj:j < g.length) (h:K (.int .i64 ((gt g j:Nat):Int))):xIa 1 vg (.int .i64 (j:Int)) fun p=>xLd w p K:=by
 have hs:SlN w vg g:=hg.sl
 refine iIaNN hs hj fun p hp=>?_
 rw [show g.getD j 0 = gt g j by rw [gt_eq hj];simp [hj]] at hp
 exact iLd hp h
def MadeQ (l0 b:Nat) (vs:Value) (Q:List IV) (M:List Inf) (w:World):Value → World → Prop:=fun u w'=>SCh l0 b w w' ∧ ∃ RQ:List IV,RQ.map IV.i = M ∧ SMi l0 w' b [vs] (Q ++ RQ) ∧ u = .int .i64 ((Q.length + M.length - 1:Nat):Int)
theorem xD {l0 b:Nat} {w:World} {vs vl vg:Value} {Q:List IV} (hM:SMi l0 w b [vs] Q) {x:DV} {g:List Nat} {a:Str} {k:Nat} {p:Str × Str} (hr:((x.d.rule = 4 ∨ x.d.rule = 5) ∧ k = 2 ∧ 1 ≤ g.length) ∨ (x.d.rule = 8 ∧ k = 3 ∧ 3 ≤ g.length) ∨ (x.d.rule = 10 ∧ k = 4 ∧ 2 ≤ g.length)) (ha:plT a = true) (hp:parK a k = some p) (hl:TxW 0 w vl (setT x.d.asm)) (hg:Ow 0 t_i64 w vg (ints (nats g))) (hL:x.d.asm.length ≤ 12) (hQ:Q.length ≤ 100000):
  Cal Tryz.prog c7 #[bp b,.agg x.cs.toArray,vl,sv a,vg] w (MadeQ l0 b vs Q (makeD Q.length x.d g a) w):=by
 obtain ⟨-,hag,-,-,hac⟩:=dY ha
 obtain ⟨hk,hk2⟩:=mA hp
 have hSl:(setT x.d.asm).length ≤ 12:=Nat.le_trans (mD _) hL
 have hWl:(addT (setT x.d.asm) a).length ≤ 13:=by have:=oK (setT x.d.asm) a;omega
 have hk234:k = 2 ∨ k = 3 ∨ k = 4:=by omega
 apply qJ;unfold jK
 refine iNew5 fun q1 w1 hq1 x1 hB1=>?_
 have hB1:Blk aC w1 q1 [.int .i64 x.d.rule,x.vp,x.vl,sv x.d.con,.int .i64 x.d.num]:=hB1
 refine iFa (iLdB hB1 (i:=3) (v:=sv x.d.con) rfl ?_)
 intro w2 x2
 refine iCall ((bW a w2).mono ?_)
 rintro va w3 ⟨x3,hva,-⟩
 have hva:FmW w2.heap.size w3 va (fT a):=hva hac
 refine ⟨x3,fun w4 x4=>?_⟩
 refine iCall ((eK (SlK.ext hva.sl x4) hag (Nat.le_trans (bL hac).1 (by decide))).mono ?_)
 rintro pv w5 ⟨x5,hpv⟩
 refine ⟨x5,fun w6 x6=>?_⟩
 have X6:=((((x1.trans x2).trans x3).trans x4).trans x5).trans x6
 refine iBs1 rfl rfl fun b7 w7 _ x7 hB7=>?_
 have hl7:=hl.ext (X6.trans x7)
 refine iCall ((k9 (A:=setT x.d.asm) (B:=[a]) hl7.sl (Sl.ofBlk (n:=1) hB7 rfl (by decide)) hl.cell rfl (by simp only [List.length_cons,List.length_nil];omega)).mono ?_)
 rintro vW w8 ⟨x8,hW⟩
 have X8:=(X6.trans x7).trans x8
 have hW:TxW 0 w8 vW (addT (setT x.d.asm) a):=hW.mono (Nat.zero_le _)
 have hp8:TxW 0 w8 pv [p.1,p.2]:=by
  obtain ⟨p',e1,e2⟩:=fL hk234 hk
  rw [hp] at e1;cases e1
  rw [e2] at hpv
  exact (hpv.ext ((x6.trans x7).trans x8)).mono (Nat.zero_le _)
 have hM8:=hM.ext X8
 have hg8:=hg.ext X8
 have hl8:=hl.ext X8
 have hB8:=hB1.ext (((((x2.trans x3).trans x4).trans x5).trans x6).trans (x7.trans x8))
 have ad:∀ {w':World} {Q':List IV} {rule:Nat} {v v2:Value} {L:List Str} {ps:List Nat} {c main:Str} {K:Value → World → Prop},SMi l0 w' b [vs] Q' → TxW 0 w' v L → Ow 0 t_i64 w' v2 (ints (nats ps)) → L.length ≤ 100 → ps.length ≤ 100 → Q'.length ≤ 200000 → (∀ w'' x',SCh l0 b w' w'' → x'.i = ⟨rule,ps,L,c,main⟩ → SMi l0 w'' b [vs] (Q' ++ [x']) → K (.int .i64 ((Q'.length:Nat):Int)) w'') → callV Tryz.prog (.func (.func cB) #[] #[]) [bp b,.int .i64 (rule:Int),v,sv c,sv main,v2] w' K:=fun {w' Q' rule v v2 L ps c main K} h1 h2 h3 h4 h5 h6 h=>by
  refine iCall ((jT h1 h2 h3 (by omega) (by omega) (by omega)).mono ?_)
  rintro _ w'' ⟨rfl,hs,x',hx',hM'⟩
  exact h w'' x' hs hx' hM'
 have kp:∀ {w' w'':World} {Q':List IV} {e:TypeId} {u:Value} {xs:List Value},SMi l0 w' b [vs] Q' → SCh l0 b w' w'' → e ≠ 49 → e ≠ aT → Ow 0 e w' u xs → Ow 0 e w'' u xs:=fun h1 h2 h3 h4 h=>by
  obtain ⟨-,vp,hBm,-⟩:=h1
  exact Ow.sch h h2 hBm h3 h4
 have two:∀ {w':World} {c:Nat} {m n:Nat},Blk t_i64 w' c [.int .i64 (m:Int),.int .i64 (n:Int)] → Ow 0 t_i64 w' (.slice (some ⟨c,0,none⟩) 2 2) (ints (nats [m,n])):=fun h=>Ow.ofBlk (n:=2) h (Nat.zero_le _) rfl (by decide)
 have one:∀ {w':World} {c:Nat} {m:Nat},Blk t_i64 w' c [.int .i64 (m:Int)] → Ow 0 t_i64 w' (.slice (some ⟨c,0,none⟩) 1 1) (ints (nats [m])):=fun h=>Ow.ofBlk (n:=1) h (Nat.zero_le _) rfl (by decide)
 have put1:∀ {w':World} {c:Nat} {t:Str} {K:Value → World → Prop},Ext w8 w' ∨ True → TxW 0 w' vW (addT (setT x.d.asm) a) → Blk aB w' c [sv t] → (∀ u w'',Ext w' w'' → TxW 0 w'' u (addT (addT (setT x.d.asm) a) t) → K u w'') → callV Tryz.prog (.func (.func DW) #[] #[]) [vW,.slice (some ⟨c,0,none⟩) 1 1] w' K:=fun {w' c t K} _ h1 h2 h=>by
  refine iCall ((k9 (A:=addT (setT x.d.asm) a) (B:=[t]) h1.sl (Sl.ofBlk (n:=1) h2 rfl (by decide)) hW.cell rfl (by simp only [List.length_cons,List.length_nil];omega)).mono ?_)
  rintro u w'' ⟨x',hu⟩
  exact h u w'' x' (hu.mono (Nat.zero_le _))
 have hadd:∀ t,(addT (addT (setT x.d.asm) a) t).length ≤ 100:=fun t=>by have:=oK (addT (setT x.d.asm) a) t;omega
 refine iFa (iLdB hB8 (i:=0) (v:=.int .i64 x.d.rule) rfl (iEq ?_))
 refine iJnX (fun xs w'=>xs = [.bool (decide (x.d.rule = 4 ∨ x.d.rule = 5))] ∧ w' = w8) (fun J hJ=>?_) ?_
 ·refine iCndP (fun h4=>?_) (fun h4=>?_)
  ·rw [decide_eq_true (.inl h4)] at hJ
   exact hJ _ _ ⟨rfl,rfl⟩
  ·refine iEq (hJ _ _ ⟨?_,rfl⟩)
   rw [show decide (x.d.rule = 4 ∨ x.d.rule = 5) = decide (x.d.rule = 5) from decide_eq_decide.2 ⟨fun e=>e.resolve_left h4,.inr⟩]
 rintro _ w10 ⟨rfl,rfl⟩
 intro _
 -- what stands before the cut
 refine iJnX (fun xs w'=>∃ (M:List Inf) (RQ:List IV),xs = [.int .i64 ((Q.length + M.length - 1:Nat):Int)] ∧ 0 < M.length ∧ M.length ≤ 3 ∧ makeD Q.length x.d g a = M ++ [⟨11,[gt g 0,Q.length + M.length - 1],setT x.d.asm,x.d.con,a⟩] ∧ RQ.map IV.i = M ∧ SCh l0 b w10 w' ∧ SMi l0 w' b [vs] (Q ++ RQ)) (fun J hJ=>?_) ?_
 rotate_left
 ·rintro _ w12 ⟨M,RQ,rfl,hM0,hM3,hmk,hRQ,hs12,hM12⟩
  intro _
  simp only [gx]
  have hg12:=kp hM8 hs12 (by decide) (by decide) hg8
  have hl12:=kp hM8 hs12 (by decide) (by decide) hl8
  have hRl:RQ.length = M.length:=by rw [← hRQ,List.length_map]
  refine iIaG1 (j:=0) hg12 (by omega) ?_
  refine iBs2 rfl rfl rfl fun c w13 _ x13 hB13=>?_
  refine ad (hM12.ext x13) (hl12.ext x13) (two hB13) (by omega) (by simp) (by rw [List.length_append];omega) fun w14 x' hs14 hx' hM14=>?_
  refine ⟨((SCh.ext X8).trans (hs12.trans (SCh.ext x13))).trans hs14,RQ ++ [x'],?_,by rw [← List.append_assoc];exact hM14,?_⟩
  ·rw [hmk,List.map_append,hRQ,List.map_singleton,hx']
  ·rw [hmk]
   simp only [List.length_append,List.length_singleton,hRl]
   congr 2
 show cnd (.bool (decide (x.d.rule = 4 ∨ x.d.rule = 5))) _ _
 refine iCndP (fun h45=>?_) (fun h45=>?_)
 ·have hk2:k = 2:=by omega
  subst hk2
  refine iCall ((k9 (A:=addT (setT x.d.asm) a) (B:=[p.1,p.2]) hW.sl hp8.sl hW.cell hp8.cell (by simp only [List.length_cons,List.length_nil];omega)).mono ?_)
  rintro u w13 ⟨x13,hu⟩
  have hul:(setT (addT (setT x.d.asm) a ++ [p.1,p.2])).length ≤ 100:=by
   have:=mD (addT (setT x.d.asm) a ++ [p.1,p.2])
   rw [List.length_append] at this
   simp only [List.length_cons,List.length_nil] at this
   omega
  refine ad (ps:=[]) (hM8.ext x13) (hu.mono (Nat.zero_le _)) (Ow.nil _ _ _) hul (by simp) (by omega) fun w14 y1 hs14 hy1 hM14=>?_
  have hW14:=kp (hM8.ext x13) hs14 (by decide) (by decide) (hW.ext x13)
  refine iBs1 rfl rfl fun c w15 _ x15 hB15=>?_
  refine ad (hM14.ext x15) (hW14.ext x15) (one hB15) (by omega) (by simp) (by rw [List.length_append];simp;omega) fun w16 y2 hs16 hy2 hM16=>?_
  refine hJ _ _ ⟨[⟨1,[],setT (addT (setT x.d.asm) a ++ [p.1,p.2]),x.d.con,[]⟩,⟨3,[Q.length],addT (setT x.d.asm) a,x.d.con,a⟩],[y1,y2],?_,by simp,by simp,?_,by rw [List.map_cons,List.map_singleton,hy1,hy2],(((SCh.ext x13).trans hs14).trans (SCh.ext x15)).trans hs16,by rw [List.append_assoc] at hM16;exact hM16⟩
  ·rw [List.length_append];rfl
  ·rw [KP h45 hp];rfl
 refine iEq ?_
 refine iJnX (fun xs w'=>∃ (M:List Inf) (RQ:List IV),xs = [.int .i64 ((Q.length + M.length - 1:Nat):Int)] ∧ 0 < M.length ∧ M.length ≤ 3 ∧ makeD Q.length x.d g a = M ++ [⟨11,[gt g 0,Q.length + M.length - 1],setT x.d.asm,x.d.con,a⟩] ∧ RQ.map IV.i = M ∧ SCh l0 b w10 w' ∧ SMi l0 w' b [vs] (Q ++ RQ)) (fun J17 hJ17=>?_) ?_
 rotate_left
 ·rintro _ w18 ⟨M,RQ,rfl,h⟩
  exact fun _=>hJ _ _ ⟨M,RQ,rfl,h⟩
 refine iCndP (fun h8=>?_) (fun h8=>?_)
 ·have hk3:k = 3 ∧ 3 ≤ g.length:=by omega
  obtain ⟨rfl,hg3⟩:=hk3
  -- one weakening
  refine iJnX (fun xs w'=>xs = [.int .i64 ((Q.length:Nat):Int)] ∧ SCh l0 b w10 w' ∧ ∃ y:IV,y.i = ⟨10,[gt g 1],addT (addT (setT x.d.asm) a) p.1,x.d.con,[]⟩ ∧ SMi l0 w' b [vs] (Q ++ [y])) (fun J19 hJ19=>?_) ?_
  ·refine iIaG (j:=0) hp8.sl rfl (by simp) ?_
   refine iIaG1 (j:=1) hg8 (by omega) ?_
   have fin:∀ {w':World} {u v2:Value},Ext w10 w' → TxW 0 w' u (addT (addT (setT x.d.asm) a) p.1) → Ow 0 t_i64 w' v2 (ints (nats [gt g 1])) → callV Tryz.prog (.func (.func cB) #[] #[]) [bp b,.int .i64 10,u,sv x.d.con,.string ⟨#[]⟩,v2] w' fun v86 w28=>∀ w29,Ext w28 w29 → J19 [v86] w29:=fun {w' u v2} hx hu h2=>by
    refine ad (rule:=10) (main:=[]) (hM8.ext hx) hu h2 (hadd _) (by simp) (by omega) fun w'' y hs hy hM'=>?_
    intro w29 x29
    exact hJ19 _ _ ⟨rfl,((SCh.ext hx).trans hs).trans (SCh.ext x29),y,hy,hM'.ext x29⟩
   intro w21 x21
   refine ⟨iBs1 rfl rfl fun c w22 _ x22 hB22=>⟨x22,fun w23 x23=>⟨?_,?_⟩⟩,?_⟩
   ·have X23:=(x21.trans x22).trans x23
    refine put1 (.inr trivial) (hW.ext X23) (hB22.ext x23) fun u w24 x24 hu=>⟨x24,fun w25 x25=>?_⟩
    refine iBs1 rfl rfl fun c2 w26 _ x26 hB26=>⟨x26,fun w27 x27=>?_⟩
    have xx:=(x25.trans x26).trans x27
    exact fin ((X23.trans x24).trans xx) (hu.ext xx) (one (hB26.ext x27))
   ·refine iBs1 rfl rfl fun c2 w30 _ x30 hB30=>⟨x30,fun w31 x31=>?_⟩
    have X31:=((x21.trans x22).trans x23).trans (x30.trans x31)
    refine put1 (.inr trivial) (hW.ext X31) (hB22.ext ((x23.trans x30).trans x31)) fun u w32 x32 hu=>⟨x32,fun w33 x33=>?_⟩
    exact fin ((X31.trans x32).trans x33) (hu.ext x33) (one (hB30.ext ((x31.trans x32).trans x33)))
   ·refine iBs1 rfl rfl fun c2 w36 _ x36 hB36=>⟨x36,fun w37 x37=>?_⟩
    refine iBs1 rfl rfl fun c w38 _ x38 hB38=>⟨x38,fun w39 x39=>?_⟩
    have X39:=((x21.trans x36).trans x37).trans (x38.trans x39)
    refine put1 (.inr trivial) (hW.ext X39) (hB38.ext x39) fun u w40 x40 hu=>⟨x40,fun w41 x41=>?_⟩
    exact fin ((X39.trans x40).trans x41) (hu.ext x41) (one (hB36.ext ((x37.trans (x38.trans x39)).trans (x40.trans x41))))
  rintro _ w20 ⟨rfl,hs20,y1,hy1,hM20⟩
  intro _
  simp only [gx]
  have hW20:=kp hM8 hs20 (by decide) (by decide) hW
  have hp20:=kp hM8 hs20 (by decide) (by decide) hp8
  have hg20:=kp hM8 hs20 (by decide) (by decide) hg8
  have hQ1:(Q ++ [y1]).length = Q.length + 1:=by rw [List.length_append];rfl
  refine iJnX (fun xs w'=>xs = [.int .i64 ((Q.length + 1:Nat):Int)] ∧ SCh l0 b w20 w' ∧ ∃ y:IV,y.i = ⟨10,[gt g 2],addT (addT (setT x.d.asm) a) p.2,x.d.con,[]⟩ ∧ SMi l0 w' b [vs] ((Q ++ [y1]) ++ [y])) (fun J44 hJ44=>?_) ?_
  ·refine iIaG (j:=1) hp20.sl rfl (by simp) ?_
   refine iIaG1 (j:=2) hg20 (by omega) ?_
   have fin:∀ {w':World} {u v2:Value},Ext w20 w' → TxW 0 w' u (addT (addT (setT x.d.asm) a) p.2) → Ow 0 t_i64 w' v2 (ints (nats [gt g 2])) → callV Tryz.prog (.func (.func cB) #[] #[]) [bp b,.int .i64 10,u,sv x.d.con,.string ⟨#[]⟩,v2] w' fun v86 w28=>∀ w29,Ext w28 w29 → J44 [v86] w29:=fun {w' u v2} hx hu h2=>by
    refine ad (rule:=10) (main:=[]) (hM20.ext hx) hu h2 (hadd _) (by simp) (by omega) fun w'' y hs hy hM'=>?_
    intro w29 x29
    rw [hQ1]
    exact hJ44 _ _ ⟨rfl,((SCh.ext hx).trans hs).trans (SCh.ext x29),y,hy,hM'.ext x29⟩
   intro w21 x21
   refine ⟨iBs1 rfl rfl fun c w22 _ x22 hB22=>⟨x22,fun w23 x23=>⟨?_,?_⟩⟩,?_⟩
   ·have X23:=(x21.trans x22).trans x23
    refine put1 (.inr trivial) (hW20.ext X23) (hB22.ext x23) fun u w24 x24 hu=>⟨x24,fun w25 x25=>?_⟩
    refine iBs1 rfl rfl fun c2 w26 _ x26 hB26=>⟨x26,fun w27 x27=>?_⟩
    have xx:=(x25.trans x26).trans x27
    exact fin ((X23.trans x24).trans xx) (hu.ext xx) (one (hB26.ext x27))
   ·refine iBs1 rfl rfl fun c2 w30 _ x30 hB30=>⟨x30,fun w31 x31=>?_⟩
    have X31:=((x21.trans x22).trans x23).trans (x30.trans x31)
    refine put1 (.inr trivial) (hW20.ext X31) (hB22.ext ((x23.trans x30).trans x31)) fun u w32 x32 hu=>⟨x32,fun w33 x33=>?_⟩
    exact fin ((X31.trans x32).trans x33) (hu.ext x33) (one (hB30.ext ((x31.trans x32).trans x33)))
   ·refine iBs1 rfl rfl fun c2 w36 _ x36 hB36=>⟨x36,fun w37 x37=>?_⟩
    refine iBs1 rfl rfl fun c w38 _ x38 hB38=>⟨x38,fun w39 x39=>?_⟩
    have X39:=((x21.trans x36).trans x37).trans (x38.trans x39)
    refine put1 (.inr trivial) (hW20.ext X39) (hB38.ext x39) fun u w40 x40 hu=>⟨x40,fun w41 x41=>?_⟩
    exact fin ((X39.trans x40).trans x41) (hu.ext x41) (one (hB36.ext ((x37.trans (x38.trans x39)).trans (x40.trans x41))))
  rintro _ w45 ⟨rfl,hs45,y2,hy2,hM45⟩
  intro _
  simp only [gx]
  have hW45:=kp hM20 hs45 (by decide) (by decide) hW20
  refine iBs2 rfl rfl rfl fun c w69 _ x69 hB69=>?_
  refine ad (rule:=5) (hM45.ext x69) (hW45.ext x69) (two hB69) (by omega) (by simp) (by rw [List.length_append,hQ1];simp;omega) fun w70 y3 hs70 hy3 hM70=>?_
  refine hJ17 _ _ ⟨[⟨10,[gt g 1],addT (addT (setT x.d.asm) a) p.1,x.d.con,[]⟩,⟨10,[gt g 2],addT (addT (setT x.d.asm) a) p.2,x.d.con,[]⟩,⟨5,[Q.length,Q.length + 1],addT (setT x.d.asm) a,x.d.con,a⟩],[y1,y2,y3],?_,by simp,by simp,?_,by rw [List.map_cons,List.map_cons,List.map_singleton,hy1,hy2,hy3],((hs20.trans hs45).trans (SCh.ext x69)).trans hs70,by simpa using hM70⟩
  ·rw [List.length_append,hQ1];rfl
  ·rw [ID h8 hp];rfl
 ·have h10:x.d.rule = 10 ∧ k = 4 ∧ 2 ≤ g.length:=by
   rcases hr with ⟨h,_⟩ | ⟨h,_⟩ | h
   ·exact absurd h h45
   ·exact absurd h h8
   ·exact h
  obtain ⟨h10,rfl,hg2⟩:=h10
  refine iJnX (fun xs w'=>xs = [.int .i64 ((Q.length:Nat):Int)] ∧ SCh l0 b w10 w' ∧ ∃ y:IV,y.i = ⟨10,[gt g 1],addT (setT x.d.asm) a,p.1,[]⟩ ∧ SMi l0 w' b [vs] (Q ++ [y])) (fun J71 hJ71=>?_) ?_
  ·refine iIaG (j:=0) hp8.sl rfl (by simp) ?_
   refine iIaG1 (j:=1) hg8 (by omega) ?_
   intro w73 x73
   refine iBs1 rfl rfl fun c w74 _ x74 hB74=>⟨x74,fun w75 x75=>?_⟩
   have xx:=(x73.trans x74).trans x75
   refine ad (rule:=10) (main:=[]) (hM8.ext xx) (hW.ext xx) (one (hB74.ext x75)) (by omega) (by simp) (by omega) fun w76 y hs hy hM'=>?_
   intro w77 x77
   exact hJ71 _ _ ⟨rfl,((SCh.ext xx).trans hs).trans (SCh.ext x77),y,hy,hM'.ext x77⟩
  rintro _ w72 ⟨rfl,hs72,y1,hy1,hM72⟩
  intro _
  simp only [gx]
  have hW72:=kp hM8 hs72 (by decide) (by decide) hW
  have hp72:=kp hM8 hs72 (by decide) (by decide) hp8
  have hQ1:(Q ++ [y1]).length = Q.length + 1:=by rw [List.length_append];rfl
  refine iIaG (j:=1) hp72.sl rfl (by simp) ?_
  refine iBs1 rfl rfl fun c w78 _ x78 hB78=>?_
  refine put1 (.inr trivial) (hW72.ext x78) hB78 fun u w79 x79 hu=>?_
  have x7279:=x78.trans x79
  refine ad (rule:=1) (ps:=[]) (main:=[]) (hM72.ext x7279) hu (Ow.nil _ _ _) (hadd _) (by simp) (by omega) fun w80 y2 hs80 hy2 hM80=>?_
  have hW80:=kp (hM72.ext x7279) hs80 (by decide) (by decide) (hW72.ext x7279)
  have hy2:y2.i = ⟨1,[],addT (addT (setT x.d.asm) a) p.2,x.d.con,[]⟩:=hy2
  rw [hQ1]
  refine iBs2 rfl rfl rfl fun c2 w81 _ x81 hB81=>?_
  refine ad (rule:=8) (hM80.ext x81) (hW80.ext x81) (two hB81) (by omega) (by simp) (by rw [List.length_append,hQ1];simp;omega) fun w82 y3 hs82 hy3 hM82=>?_
  refine hJ17 _ _ ⟨[⟨10,[gt g 1],addT (setT x.d.asm) a,p.1,[]⟩,⟨1,[],addT (addT (setT x.d.asm) a) p.2,x.d.con,[]⟩,⟨8,[Q.length,Q.length + 1],addT (setT x.d.asm) a,x.d.con,a⟩],[y1,y2,y3],?_,by simp,by simp,?_,by rw [List.map_cons,List.map_cons,List.map_singleton,hy1,hy2,hy3],(((hs72.trans (SCh.ext x7279)).trans hs80).trans (SCh.ext x81)).trans hs82,by simpa using hM82⟩
  ·rw [List.length_append,hQ1];rfl
  ·rw [N9 h10 hp];rfl
end Go.Proofs.YtkjoppimpmojfaaGreat

namespace Go.Vc
theorem iIaW {w:World} {v x:Value} {xs:List Value} {j:Int} {k:IntKind} {K:Value → Prop} (hs:Sl w v xs) (h0:0 ≤ j) (h1:j < xs.length) (hx:xs[j.toNat]? = some x) (h:∀ p,(∀ w',Sl w' v xs → w'.cell? p = some x) → K (.pointer (some p))):xIa 1 v (.int k j) K:=by
 obtain ⟨a,c,rfl,h2,h3,h4⟩:=hs
 rcases h4 with rfl | ⟨b,o,rfl,hc⟩
 ·simp at h1;omega
 ·refine ⟨_,_,_,_,_,rfl,rfl,h0,h1,h _ fun w' hs'=>?_⟩
  have:(⟨b,o,none⟩:Addr).add (j.toNat * 1) = ⟨b,o + j.toNat,none⟩:=by
   simp only [Addr.add];split
   ·rename_i e;simp at e;simp
   ·simp
  rw [this]
  obtain ⟨a',c',e,-,-,h4'⟩:=hs'
  cases e
  rcases h4' with rfl | ⟨b',o',e2,hc'⟩
  ·simp at h1;omega
  ·cases e2
   rw [hc' _ (by omega)];exact hx
theorem gP {R:List DV} {j:Nat} (h:j < R.length):gt (R.map DV.d) j = (gt R j).d:=by
 rw [gt_eq (by rw [List.length_map];exact h),gt_eq h,List.getElem_map]
end Go.Vc
namespace Go.Proofs.YtkjoppimpmojfaaGreat
open Go.Vc
theorem FR {l0 b:Nat} {w:World} {vs v1:Value} {Q:List IV} {R:List DV} {at_:List Nat} {j:Nat} (hM:SMi l0 w b [vs] Q) (hat:SlN w vs at_) (hR:RdD w v1 R) (hj:j < R.length) (hall:∀ i,i < R.length → goodD (R.map DV.d) i = true) (hal:at_.length = j) (hQ:Q.length ≤ 10000):
  Cal Tryz.prog l4 #[bp b,v1,.agg (gt R j).cs.toArray] w (MadeQ l0 b vs Q (makeD Q.length (gt R j).d ((gt R j).d.prem.map fun q=>gt at_ q.toNat) (gt (R.map DV.d) (gt (gt R j).d.prem 0).toNat).con) w):=by
 have hmem:gt R j ∈ R:=by rw [gt_eq hj];exact List.getElem_mem hj
 have hx:=hR.prem _ hmem
 have hxl:=hR.asm _ hmem
 obtain ⟨hsh,hin,hrf⟩:=eP (hall j hj)
 have hplt:∀ i,i < R.length → plT (gt R i).d.con = true:=fun i hi=>by
  have:=(eP (hall i hi)).1
  rw [gP hi] at this
  exact (eQ this).2.2
 rw [gP hj] at hsh hin hrf
 obtain ⟨hL,hpl,hcp⟩:=eQ hsh
 have hxl:SlT w (gt R j).vl (gt R j).d.asm:=hxl
 generalize gt R j = x at *
 have hpl3:x.d.prem.length ≤ 3:=by
  cases hrf <;> (rename_i e _;skip) <;> simp_all
 obtain ⟨hlo,vp,hB,hO⟩:=id hM
 apply vI;unfold mF
 refine iNew5 fun q1 w1 hq1 x1 hB1=>?_
 have hB1:Blk aC w1 q1 [.int .i64 x.d.rule,x.vp,x.vl,sv x.d.con,.int .i64 x.d.num]:=hB1
 refine iFa (iLdB hB1 (i:=2) (v:=x.vl) rfl ?_)
 refine iFa (iLdB hB1 (i:=3) (v:=sv x.d.con) rfl ?_)
 intro w2 x2
 refine iCall ((k9 (A:=x.d.asm) (B:=[]) (Sl.ext hxl (x1.trans x2)) (Sl.nil _) (SlK.lfCell hxl) rfl (by simp only [List.length_nil];omega)).mono ?_)
 rintro v12 w3 ⟨x3,hl3⟩
 rw [List.append_nil] at hl3
 refine ⟨x3,fun w4 x4=>?_⟩
 have X4:=((x1.trans x2).trans x3).trans x4
 have x24:=(x2.trans x3).trans x4
 refine iFa (iLdB (hB1.ext x24) (i:=1) (v:=x.vp) rfl ?_)
 refine iNil (iFa (iLdB (hB.ext X4) (i:=1) (v:=vs) rfl ?_))
 intro w5 x5
 have hinm:∀ q ∈ x.d.prem,0 ≤ q ∧ q.toNat < at_.length:=fun q hq=>by
  obtain ⟨h1,h2⟩:=A3 hin hq
  omega
 refine iCall ((IY (SlI.ext hx (X4.trans x5)) (SlN.ext hat (X4.trans x5)) hinm (by omega)).mono ?_)
 rintro v21 w6 ⟨x6,hg6⟩
 intro w7 x7
 have hg7:Ow 0 t_i64 w7 v21 (ints (nats (x.d.prem.map fun q=>gt at_ q.toNat))):=(hg6.ext x7).mono (Nat.zero_le _)
 have hgl:(x.d.prem.map fun q=>gt at_ q.toNat).length = x.d.prem.length:=List.length_map _
 generalize hge:(x.d.prem.map fun q=>gt at_ q.toNat) = g at *
 have x47:=(x5.trans x6).trans x7
 have X7:=X4.trans x47
 have hl7:TxW 0 w7 v12 (setT x.d.asm):=((Ow.ext hl3 x4).ext x47).mono (Nat.zero_le _)
 have hSl:(setT x.d.asm).length ≤ 12:=Nat.le_trans (mD _) hL
 have hM7:=hM.ext X7
 have hB7:=hB.ext X7
 have hB17:=hB1.ext (x24.trans x47)
 generalize ha:(gt (R.map DV.d) (gt x.d.prem 0).toNat).con = a
 have fin:∀ {rule:Nat} {ps:List Nat} {v2:Value},Ow 0 t_i64 w7 v2 (ints (nats ps)) → ps.length ≤ 100 → makeD Q.length x.d g a = [⟨rule,ps,setT x.d.asm,x.d.con,[]⟩] → callV Tryz.prog (.func (.func cB) #[] #[]) [bp b,.int .i64 (rule:Int),v12,sv x.d.con,.string ⟨#[]⟩,v2] w7 (MadeQ l0 b vs Q (makeD Q.length x.d g a) w):=fun {rule ps v2} h1 h2 h3=>by
  refine iCall ((jT (main:=[]) hM7 hl7 h1 (by omega) (by omega) (by omega)).mono ?_)
  rintro _ w' ⟨rfl,hs,x',hx',hM'⟩
  refine ⟨(SCh.ext X7).trans hs,[x'],?_,hM',?_⟩
  ·rw [h3,List.map_singleton,hx']
  ·rw [h3];rfl
 have mk:∀ {P:Prop} [Decidable P] {A B:List Inf},P → (if P then A else B) = A:=fun h=>if_pos h
 have mn:∀ {P:Prop} [Decidable P] {A B:List Inf},¬ P → (if P then A else B) = B:=fun h=>if_neg h
 refine iFa (iLdB hB17 (i:=0) (v:=.int .i64 x.d.rule) rfl ?_)
 refine iEq (iCndP (fun h1=>?_) (fun h1=>?_))
 ·exact fin (rule:=1) (ps:=[]) (Ow.nil _ _ _) (by simp) (by unfold makeD;exact mk h1)
 refine iEq (iCndP (fun h3=>?_) (fun h3=>?_))
 ·exact fin (rule:=4) hg7 (by omega) (by unfold makeD;exact (mn h1).trans ((mn (by omega)).trans (mk h3)))
 refine iEq (iCndP (fun h6=>?_) (fun h6=>?_))
 ·exact fin (rule:=6) hg7 (by omega) (by unfold makeD;exact (mn h1).trans ((mn (by omega)).trans ((mn h3).trans ((mn (by omega)).trans (mk h6)))))
 refine iEq (iCndP (fun h7=>?_) (fun h7=>?_))
 ·exact fin (rule:=7) hg7 (by omega) (by unfold makeD;exact (mn h1).trans ((mn (by omega)).trans ((mn h3).trans ((mn (by omega)).trans ((mn h6).trans (mk h7))))))
 refine iEq (iCndP (fun h9=>?_) (fun h9=>?_))
 ·exact fin (rule:=9) hg7 (by omega) (by unfold makeD;exact (mn h1).trans ((mn (by omega)).trans ((mn h3).trans ((mn (by omega)).trans ((mn h6).trans ((mn h7).trans ((mn (by omega)).trans (mk h9))))))))
 have hprem:1 ≤ x.d.prem.length:=by
  cases hrf <;> first | (rename_i e _ _ _ _;exact absurd e h1) | (rename_i e _ _ _ _;rw [e];simp) | simp_all
 refine iEq (iCndP (fun h2=>?_) (fun h2=>?_))
 ·have hmk:makeD Q.length x.d g a = [⟨2,[],addT (setT x.d.asm) Fm.fls.body,x.d.con,[]⟩,⟨11,[gt g 0,Q.length],setT x.d.asm,x.d.con,Fm.fls.body⟩]:=by unfold makeD;exact (mn h1).trans (mk h2)
  refine ⟨fun c=>c = b ∨ w7.heap.size ≤ c ∨ TyS l0 w7 c,?_⟩
  have hg7s:Sl w7 v21 (ints (nats g)):=hg7.sl
  refine iIaW (j:=0) (x:=.int .i64 ((gt g 0:Nat):Int)) hg7s (by omega) (by rw [bA,eA];omega) ?_ fun p hp=>iLd (hp _ hg7s) ⟨fun w14 hc=>iLd (hp _ ?_) rfl,fun w15 x15=>?_⟩
  ·rw [gt_eq (show 0 < g.length by omega)]
   simp [ints,nats,show 0 < g.length by omega]
  ·refine (Ow.ch hg7 hc fun c hc' hS=>?_).sl
   rcases hS with rfl | hS | ⟨-,cs,hS⟩
   ·exact hg7.ne_blk hB7 (by decide) hc'
   ·have:=(hg7.blk c hc').2;omega
   ·exact hg7.ne_blk hS (by decide) hc'
  refine iBs1 rfl rfl fun c16 w16 _ x16 hB16=>⟨x16.ch,fun w17 x17=>?_⟩
  have X17:=(x15.trans x16).trans x17
  refine iCall ((k9 (A:=setT x.d.asm) (B:=[Fm.fls.body]) (hl7.ext X17).sl (Sl.ofBlk (n:=1) (hB16.ext x17) rfl (by decide)) hl7.cell rfl (by simp only [List.length_cons,List.length_nil];omega)).mono ?_)
  rintro v69 w18 ⟨x18,hv69⟩
  refine ⟨x18.ch,fun w19 x19=>?_⟩
  have X19:=(X17.trans x18).trans x19
  have hal:(setT (setT x.d.asm ++ [Fm.fls.body])).length ≤ 13:=by
   have:=mD (setT x.d.asm ++ [Fm.fls.body])
   rw [List.length_append,List.length_singleton] at this
   omega
  refine iCall ((jT (rule:=2) (ps:=[]) (main:=[]) (hM7.ext X19) ((Ow.ext hv69 x19).mono (Nat.zero_le _)) (Ow.nil _ _ _) (by omega) (by simp) (by omega)).mono ?_)
  rintro _ w20 ⟨rfl,hs20,y1,hy1,hM20⟩
  refine ⟨hs20.mono fun c hc=>?_,fun w21 x21=>?_⟩
  ·rcases hc with rfl | ⟨h0,cs,hc⟩
   ·exact .inl rfl
   ·by_cases hlt:c < w7.heap.size
    ·refine .inr (.inr ⟨h0,cs,?_⟩)
     unfold Blk at hc ⊢
     rw [← X19.block c hlt];exact hc
    ·exact .inr (.inl (by omega))
  refine iBs2 rfl rfl rfl fun c22 w22 _ x22 hB22=>?_
  intro w23 x23
  have x2023:=(x21.trans x22).trans x23
  have hl20:TxW 0 w20 v12 (setT x.d.asm):=Ow.sch (hl7.ext X19) hs20 (hB7.ext X19) (by decide) (by decide)
  refine iCall ((jT (rule:=11) (ps:=[gt g 0,Q.length]) (main:=Fm.fls.body) (hM20.ext x2023) (hl20.ext x2023) (Ow.ofBlk (n:=2) (hB22.ext x23) (Nat.zero_le _) rfl (by decide)) (by omega) (by simp) (by rw [List.length_append,List.length_singleton];omega)).mono ?_)
  rintro _ w24 ⟨rfl,hs24,y2,hy2,hM24⟩
  intro w25 x25
  refine ⟨(((((SCh.ext (X7.trans X19)).trans hs20).trans (SCh.ext x2023)).trans hs24).trans (SCh.ext x25)),[y1,y2],?_,?_,?_⟩
  ·rw [hmk,List.map_cons,List.map_singleton,hy1,hy2]
  ·have:=hM24.ext x25
   rw [List.append_assoc] at this;exact this
  ·rw [hmk,List.length_append];rfl
 -- the rules that take a formula apart
 refine iLdA hB17 rfl ?_
 refine iFa (iLdB hB17 (i:=1) (v:=x.vp) rfl ?_)
 refine iIaN (j:=0) (SlI.ext hx X7) hprem fun p hp=>iLd hp ?_
 have hq0:x.d.prem.getD 0 0 ∈ x.d.prem:=by
  rw [List.getD_eq_getElem?_getD,List.getElem?_eq_getElem hprem]
  exact List.getElem_mem hprem
 have ha0:a = (gt (R.map DV.d) (x.d.prem.getD 0 0).toNat).con:=by
  rw [← ha];rfl
 obtain ⟨hq1,hq2⟩:=hinm _ hq0
 generalize hqe:x.d.prem.getD 0 0 = q at *
 obtain ⟨m,rfl⟩:=Int.eq_ofNat_of_zero_le hq1
 rw [Int.toNat_natCast] at hq2 ha0
 have hmR:m < R.length:=by omega
 rw [gP hmR] at ha0
 refine iFld5 (hR.ext X7).row hmR (by decide) (iQ hmR 3 (by decide)) ?_
 intro w26 x26
 have elim:∀ {k:Nat} {p:Str × Str},((x.d.rule = 4 ∨ x.d.rule = 5) ∧ k = 2 ∧ 1 ≤ g.length) ∨ (x.d.rule = 8 ∧ k = 3 ∧ 3 ≤ g.length) ∨ (x.d.rule = 10 ∧ k = 4 ∧ 2 ≤ g.length) → parK a k = some p →
   callV Tryz.prog (.func (.func c7) #[] #[]) [bp b,.agg x.cs.toArray,v12,sv a,v21] w26 fun v86 w27=>∀ w28,Ext w27 w28 → MadeQ l0 b vs Q (makeD Q.length x.d g a) w v86 w28:=fun {k p} hr hp=>by
  have hpa:plT a = true:=by
   rw [ha0]
   exact hplt m hmR
  refine iCall ((xD (hM7.ext x26) hr hpa hp (hl7.ext x26) (hg7.ext x26) hL (by omega)).mono ?_)
  rintro u w27 ⟨hs,RQ,e1,e2,e3⟩
  intro w28 x28
  exact ⟨((SCh.ext (X7.trans x26)).trans hs).trans (SCh.ext x28),RQ,e1,e2.ext x28,e3⟩
 show callV Tryz.prog (.func (.func c7) #[] #[]) [bp b,.agg x.cs.toArray,v12,sv (gt R m).d.con,v21] w26 _
 rw [← ha0]
 have con:∀ {q:Int},gt x.d.prem 0 = q → (gt (R.map DV.d) q.toNat).con = a:=fun e=>by rw [← e];exact ha
 cases hrf with
 | r1 e=>exact absurd e h1
 | r2 _ e=>exact absurd e h2
 | r3 _ _ _ e=>exact absurd e h3
 | r6 _ _ e=>exact absurd e h6
 | r7 _ _ e=>exact absurd e h7
 | r9 _ _ e=>exact absurd e h9
 | r4 q p e ep _ hp=>exact elim (.inl ⟨.inl e,rfl,by omega⟩) (by rw [← con (q:=q) (by rw [ep];rfl)];exact hp)
 | r5 q p e ep _ hp=>exact elim (.inl ⟨.inr e,rfl,by omega⟩) (by rw [← con (q:=q) (by rw [ep];rfl)];exact hp)
 | r8 q q' q'' p e ep _ hp=>exact elim (.inr (.inl ⟨e,rfl,by rw [hgl,ep];simp⟩)) (by rw [← con (q:=q) (by rw [ep];rfl)];exact hp)
 | r10 q q' p e ep _ hp=>exact elim (.inr (.inr ⟨e,rfl,by rw [hgl,ep];simp⟩)) (by rw [← con (q:=q) (by rw [ep];rfl)];exact hp)
end Go.Proofs.YtkjoppimpmojfaaGreat

namespace Go.Vc
theorem SR {f y z:Fm} (h:f.kids = [y,z]):y.size ≤ f.size ∧ z.size ≤ f.size:=by
 cases f <;> simp only [Fm.kids,List.cons.injEq,reduceCtorEq,and_false,and_true] at h <;> (obtain ⟨rfl,rfl⟩:=h;simp only [Fm.size];omega)
end Go.Vc
namespace Go.Proofs.YtkjoppimpmojfaaGreat
open Go.Vc
theorem l9 (t:Str) (w:World):Cal Tryz.prog f9 #[sv t] w fun r w'=>Ext w w' ∧ ∃ v,r = .tuple #[v,.bool (plT t)] ∧ (plT t = true → FmW w.heap.size w' v (fT t)):=by
 apply uI;unfold nF
 refine iCall ((pW t w).mono ?_)
 rintro r w1 ⟨x1,v,rfl,hv⟩
 refine iE20 (iE21 ?_)
 have h0:goodT t = true → pCode t = 0:=fun h=>by
  unfold goodT at h
  rw [Bool.and_eq_true,decide_eq_true_eq] at h
  exact h.1
 refine iJnX (fun xs w'=>xs = [v,.bool (plT t)] ∧ Ext w1 w') (fun J hJ=>?_) ?_
 ·refine iCnd (fun h=>?_) (fun h=>?_)
  ·refine iRet (vO (hv (h0 h)).sl) fun w2 x2=>?_
   refine hJ _ _ ⟨?_,x2⟩
   unfold plT
   rw [h,Bool.true_and];rfl
  ·refine hJ _ _ ⟨?_,Ext.refl _⟩
   unfold plT
   rw [h,Bool.false_and]
 ·rintro _ w3 ⟨rfl,x3⟩
  intro _
  exact ⟨x1.trans x3,v,rfl,fun h=>OwK.ext (hv (dY h).2.2.2.2) x3⟩
theorem zM {v:Value} {L:List Str} {w:World} (hs:SlT w v L):Ret Tryz.prog BC #[v] w (.bool (decide (L.length ≤ 12) && L.all plT)):=by
 apply MN;unfold B6
 refine aM hs (iLt (iCndP (fun h=>?_) (fun h=>?_)))
 ·rw [decide_eq_false (show ¬ L.length ≤ 12 by omega),Bool.false_and]
  exact ⟨by first | trivial | rfl,Ext.refl _⟩
 rw [decide_eq_true (show L.length ≤ 12 by omega),Bool.true_and]
 refine iLp (fun i:Nat=>[.int .i64 (i:Int)]) (fun i w'=>i ≤ L.length ∧ Ext w w' ∧ (L.take i).all plT = true) (fun i=>L.length - i) 0 rfl ⟨Nat.zero_le _,Ext.refl _,rfl⟩ ?_
 rintro i w2 Kn ⟨hi,x2,hal⟩ hKn
 intro _
 simp only [gx]
 refine aM (Sl.ext hs x2) (iLt (iCndP (fun h=>?_) (fun h=>?_)))
 ·have hil:i < L.length:=by omega
  refine iIaT (Sl.ext hs x2) hil fun p hp=>iLd hp ?_
  refine iCall ((l9 L[i] w2).mono ?_)
  rintro r w3 ⟨x3,u,rfl,-⟩
  refine iE20 (iE21 (iNot (iCnd (fun h3=>?_) (fun h3=>?_))))
  ·refine ⟨?_,x2.trans x3⟩
   have:L.all plT = false:=List.all_eq_false.2 ⟨L[i],List.getElem_mem hil,by simpa using h3⟩
   rw [this]
  ·refine iAdd (by omega) ?_
   refine hKn (i + 1) _ ⟨by omega,x2.trans x3,?_⟩ (by show L.length - (i + 1) < L.length - i;omega)
   rw [List.take_succ_eq_append_getElem hil,List.all_append,hal]
   simpa using h3
 ·have:i = L.length:=by omega
  subst this
  rw [List.take_length] at hal
  exact ⟨by rw [hal],x2⟩
theorem iKind {w:World} {va:Value} {a:Fm} {K:Value → Prop} (ha:FmS w va a) (h:K (.int .i64 (a.kind:Int))):xIa 2 va (.int .i64 0) fun p=>xFa 0 p fun q=>xLd w q K:=
 iFld (f:=0) (j:=0) ha rfl a.size_pos (by decide) (fZ ha).1 h
def parV (t:Str) (k:Nat):Value:=match parK t k with
 | some p=>.tuple #[sv p.1,sv p.2,.bool true]
 | none=>.tuple #[.string ⟨#[]⟩,.string ⟨#[]⟩,.bool false]
theorem eZ {t:Str} (h:plT t = true) {k:Nat} (hk:k = 2 ∨ k = 3 ∨ k = 4) (w:World):Ret Tryz.prog lD #[sv t,.int .i64 (k:Int)] w (parV t k):=by
 obtain ⟨-,hg,-,-,hc⟩:=dY h
 apply zE;unfold p6
 refine iCall ((l9 t w).mono ?_)
 rintro r w1 ⟨x1,v,rfl,hv⟩
 have hv:=hv h
 rw [h]
 refine iE20 (iE21 ?_)
 refine iJnX (fun xs w'=>xs = [.bool (!decide ((fT t).kind = k))] ∧ w' = w1) (fun J hJ=>?_) ?_
 ·refine iNot (iCndF rfl ?_)
  refine iKind hv.sl (iNe (hJ _ _ ⟨?_,rfl⟩))
  congr 2
  rw [← decide_not]
  exact decide_eq_decide.2 (by omega)
 ·rintro _ w3 ⟨rfl,rfl⟩
  intro _
  show cnd (.bool (!decide ((fT t).kind = k))) _ _
  by_cases hkk:(fT t).kind = k
  ·rw [decide_eq_true hkk]
   refine iCndF rfl ?_
   obtain ⟨p,hp,hb⟩:=fL hk hkk
   obtain ⟨-,y,z,hkids,hpe⟩:=mA hp
   have hsz:=(bL hc).1
   have hs2:(fT t).size ≤ 1099511627776:=Nat.le_trans hsz (by decide)
   have hy:y.good ∧ z.good ∧ y.size ≤ (fT t).size ∧ z.size ≤ (fT t).size:=⟨cE hg y (by rw [hkids];simp),cE hg z (by rw [hkids];simp),SR hkids⟩
   refine iCall ((dK hv.sl hkids hs2).mono ?_)
   rintro u w4 ⟨x4,hu⟩
   refine iRet (bD hu hy.1 (by omega)) fun w5 x5=>?_
   refine iCall ((c8 (SlK.ext hv.sl (x4.trans x5)) hkids hs2).mono ?_)
   rintro u2 w6 ⟨x6,hu2⟩
   refine iRet (bD hu2 hy.2.1 (by omega)) fun w7 x7=>?_
   refine ⟨?_,(((x1.trans x4).trans x5).trans x6).trans x7⟩
   unfold parV
   rw [hp,hpe]
  ·rw [decide_eq_false hkk]
   refine iCndT rfl ⟨?_,x1⟩
   unfold parV
   rw [oQ hk hkk]
theorem JM (r:Int) (w:World):Ret Tryz.prog pX #[.int .i64 r] w (.int .i64 (cV r)):=by
 have key:Cal Tryz.prog pX #[.int .i64 r] w fun u w'=>u = .int .i64 (cV r) ∧ w' = w:=by
  apply LR;unfold zS
  unfold cV
  refine iEq (iCndP (fun h1=>?_) (fun h1=>?_))
  ·rw [if_pos h1];exact ⟨rfl,rfl⟩
  rw [if_neg h1]
  refine iEq ?_
  have orJ:∀ {a b:Prop} [Decidable a] [Decidable b],¬ a → Value.bool (decide (a ∨ b)) = .bool (decide b):=fun h=>by
   congr 1;exact decide_eq_decide.2 ⟨fun e=>e.resolve_left h,.inr⟩
  refine iJnX (fun xs w'=>xs = [.bool (decide (r = 2 ∨ r = 4 ∨ r = 5 ∨ r = 6 ∨ r = 7 ∨ r = 9))] ∧ w' = w) (fun J1 hJ1=>?_) ?_
  ·refine iCndP (fun h=>hJ1 _ _ ⟨by rw [decide_eq_true (.inl h)],rfl⟩) (fun h2=>iEq ?_)
   refine iJnX (fun xs w'=>xs = [.bool (decide (r = 4 ∨ r = 5 ∨ r = 6 ∨ r = 7 ∨ r = 9))] ∧ w' = w) (fun J3 hJ3=>?_) (fun xs w' ⟨e,e2⟩=>fun _=>hJ1 _ _ ⟨by rw [orJ h2];rw [e];rfl,e2⟩)
   refine iCndP (fun h=>hJ3 _ _ ⟨by rw [decide_eq_true (.inl h)],rfl⟩) (fun h4=>iEq ?_)
   refine iJnX (fun xs w'=>xs = [.bool (decide (r = 5 ∨ r = 6 ∨ r = 7 ∨ r = 9))] ∧ w' = w) (fun J5 hJ5=>?_) (fun xs w' ⟨e,e2⟩=>fun _=>hJ3 _ _ ⟨by rw [orJ h4];rw [e];rfl,e2⟩)
   refine iCndP (fun h=>hJ5 _ _ ⟨by rw [decide_eq_true (.inl h)],rfl⟩) (fun h5=>iEq ?_)
   refine iJnX (fun xs w'=>xs = [.bool (decide (r = 6 ∨ r = 7 ∨ r = 9))] ∧ w' = w) (fun J7 hJ7=>?_) (fun xs w' ⟨e,e2⟩=>fun _=>hJ5 _ _ ⟨by rw [orJ h5];rw [e];rfl,e2⟩)
   refine iCndP (fun h=>hJ7 _ _ ⟨by rw [decide_eq_true (.inl h)],rfl⟩) (fun h6=>iEq ?_)
   refine iJnX (fun xs w'=>xs = [.bool (decide (r = 7 ∨ r = 9))] ∧ w' = w) (fun J9 hJ9=>?_) (fun xs w' ⟨e,e2⟩=>fun _=>hJ7 _ _ ⟨by rw [orJ h6];rw [e];rfl,e2⟩)
   exact iCndP (fun h=>hJ9 _ _ ⟨by rw [decide_eq_true (.inl h)],rfl⟩) (fun h7=>iEq (hJ9 _ _ ⟨by rw [orJ h7],rfl⟩))
  rintro _ w2 ⟨rfl,rfl⟩
  intro _
  refine iCndP (fun h=>⟨by rw [if_pos h],rfl⟩) (fun h2=>?_)
  rw [if_neg h2]
  refine iEq ?_
  refine iJnX (fun xs w'=>xs = [.bool (decide (r = 3 ∨ r = 10))] ∧ w' = w2) (fun J1 hJ1=>?_) ?_
  ·exact iCndP (fun h=>hJ1 _ _ ⟨by rw [decide_eq_true (.inl h)],rfl⟩) (fun h3=>iEq (hJ1 _ _ ⟨by rw [orJ h3],rfl⟩))
  rintro _ w3 ⟨rfl,rfl⟩
  intro _
  refine iCndP (fun h=>⟨by rw [if_pos h],rfl⟩) (fun h3=>?_)
  rw [if_neg h3]
  exact iEq (iCndP (fun h=>⟨by rw [if_pos h],rfl⟩) (fun h8=>⟨by rw [if_neg h8],rfl⟩))
 exact key.mono fun u w' ⟨h,e⟩=>⟨h,by rw [e];exact Ext.refl _⟩
theorem JB {v v':Value} {A B:List Str} {w:World} (h:SlT w v A) (h':SlT w v' B):Ret Tryz.prog xK #[v,v'] w (.bool (decide (A = B))):=by
 apply LG;unfold zB
 refine aM h (aM h' (iNe (iCndP (fun hn=>?_) (fun hn=>?_))))
 ·refine ⟨?_,Ext.refl _⟩
  rw [decide_eq_false (fun e=>hn (by rw [e]))]
 have hl:A.length = B.length:=by omega
 have hln:=Sl.len h
 rw [aI] at hln
 refine iLp (fun i:Nat=>[.int .i64 (i:Int)]) (fun i w'=>i ≤ A.length ∧ Ext w w' ∧ A.take i = B.take i) (fun i=>A.length - i) 0 rfl ⟨Nat.zero_le _,Ext.refl _,rfl⟩ ?_
 rintro i w2 Kn ⟨hi,x2,he⟩ hKn
 intro _
 simp only [gx]
 refine aM (Sl.ext h x2) (iLt (iCndP (fun hc=>?_) (fun hc=>?_)))
 ·have hil:i < A.length:=by omega
  refine iIaT (Sl.ext h x2) hil fun p hp=>iLd hp ?_
  refine iIaT (Sl.ext h' x2) (show i < B.length by omega) fun p hp=>iLd hp ?_
  refine iNeT ?_
  intro w3 x3
  refine iCndP (fun hne=>?_) (fun hne=>?_)
  ·refine ⟨?_,x2.trans x3⟩
   rw [decide_eq_false (fun e=>hne (by subst e;rfl))]
  ·refine iAdd (by omega) ?_
   refine hKn (i + 1) _ ⟨by omega,x2.trans x3,?_⟩ (by show A.length - (i + 1) < A.length - i;omega)
   rw [List.take_succ_eq_append_getElem hil,List.take_succ_eq_append_getElem (show i < B.length by omega),he,Classical.not_not.1 hne]
 ·have e:i = A.length:=by omega
  subst e
  rw [List.take_length,hl,List.take_length] at he
  exact ⟨by rw [decide_eq_true he],x2⟩
theorem xV {v v':Value} {A B:List Str} {w:World} (h:SlT w v A) (h':SlT w v' B):Ret Tryz.prog mK #[v,v'] w (.bool (decide (A = B))):=by
 apply NA;unfold B2
 exact iRet (JB h h') fun w1 x1=>⟨rfl,x1⟩
theorem i9 {v:Value} {L:List Str} {w:World} (h:SlT w v L) (hL:L.length ≤ 1000000):Cal Tryz.prog CH #[v] w fun r w'=>Ext w w' ∧ Ow w.heap.size aB w' r (strs L):=by
 apply N5;unfold B3
 refine iBs0 fun u w1 hw1 x1 ho=>?_
 refine iApp bS b6 rfl ho (Sl.ext h x1) (fun y hy=>by
  obtain ⟨z,_,rfl⟩:=List.mem_map.1 hy
  rfl) (by simp only [List.length_nil,aI];omega) (by simp only [List.length_nil,aI];omega) (by omega) fun u' w2 ho2 hg=>?_
 exact ⟨x1.grown hg fun b hb=>(ho.blk b hb).1,by simpa using ho2⟩
theorem fU {v v':Value} {A B:List Str} {w:World} (h:SlT w v A) (h':SlT w v' B) (hA:A.length ≤ 1000000) (hB:B.length ≤ 1000000):Cal Tryz.prog gO #[v,v'] w fun r w'=>Ext w w' ∧ Ow w.heap.size aB w' r (strs (A ++ B)):=by
 apply MR;unfold B7
 refine iCall ((i9 h hA).mono ?_)
 rintro u w1 ⟨x1,hu⟩
 refine iApp bS b6 rfl hu (Sl.ext h' x1) (fun y hy=>by
  obtain ⟨z,_,rfl⟩:=List.mem_map.1 hy
  rfl) (by rw [aI,aI];omega) (by rw [aI,aI];omega) x1.size fun u' w2 ho2 hg=>?_
 refine ⟨x1.grown hg fun b hb=>(hu.blk b hb).1,?_⟩
 rw [show strs (A ++ B) = strs A ++ strs B by simp [strs]];exact ho2
end Go.Proofs.YtkjoppimpmojfaaGreat

namespace Go.Vc
theorem iAndJ {a:Prop} [Decidable a] {B:Bool} {J:List Value → World → Prop} {w:World} {A F:Prop} (hJ:∀ w',Ext w w' → J [.bool (decide a && B)] w') (hA:(∀ w',Ext w w' → J [.bool B] w') → A) (hF:(∀ w',Ext w w' → J [.bool false] w') → F):cnd (.bool (decide a)) A F:=by
 refine iCndP (fun h=>hA ?_) (fun h=>hF ?_)
 ·rw [decide_eq_true h,Bool.true_and] at hJ;exact hJ
 ·rw [decide_eq_false h,Bool.false_and] at hJ;exact hJ
theorem iJnR {T:Bool} {w w9:World} {F:(List Value → World → Prop) → Prop} (X:Ext w w9) (h:∀ J:List Value → World → Prop,(∀ w',Ext w9 w' → J [.bool T] w') → F J):
  jn F (fun xs w'=>∀ _:Nat → Value,gx xs 0 = .bool T ∧ Ext w w'):=by
 refine iJnX (fun xs w'=>xs = [.bool T] ∧ Ext w9 w') (fun J hJ=>h J fun w' x'=>hJ _ _ ⟨rfl,x'⟩) ?_
 rintro _ w' ⟨rfl,x'⟩ _
 exact ⟨rfl,X.trans x'⟩
end Go.Vc
namespace Go.Proofs.YtkjoppimpmojfaaGreat
open Go.Vc
theorem sC {t:Str} (h:plT t = true) {k:Nat} (hk:k = 2 ∨ k = 3 ∨ k = 4) {w:World} {K:Value → Value → Value → World → Prop} (hn:parK t k = none → ∀ w',Ext w w' → K (.string ⟨#[]⟩) (.string ⟨#[]⟩) (.bool false) w') (hs:∀ p,parK t k = some p → ∀ w',Ext w w' → K (sv p.1) (sv p.2) (.bool true) w'):
  callV Tryz.prog (.func (.func lD) #[] #[]) [sv t,.int .i64 (k:Int)] w fun v w'=>xEx v 0 fun a=>xEx v 1 fun b=>xEx v 2 fun c=>K a b c w':=by
 refine iRet (eZ h hk w) fun w' x'=>?_
 unfold parV
 cases e:parK t k with
 | none=>exact iE30 (iE31 (iE32 (hn e _ x')))
 | some p=>exact iE30 (iE31 (iE32 (hs p e _ x')))
theorem KH {x:DV} {w:World} {v1:Value} {G:List DV} (hxl:SlT w x.vl x.d.asm) (hG:RdD w v1 G) (hc:plT x.d.con = true) (hp:∀ y ∈ G,plT y.d.con = true) (hn:cV x.d.rule = (G.length:Int)) (hl:x.d.asm.length ≤ 12):
  Ret Tryz.prog A4 #[.agg x.cs.toArray,v1] w (.bool (ruleS x.d (G.map fun y=>jdg y.d))):=by
 have hgt:∀ j,j < G.length → gt (G.map fun y=>jdg y.d) j = ((gt G j).d.asm,(gt G j).d.con):=fun j hj=>by
  rw [gt_eq (by rw [List.length_map];exact hj),gt_eq hj,List.getElem_map];rfl
 have hpl:∀ j,j < G.length → plT (gt G j).d.con = true:=fun j hj=>hp _ (by rw [gt_eq hj];exact List.getElem_mem hj)
 have hasm:∀ {w':World} {j:Nat},Ext w w' → j < G.length → SlT w' (gt G j).vl (gt G j).d.asm:=fun X hj=>Sl.ext (hG.asm _ (by rw [gt_eq hj];exact List.getElem_mem hj)) X
 generalize hGs:(G.map fun y=>jdg y.d) = Gs at *
 have am:∀ {w':World} {j:Nat} {K:Value → Prop},Ext w w' → j < G.length → K (gt G j).vl → xIa 5 v1 (.int .i64 (j:Int)) fun p=>xFa 2 p fun q=>xLd w' q K:=fun X hj h=>
  iFld5 (hG.ext X).row hj (by decide) (iQ hj 2 (by decide)) h
 have cn:∀ {w':World} {j:Nat} {K:Value → Prop},Ext w w' → j < G.length → K (sv (gt G j).d.con) → xIa 5 v1 (.int .i64 (j:Int)) fun p=>xFa 3 p fun q=>xLd w' q K:=fun X hj h=>
  iFld5 (hG.ext X).row hj (by decide) (iQ hj 3 (by decide)) h
 apply N6;unfold BD
 refine iNew5 fun q1 w1 hq1 x1 hB1=>?_
 have hB1:Blk aC w1 q1 [.int .i64 x.d.rule,x.vp,x.vl,sv x.d.con,.int .i64 x.d.num]:=hB1
 have f0:∀ {w':World} {K:Value → Prop},Ext w1 w' → K (.int .i64 x.d.rule) → xFa 0 (.pointer (some ⟨q1,0,none⟩)) fun q=>xLd w' q K:=fun X h=>iFa (iLdB (hB1.ext X) (i:=0) rfl h)
 have f2:∀ {w':World} {K:Value → Prop},Ext w1 w' → K x.vl → xFa 2 (.pointer (some ⟨q1,0,none⟩)) fun q=>xLd w' q K:=fun X h=>iFa (iLdB (hB1.ext X) (i:=2) rfl h)
 have same:∀ {w':World} {j:Nat} {K:Value → Prop},Ext w1 w' → j < G.length → K (.bool (decide ((gt G j).d.asm = x.d.asm))) → callQ Tryz.prog (.func (.func mK) #[] #[]) [(gt G j).vl,x.vl] w' K:=fun X hj h=>
  iRetQ (fun w'' x''=>xV (hasm (x1.trans (X.trans x'')) hj) (Sl.ext hxl (x1.trans (X.trans x'')))) h
 refine iFa (iLdB hB1 (i:=3) (v:=sv x.d.con) rfl ?_)
 refine f0 (Ext.refl _) (iEq (iCndP (fun h1=>?_) (fun h1=>?_)))
 ·have hT:ruleS x.d Gs = (decide (0 ≤ x.d.num ∧ x.d.num ≤ (x.d.asm.length:Int) - 1) && decide (gt x.d.asm x.d.num.toNat = x.d.con)):=by unfold ruleS;rw [if_pos h1]
  rw [hT]
  refine iJnR x1 fun J hJ=>?_
  refine iFa (iLdB hB1 (i:=4) (v:=.int .i64 x.d.num) rfl ?_)
  refine f2 (Ext.refl _) (aM (Sl.ext hxl x1) (iSub (by omega) ?_))
  refine iRet (kX _ _ _ w1) fun w4 x4=>?_
  refine iCndP (fun hr=>?_) (fun hr=>?_)
  ·rw [decide_eq_true hr,Bool.true_and] at hJ
   refine f2 x4 (iFa (iLdB (hB1.ext x4) (i:=4) (v:=.int .i64 x.d.num) rfl ?_))
   obtain ⟨m,hm⟩:=Int.eq_ofNat_of_zero_le hr.1
   rw [hm,Int.toNat_natCast] at hJ
   exact iIaG (Sl.ext hxl (x1.trans x4)) hm (by omega) (iEqT (hJ _ x4))
  ·rw [decide_eq_false hr,Bool.false_and] at hJ
   exact hJ _ x4
 refine iEq (iCndP (fun h2=>?_) (fun h2=>?_))
 ·have hl1:G.length = 1:=by unfold cV at hn;rw [if_neg h1,if_pos (.inl h2)] at hn;omega
  have h0:0 < G.length:=by omega
  have hT:ruleS x.d Gs = (decide ((gt G 0).d.asm = x.d.asm) && decide ((gt G 0).d.con = Fm.fls.body)):=by unfold ruleS;rw [if_neg h1,if_pos h2,hgt 0 h0]
  rw [hT]
  refine iJnR x1 fun J hJ=>?_
  refine am (j:=0) x1 h0 (f2 (Ext.refl _) (same (Ext.refl _) h0 ?_))
  refine iAndJ hJ (fun hJ2=>cn (j:=0) x1 h0 ?_) (fun hF=>hF)
  exact iEqT (b:=Fm.fls.body) hJ2
 refine iEq (iCndP (fun h3=>?_) (fun h3=>?_))
 ·have hl1:G.length = 2:=by unfold cV at hn;rw [if_neg h1,if_neg (by omega),if_pos (.inl h3)] at hn;omega
  have h0:0 < G.length:=by omega
  have h1':1 < G.length:=by omega
  have hT:ruleS x.d Gs = (match parK x.d.con 2 with | some p=>decide ((gt G 0).d.asm = x.d.asm) && (decide ((gt G 1).d.asm = x.d.asm) && (decide ((gt G 0).d.con = p.1) && decide ((gt G 1).d.con = p.2))) | none=>false):=by unfold ruleS;rw [if_neg h1,if_neg h2,if_pos h3,hgt 0 h0,hgt 1 h1'];rfl
  rw [hT]
  refine sC hc (k:=2) (.inl rfl) (fun e w9 x9=>?_) (fun p e w9 x9=>?_)
  ·rw [e]
   exact iJnR (x1.trans x9) fun J hJ=>iCndF rfl hJ
  rw [e]
  have X9:=x1.trans x9
  refine iJnR X9 fun J hJ=>iCndT rfl ?_
  refine am (j:=0) X9 h0 (f2 x9 (same x9 h0 ?_))
  refine iAndJ hJ (fun hJ=>am (j:=1) X9 h1' (f2 x9 (same x9 h1' ?_))) (fun hF=>hF)
  refine iAndJ hJ (fun hJ=>cn (j:=0) X9 h0 (iEqT ?_)) (fun hF=>hF)
  exact iAndJ hJ (fun hJ=>cn (j:=1) X9 h1' (iEqT hJ)) (fun hF=>hF)
 have same2:∀ {w':World} {j:Nat} {v':Value} {A:List Str} {K:Value → Prop},Ext w w' → j < G.length → SlT w' v' A → K (.bool (decide ((gt G j).d.asm = A))) → callQ Tryz.prog (.func (.func mK) #[] #[]) [(gt G j).vl,v'] w' K:=fun X hj hA h=>
  iRetQ (fun w'' x''=>xV (hasm (X.trans x'') hj) (Sl.ext hA x'')) h
 have wth:∀ {w':World} {t:Str} {c:Nat} {K:Value → World → Prop},Ext w w' → Blk aB w' c [sv t] → (∀ u w'',Ext w' w'' → SlT w'' u (x.d.asm ++ [t]) → K u w'') → callV Tryz.prog (.func (.func gO) #[] #[]) [x.vl,.slice (some ⟨c,0,none⟩) 1 1] w' K:=fun X hB h=>by
  refine iCall ((fU (B:=[_]) (Sl.ext hxl X) (Sl.ofBlk (n:=1) hB rfl (by decide)) (by omega) (by simp)).mono ?_)
  rintro u w'' ⟨x'',hu⟩
  exact h u w'' x'' hu.sl
 refine iEq ?_
 refine iJnX (fun xs w'=>xs = [.bool (decide (x.d.rule = 4 ∨ x.d.rule = 5))] ∧ w' = w1) (fun J hJ=>?_) ?_
 ·refine iCndP (fun h4=>?_) (fun h4=>?_)
  ·rw [decide_eq_true (.inl h4)] at hJ
   exact hJ _ _ ⟨rfl,rfl⟩
  ·refine iEq (hJ _ _ ⟨?_,rfl⟩)
   rw [show decide (x.d.rule = 4 ∨ x.d.rule = 5) = decide (x.d.rule = 5) from decide_eq_decide.2 ⟨fun e=>e.resolve_left h4,.inr⟩]
 rintro _ w18 ⟨rfl,rfl⟩
 intro _
 show cnd (.bool (decide (x.d.rule = 4 ∨ x.d.rule = 5))) _ _
 refine iCndP (fun h45=>?_) (fun h45=>?_)
 ·have hl1:G.length = 1:=by unfold cV at hn;rw [if_neg h1,if_pos (by omega)] at hn;omega
  have h0:0 < G.length:=by omega
  have hT:ruleS x.d Gs = (match parK (gt G 0).d.con 2 with | some p=>decide ((gt G 0).d.asm = x.d.asm) && decide (x.d.con = if x.d.rule = 4 then p.1 else p.2) | none=>false):=by
   unfold ruleS
   rcases h45 with h | h
   ·simp only [if_pos h];rw [if_neg h1,if_neg h2,if_neg h3,hgt 0 h0];rfl
   ·simp only [if_neg (show ¬ x.d.rule = 4 by omega)];rw [if_neg h1,if_neg h2,if_neg h3,if_pos h,hgt 0 h0];rfl
  rw [hT]
  refine cn (j:=0) x1 h0 (sC (hpl 0 h0) (k:=2) (.inl rfl) (fun e w9 x9=>?_) (fun p e w9 x9=>?_))
  ·rw [e]
   exact iJnR (x1.trans x9) fun J hJ=>iCndF rfl hJ
  rw [e]
  have X9:=x1.trans x9
  refine iJnR X9 fun J hJ=>iCndT rfl ?_
  refine am (j:=0) X9 h0 (f2 x9 (same x9 h0 ?_))
  refine iAndJ hJ (fun hJ=>f0 x9 (iEq (iCndP (fun h4=>?_) (fun h4=>?_)))) (fun hF=>hF)
  ·rw [if_pos h4] at hJ
   refine iEqT (iCndP (fun ha=>?_) (fun ha=>?_))
   ·rw [decide_eq_true ha] at hJ;exact hJ
   ·rw [decide_eq_false ha] at hJ
    exact f0 x9 (iEq (iCndP (fun h5=>absurd h4 (by omega)) (fun _=>hJ)))
  ·rw [if_neg h4] at hJ
   exact f0 x9 (iEq (iCndP (fun h5=>iEqT hJ) (fun h5=>absurd h45 (by omega))))
 refine iEq ?_
 refine iJnX (fun xs w'=>xs = [.bool (decide (x.d.rule = 6 ∨ x.d.rule = 7))] ∧ w' = w18) (fun J hJ=>?_) ?_
 ·refine iCndP (fun h4=>?_) (fun h4=>?_)
  ·rw [decide_eq_true (.inl h4)] at hJ
   exact hJ _ _ ⟨rfl,rfl⟩
  ·refine iEq (hJ _ _ ⟨?_,rfl⟩)
   rw [show decide (x.d.rule = 6 ∨ x.d.rule = 7) = decide (x.d.rule = 7) from decide_eq_decide.2 ⟨fun e=>e.resolve_left h4,.inr⟩]
 rintro _ w30 ⟨rfl,rfl⟩
 intro _
 show cnd (.bool (decide (x.d.rule = 6 ∨ x.d.rule = 7))) _ _
 refine iCndP (fun h67=>?_) (fun h67=>?_)
 ·have hl1:G.length = 1:=by unfold cV at hn;rw [if_neg h1,if_pos (by omega)] at hn;omega
  have h0:0 < G.length:=by omega
  have hT:ruleS x.d Gs = (match parK x.d.con 3 with | some p=>decide ((gt G 0).d.asm = x.d.asm) && decide ((gt G 0).d.con = if x.d.rule = 6 then p.1 else p.2) | none=>false):=by
   unfold ruleS
   rcases h67 with h | h
   ·simp only [if_pos h];rw [if_neg h1,if_neg h2,if_neg h3,if_neg (by omega),if_neg (by omega),hgt 0 h0];rfl
   ·simp only [if_neg (show ¬ x.d.rule = 6 by omega)];rw [if_neg h1,if_neg h2,if_neg h3,if_neg (by omega),if_neg (by omega),if_pos h,hgt 0 h0];rfl
  rw [hT]
  refine sC hc (k:=3) (.inr (.inl rfl)) (fun e w9 x9=>?_) (fun p e w9 x9=>?_)
  ·rw [e]
   exact iJnR (x1.trans x9) fun J hJ=>iCndF rfl hJ
  rw [e]
  have X9:=x1.trans x9
  refine iJnR X9 fun J hJ=>iCndT rfl ?_
  refine am (j:=0) X9 h0 (f2 x9 (same x9 h0 ?_))
  refine iAndJ hJ (fun hJ=>f0 x9 (iEq (iCndP (fun h4=>?_) (fun h4=>?_)))) (fun hF=>hF)
  ·rw [if_pos h4] at hJ
   refine cn (j:=0) X9 h0 (iEqT (iCndP (fun ha=>?_) (fun ha=>?_)))
   ·rw [decide_eq_true ha] at hJ;exact hJ
   ·rw [decide_eq_false ha] at hJ
    exact f0 x9 (iEq (iCndP (fun h5=>absurd h4 (by omega)) (fun _=>hJ)))
  ·rw [if_neg h4] at hJ
   exact f0 x9 (iEq (iCndP (fun h5=>cn (j:=0) X9 h0 (iEqT hJ)) (fun h5=>absurd h67 (by omega))))
 refine iEq (iCndP (fun h8=>?_) (fun h8=>?_))
 ·have hl1:G.length = 3:=by unfold cV at hn;rw [if_neg h1,if_neg (by omega),if_neg (by omega),if_pos h8] at hn;omega
  have h0:0 < G.length:=by omega
  have h1':1 < G.length:=by omega
  have h2':2 < G.length:=by omega
  have hT:ruleS x.d Gs = (match parK (gt G 0).d.con 3 with | some p=>decide ((gt G 0).d.asm = x.d.asm) && (decide ((gt G 1).d.asm = x.d.asm ++ [p.1]) && (decide ((gt G 2).d.asm = x.d.asm ++ [p.2]) && (decide ((gt G 1).d.con = x.d.con) && decide ((gt G 2).d.con = x.d.con)))) | none=>false):=by
   unfold ruleS
   rw [if_neg h1,if_neg h2,if_neg h3,if_neg (by omega),if_neg (by omega),if_neg (by omega),if_neg (by omega),if_pos h8,hgt 0 h0,hgt 1 h1',hgt 2 h2']
   rfl
  rw [hT]
  refine cn (j:=0) x1 h0 (sC (hpl 0 h0) (k:=3) (.inr (.inl rfl)) (fun e w9 x9=>?_) (fun p e w9 x9=>?_))
  ·rw [e]
   exact iJnR (x1.trans x9) fun J hJ=>iCndF rfl fun _ a _ b _ c _ d _ e=>hJ _ ((((a.trans b).trans c).trans d).trans e)
  rw [e]
  have X9:=x1.trans x9
  refine iJnR X9 fun J hJ=>iCndT rfl ?_
  refine am (j:=0) X9 h0 (f2 x9 (same x9 h0 ?_))
  refine iAndJ hJ (fun hJ=>am (j:=1) X9 h1' (f2 x9 ?_)) (fun hF=>fun _ a _ b _ c _ d _ e=>hF _ ((((a.trans b).trans c).trans d).trans e))
  intro w44 x44
  refine iBs1 rfl rfl fun c w45 _ x45 hB45=>⟨x45,fun w46 x46=>?_⟩
  have X46:=(x44.trans x45).trans x46
  refine wth (X9.trans X46) (hB45.ext x46) fun u w47 x47 hu=>⟨x47,?_⟩
  have X47:=X46.trans x47
  refine same2 (X9.trans X47) h1' hu ?_
  refine iAndJ (w:=w47) (fun w' x'=>hJ w' (X47.trans x')) (fun hJ=>am (j:=2) (X9.trans X47) h2' (f2 (x9.trans X47) ?_)) (fun hF=>fun _ a _ b _ c=>hF _ ((a.trans b).trans c))
  intro w48 x48
  refine iBs1 rfl rfl fun c w49 _ x49 hB49=>⟨x49,fun w50 x50=>?_⟩
  have X50:=(x48.trans x49).trans x50
  have X950:=(X9.trans X47).trans X50
  refine wth X950 (hB49.ext x50) fun u w51 x51 hu=>⟨x51,?_⟩
  have X51:=X50.trans x51
  have X951:=X950.trans x51
  refine same2 X951 h2' hu ?_
  refine iAndJ (w:=w51) (fun w' x'=>hJ w' (X51.trans x')) (fun hJ=>cn (j:=1) X951 h1' (iEqT ?_)) (fun hF=>hF)
  exact iAndJ hJ (fun hJ=>cn (j:=2) X951 h2' (iEqT hJ)) (fun hF=>hF)
 refine iEq (iCndP (fun h9=>?_) (fun h9=>?_))
 ·have hl1:G.length = 1:=by unfold cV at hn;rw [if_neg h1,if_pos (by omega)] at hn;omega
  have h0:0 < G.length:=by omega
  have hT:ruleS x.d Gs = (match parK x.d.con 4 with | some p=>decide ((gt G 0).d.asm = x.d.asm ++ [p.1]) && decide ((gt G 0).d.con = p.2) | none=>false):=by
   unfold ruleS
   rw [if_neg h1,if_neg h2,if_neg h3,if_neg (by omega),if_neg (by omega),if_neg (by omega),if_neg (by omega),if_neg h8,if_pos h9,hgt 0 h0]
   rfl
  rw [hT]
  refine sC hc (k:=4) (.inr (.inr rfl)) (fun e w9 x9=>?_) (fun p e w9 x9=>?_)
  ·rw [e]
   exact iJnR (x1.trans x9) fun J hJ=>iCndF rfl fun _ a _ b _ c=>hJ _ ((a.trans b).trans c)
  rw [e]
  have X9:=x1.trans x9
  refine iJnR X9 fun J hJ=>iCndT rfl ?_
  refine am (j:=0) X9 h0 (f2 x9 ?_)
  intro w44 x44
  refine iBs1 rfl rfl fun c w45 _ x45 hB45=>⟨x45,fun w46 x46=>?_⟩
  have X46:=(x44.trans x45).trans x46
  refine wth (X9.trans X46) (hB45.ext x46) fun u w47 x47 hu=>⟨x47,?_⟩
  have X47:=X46.trans x47
  refine same2 (X9.trans X47) h0 hu ?_
  exact iAndJ (w:=w47) (fun w' x'=>hJ w' (X47.trans x')) (fun hJ=>cn (j:=0) (X9.trans X47) h0 (iEqT hJ)) (fun hF=>hF)
 have h10:x.d.rule = 10:=by
  unfold cV at hn
  rw [if_neg h1,if_neg (by omega)] at hn
  by_cases h:x.d.rule = 10
  ·exact h
  ·rw [if_neg (by omega),if_neg h8] at hn;omega
 have hl1:G.length = 2:=by unfold cV at hn;rw [if_neg h1,if_neg (by omega),if_pos (.inr h10)] at hn;omega
 have h0:0 < G.length:=by omega
 have h1':1 < G.length:=by omega
 have hT:ruleS x.d Gs = (match parK (gt G 0).d.con 4 with | some p=>decide ((gt G 0).d.asm = x.d.asm) && (decide ((gt G 1).d.asm = x.d.asm) && (decide ((gt G 1).d.con = p.1) && decide (x.d.con = p.2))) | none=>false):=by
  unfold ruleS
  rw [if_neg h1,if_neg h2,if_neg h3,if_neg (by omega),if_neg (by omega),if_neg (by omega),if_neg (by omega),if_neg h8,if_neg h9,hgt 0 h0,hgt 1 h1']
  rfl
 rw [hT]
 refine cn (j:=0) x1 h0 (sC (hpl 0 h0) (k:=4) (.inr (.inr rfl)) (fun e w9 x9=>?_) (fun p e w9 x9=>?_))
 ·rw [e]
  exact iJnR (x1.trans x9) fun J hJ=>iCndF rfl hJ
 rw [e]
 have X9:=x1.trans x9
 refine iJnR X9 fun J hJ=>iCndT rfl ?_
 refine am (j:=0) X9 h0 (f2 x9 (same x9 h0 ?_))
 refine iAndJ hJ (fun hJ=>am (j:=1) X9 h1' (f2 x9 (same x9 h1' ?_))) (fun hF=>hF)
 refine iAndJ hJ (fun hJ=>cn (j:=1) X9 h1' (iEqT ?_)) (fun hF=>hF)
 exact iAndJ hJ (fun hJ=>iEqT hJ) (fun hF=>hF)
end Go.Proofs.YtkjoppimpmojfaaGreat

namespace Go.Vc
theorem iBs05 {w:World} {e:TypeId} {z0 z1 z2 z3 z4:Value} {K:Value → World → Prop} (h:∀ v w',Ext w w' → OwK 5 w.heap.size e w' v 0 [] → K v w'):xBs e (Value.cells (.agg #[z0,z1,z2,z3,z4])) 5 0 [] w K:=by
 refine ⟨#[],?_,h _ _ (Ext.alloc w _) (OwK.ofBlk (k:=5) (n:=0) (Blk.new w #[] e) (Nat.le_refl _) rfl (by omega))⟩
 simp [Instr.fill]
def preD (s:Ded):Bool:=plT s.con && ((decide (s.asm.length ≤ 12) && s.asm.all plT) && (decide (cV s.rule = (s.prem.length:Int)) && (decide (s.rule = 1) || decide (s.num = 0))))
theorem T7 (P:List Ded) (k:Nat):goodD P k = (preD (gt P k) && (inD k (gt P k) && ruleS (gt P k) (sU P (gt P k)))):=by
 unfold goodD preD nY
 have hl:(sU P (gt P k)).length = (gt P k).prem.length:=List.length_map _
 by_cases hc:cV (gt P k).rule = ((gt P k).prem.length:Int)
 ·rw [decide_eq_true hc,U8 (by rw [hl];exact hc),Bool.true_and]
  cases plT (gt P k).con <;> cases decide ((gt P k).asm.length ≤ 12) <;> cases (gt P k).asm.all plT <;> rfl
 ·rw [decide_eq_false hc,UC (by rw [hl];exact hc)]
  simp
end Go.Vc
namespace Go.Proofs.YtkjoppimpmojfaaGreat
open Go.Vc
theorem FZ {R:List DV} {k:Nat} (hk:k < R.length) (hR:R.length ≤ 1000000000) (hg:∀ j,j < k → goodD (R.map DV.d) j = true) {v0:Value} {w:World} (h:RdD w v0 R) (hpb:∀ x ∈ R,x.d.prem.length ≤ 1000000000):
  Ret Tryz.prog tS #[v0,.int .i64 (k:Int)] w (.bool (goodD (R.map DV.d) k)):=by
 have hmem:∀ {j:Nat},j < R.length → gt R j ∈ R:=fun hj=>by rw [gt_eq hj];exact List.getElem_mem _
 have hpm:=h.prem _ (hmem hk)
 have hlm:SlT w (gt R k).vl (gt R k).d.asm:=h.asm _ (hmem hk)
 have hpb:=hpb _ (hmem hk)
 rw [T7,gP hk]
 apply HU;unfold t4
 refine iAtD h.row rfl hk ?_
 generalize hx:gt R k = x at *
 refine iBs05 fun v14 w1 x1 ho1=>?_
 refine iNew5 fun q1 w2 hq2 x2 hB2=>?_
 refine iStAB hB2 rfl rfl (fun y hy=>DV.cell (hpm.ext (x1.trans x2)) (hlm.ext (x1.trans x2)) y (by simpa using hy)) fun w3 hu3 hB3=>?_
 have x13:Ext w1 w3:=x2.upd hu3 (by omega)
 have X3:=x1.trans x13
 have hB3:Blk aC w3 q1 [.int .i64 x.d.rule,x.vp,x.vl,sv x.d.con,.int .i64 x.d.num]:=by simpa [DV.cs] using hB3
 refine iFa (iLdB hB3 (i:=3) (v:=sv x.d.con) rfl ?_)
 refine iCall ((l9 x.d.con w3).mono ?_)
 rintro r w4 ⟨x4,u,rfl,-⟩
 refine iE20 (iE21 ?_)
 have X4:=X3.trans x4
 have hB4:=hB3.ext x4
 refine iJnB (!preD x.d) w4 (fun J hJ=>?_) (fun w6 x6=>?_)
 ·unfold preD at hJ
  refine iNot (iCnd (fun h1=>?_) (fun h1=>?_))
  ·have h1:plT x.d.con = false:=by simpa using h1
   rw [h1,Bool.false_and] at hJ
   exact fun w' x'=>hJ w' x'
  have h1:plT x.d.con = true:=by simpa using h1
  rw [h1,Bool.true_and] at hJ
  refine iFa (iLdB hB4 (i:=2) (v:=x.vl) rfl ?_)
  refine iRetQ (fun w' x'=>zM (Sl.ext hlm (X4.trans x'))) (iNot (iCnd (fun h2=>?_) (fun h2=>?_)))
  ·have h2:(decide (x.d.asm.length ≤ 12) && x.d.asm.all plT) = false:=(Bool.not_eq_true' _).mp h2
   rw [h2,Bool.false_and] at hJ
   exact fun w' x'=>hJ w' x'
  have h2:(decide (x.d.asm.length ≤ 12) && x.d.asm.all plT) = true:=(Bool.not_eq_false' _).mp h2
  rw [h2,Bool.true_and] at hJ
  refine iFa (iLdB hB4 (i:=0) (v:=.int .i64 x.d.rule) rfl ?_)
  refine iRetQ (fun w' x'=>JM x.d.rule w') ?_
  refine iFa (iLdB hB4 (i:=1) (v:=x.vp) rfl (iLenI (hpm.ext X4) (iNe (iCndP (fun h3=>?_) (fun h3=>?_)))))
  ·rw [decide_eq_false h3,Bool.false_and] at hJ
   exact fun w' x'=>hJ w' x'
  rw [decide_eq_true (Classical.not_not.1 h3),Bool.true_and] at hJ
  refine iFa (iLdB hB4 (i:=0) (v:=.int .i64 x.d.rule) rfl (iNe (iCndP (fun h4=>?_) (fun h4=>?_))))
  ·rw [decide_eq_false h4,Bool.false_or] at hJ
   refine iFa (iLdB hB4 (i:=4) (v:=.int .i64 x.d.num) rfl (iNe ?_))
   rw [show (decide (¬ x.d.num = 0)) = !decide (x.d.num = 0) by simp]
   exact fun w' x'=>hJ w' x'
  ·rw [decide_eq_true (Classical.not_not.1 h4),Bool.true_or] at hJ
   exact fun w' x'=>hJ w' x'
 intro _
 simp only [gx]
 have X6:=X4.trans x6
 refine iCnd (fun hs=>?_) (fun hs=>?_)
 ·have hs:preD x.d = false:=by simpa using hs
  rw [hs,Bool.false_and]
  exact ⟨by first | trivial | rfl,X6⟩
 have hs:preD x.d = true:=by simpa using hs
 rw [hs,Bool.true_and]
 unfold preD at hs
 simp only [Bool.and_eq_true,decide_eq_true_eq] at hs
 obtain ⟨hc1,⟨hc2,hc3⟩,hc4,-⟩:=hs
 have hB6:=hB4.ext x6
 have ho6:=OwK.ext ho1 (x13.trans (x4.trans x6))
 have hne0:∀ c,v14.ownBlock = some c → c ≠ q1:=fun c hc=>by
  have:=(OwK.blk ho1 c hc).2
  omega
 have hp6:=hpm.ext X6
 have hpsl:=SlI.len hp6
 have hcl:∀ (L:List DV),(aO L).length = L.length * 5:=fun L=>by
  induction L with
  | nil=>rfl
  | cons y L ih=>rw [aO,List.flatMap_cons,List.length_append,← aO,ih,List.length_cons];simp [DV.cs];omega
 refine iLp (fun s:Value × Nat=>[s.1,.int .i64 (s.2:Int)]) (fun s w'=>s.2 ≤ x.d.prem.length ∧ Ext w w' ∧ Blk aC w' q1 [.int .i64 x.d.rule,x.vp,x.vl,sv x.d.con,.int .i64 x.d.num] ∧ (∀ c,s.1.ownBlock = some c → c ≠ q1) ∧ (∀ q ∈ x.d.prem.take s.2,0 ≤ q ∧ q ≤ (k:Int) - 1) ∧ OwK 5 w.heap.size aC w' s.1 s.2 (aO ((x.d.prem.take s.2).map fun q=>gt R q.toNat))) (fun s=>x.d.prem.length - s.2) (v14,0) rfl ⟨Nat.zero_le _,X6,hB6,hne0,(fun q hq=>by cases hq),ho6⟩ ?_
 rintro ⟨gv,i⟩ w13 Kn ⟨hi,X13,hB13,hne,hin,hrow⟩ hKn
 have hne:∀ c,gv.ownBlock = some c → c ≠ q1:=hne
 have hi:i ≤ x.d.prem.length:=hi
 have hin:∀ q ∈ x.d.prem.take i,0 ≤ q ∧ q ≤ (k:Int) - 1:=hin
 have hrow:OwK 5 w.heap.size aC w13 gv i (aO ((x.d.prem.take i).map fun q=>gt R q.toNat)):=hrow
 intro _
 simp only [gx]
 refine iFa (iLdB hB13 (i:=1) (v:=x.vp) rfl (iLenI (hpm.ext X13) (iLt (iCndP (fun hc=>?_) (fun hc=>?_)))))
 ·have hil:i < x.d.prem.length:=by omega
  have etk:x.d.prem.take (i + 1) = x.d.prem.take i ++ [x.d.prem[i]]:=List.take_succ_eq_append_getElem hil
  refine iFa (iLdB hB13 (i:=1) (v:=x.vp) rfl ?_)
  refine iIaN (hpm.ext X13) hil fun p hp=>?_
  have eg:x.d.prem.getD i 0 = x.d.prem[i]:=by simp [hil]
  rw [eg] at hp
  refine iLd hp (iSub (by omega) ?_)
  refine iRet (kX _ _ _ w13) fun w14 x14=>iNot ?_
  refine iCnd (fun hb=>?_) (fun hb=>?_)
  ·refine ⟨?_,X13.trans x14⟩
   have hb:¬ (0 ≤ x.d.prem[i] ∧ x.d.prem[i] ≤ (k:Int) - 1):=of_decide_eq_false ((Bool.not_eq_true' _).mp hb)
   have:inD k x.d = false:=List.all_eq_false.2 ⟨x.d.prem[i],List.getElem_mem hil,fun e=>hb (of_decide_eq_true e)⟩
   rw [this,Bool.false_and]
  have hb:0 ≤ x.d.prem[i] ∧ x.d.prem[i] ≤ (k:Int) - 1:=of_decide_eq_true ((Bool.not_eq_false' _).mp hb)
  have X14:=X13.trans x14
  refine iFa (iLdB (hB13.ext x14) (i:=1) (v:=x.vp) rfl ?_)
  refine iIaN (hpm.ext X14) hil fun p hp=>?_
  rw [eg] at hp
  refine iLd hp ?_
  generalize x.d.prem[i] = q at *
  obtain ⟨m,rfl⟩:=Int.eq_ofNat_of_zero_le hb.1
  have hm:m < R.length:=by omega
  refine iAtD (h.ext X14).row rfl hm ?_
  refine iBs15 fun bb w15 hbb x15 hB15=>?_
  have hB15:Blk aC w15 bb (gt R m).cs:=hB15
  have hrow15:=OwK.ext hrow (x14.trans x15)
  refine iAppK f7 gD rfl (by decide) hrow15 (SlK.ofBlk (k:=5) (n:=1) hB15 rfl (by decide)) (fun y hy=>DV.cell (h.prem _ (hmem hm)) (h.asm _ (hmem hm)) y hy) (by omega) (by omega) (X14.trans x15).size fun v' w16 hrow16 hg16 hat16=>?_
  refine iAdd (by omega) ?_
  have X15:=X14.trans x15
  have hB15':=hB13.ext (x14.trans x15)
  have hq1:=hB13.lt
  have X16:Ext w w16:=X15.grown hg16 fun c hc=>(OwK.blk hrow15 c hc).1
  have hB16:=hB15'.grown hg16 (fun e=>hne _ e rfl)
  refine hKn (v',i + 1) _ ⟨hil,X16,hB16,fun c hc=>?_,fun q hq=>?_,?_⟩ (by show x.d.prem.length - (i + 1) < x.d.prem.length - i;omega)
  ·rcases hat16 with e | ⟨c',e,hge⟩
   ·exact hne c (e ▸ hc)
   ·have hc:v'.ownBlock = some c:=hc
    rw [e] at hc
    cases hc
    have:=(x14.trans x15).size
    omega
  ·rw [etk] at hq
   rcases List.mem_append.1 hq with hq | hq
   ·exact hin q hq
   ·rw [List.mem_singleton.1 hq];exact hb
  ·show OwK _ _ _ _ v' (i + 1) (aO ((x.d.prem.take (i + 1)).map fun q=>gt R q.toNat))
   rw [etk,List.map_append,uY]
   simpa [aO] using hrow16
 ·have hie:i = x.d.prem.length:=by omega
  subst hie
  rw [List.take_length] at hin hrow
  refine iLdA hB13 rfl ?_
  have hinD:inD k x.d = true:=List.all_eq_true.2 fun q hq=>decide_eq_true (hin q hq)
  have hG:sU (R.map DV.d) x.d = (x.d.prem.map fun q=>gt R q.toNat).map fun y=>jdg y.d:=by
   unfold sU
   rw [List.map_map]
   refine List.map_congr_left fun q hq=>?_
   have:=hin q hq
   show jdg (gt (R.map DV.d) q.toNat) = jdg (gt R q.toNat).d
   rw [gP (by omega)]
  rw [hinD,Bool.true_and,hG]
  have hmG:∀ y ∈ (x.d.prem.map fun q=>gt R q.toNat),∃ j,j < k ∧ y = gt R j:=fun y hy=>by
   obtain ⟨q,hq,rfl⟩:=List.mem_map.1 hy
   have:=hin q hq
   exact ⟨q.toNat,by omega,rfl⟩
  have hGl:(x.d.prem.map fun q=>gt R q.toNat).length = x.d.prem.length:=List.length_map _
  refine iRet (KH (x:=x) (G:=x.d.prem.map fun q=>gt R q.toNat) (Sl.ext hlm X13) ⟨by rw [hGl];exact hrow.sl,fun y hy=>?_,fun y hy=>?_⟩ hc1 (fun y hy=>?_) (by rw [hGl];exact hc4) hc2) fun w17 x17=>⟨by first | trivial | rfl,X13.trans x17⟩
  ·obtain ⟨j,hj,rfl⟩:=hmG y hy
   exact (h.prem _ (hmem (by omega))).ext X13
  ·obtain ⟨j,hj,rfl⟩:=hmG y hy
   exact (h.asm _ (hmem (by omega))).ext X13
  ·obtain ⟨j,hj,rfl⟩:=hmG y hy
   have:=(eP (hg j hj)).1
   rw [gP (by omega)] at this
   exact (eQ this).2.2
end Go.Proofs.YtkjoppimpmojfaaGreat

namespace Go.Proofs.YtkjoppimpmojfaaGreat
open Go.Vc
theorem N2 {R:List DV} {v:Value} {w:World} (hR:R.length ≤ 1000000000) (h:RdD w v R) (hpb:∀ x ∈ R,x.d.prem.length ≤ 1000000000):Cal Tryz.prog E5 #[v] w fun u w'=>Ext w w' ∧ ∃ z:Int,u = .int .i64 z ∧ decide (0 ≤ z) = !dH (R.map DV.d):=by
 apply PK;unfold E7
 refine iLp (fun i:Nat=>[.int .i64 (i:Int)]) (fun i w'=>i ≤ R.length ∧ Ext w w' ∧ ∀ j,j < i → goodD (R.map DV.d) j = true) (fun i=>R.length - i) 0 rfl ⟨Nat.zero_le _,Ext.refl _,fun j hj=>absurd hj (Nat.not_lt_zero _)⟩ ?_
 rintro i w2 Kn ⟨hi,x2,hok⟩ hKn
 intro _
 simp only [gx]
 refine iLenK (h.ext x2).row ?_
 refine iLt (iCndP (fun h1=>?_) (fun h1=>?_))
 ·have hil:i < R.length:=by omega
  refine iRet (FZ hil hR hok (h.ext x2) hpb) fun w3 x3=>iNot ?_
  have X3:=x2.trans x3
  refine iCnd (fun hb=>?_) (fun hb=>?_)
  ·refine ⟨X3,_,rfl,?_⟩
   have hb:goodD (R.map DV.d) i = false:=by simpa using hb
   have:dH (R.map DV.d) = false:=by
    unfold dH
    rw [List.all_eq_false]
    exact ⟨i,List.mem_range.2 (by rw [List.length_map];exact hil),by rw [hb];simp⟩
   rw [this,decide_eq_true (by omega)];rfl
  ·have hb:goodD (R.map DV.d) i = true:=by simpa using hb
   refine iAdd (by omega) (hKn (i + 1) _ ⟨by omega,X3,fun j hj=>?_⟩ (by omega))
   by_cases e:j = i
   ·subst e;exact hb
   ·exact hok j (by omega)
 ·refine ⟨x2,-1,rfl,?_⟩
  have:dH (R.map DV.d) = true:=by
   unfold dH
   rw [List.all_eq_true]
   intro j hj
   rw [List.mem_range,List.length_map] at hj
   exact hok j (by omega)
  rw [this];rfl
theorem oD {v va:Value} {R:List DV} {w:World} (hs:Sl w v [va]) (h:RdD w va R) (hpb:∀ x ∈ R,x.d.prem.length ≤ 1000000000):Ret Tryz.prog AZ #[v] w (.int .i64 (codeD (R.map DV.d))):=by
 have hl:(R.map DV.d).length = R.length:=List.length_map _
 apply MW;unfold BW
 refine iLp (fun i:Nat=>[.int .i64 (i:Int)]) (fun i w'=>i ≤ 1 ∧ Ext w w' ∧ (i = 1 → 1 ≤ R.length ∧ R.length ≤ 120)) (fun i=>1 - i) 0 rfl ⟨Nat.zero_le _,Ext.refl _,fun h=>by omega⟩ ?_
 rintro i w2 Kn ⟨hi,h2,hno⟩ hKn
 intro _
 simp only [gx]
 refine iLenS (hs.ext h2) (iLt (iCndP (fun hc=>?_) (fun hc=>?_)))
 ·have hi0:i = 0:=by simp at hc;omega
  subst hi0
  refine iJnB (!decide (1 ≤ R.length ∧ R.length ≤ 120)) w2 (fun J hJ=>?_) (fun w4 x4=>?_)
  ·refine iIa (j:=0) (hs.ext h2) (by omega) (by simp) fun p hp=>?_
   have hp:w2.cell? p = some va:=hp
   refine iLd hp (iLenK (h.ext h2).row (iEq (iCndP (fun h0=>?_) (fun h0=>?_))))
   ·rw [decide_eq_false (by omega)] at hJ
    exact hJ _ (Ext.refl _)
   ·refine iIa (j:=0) (hs.ext h2) (by omega) (by simp) fun p hp=>?_
    have hp:w2.cell? p = some va:=hp
    refine iLd hp (iLenK (h.ext h2).row (iLt ?_))
    rw [show decide ((120:Int) < (R.length:Int)) = !decide (1 ≤ R.length ∧ R.length ≤ 120) by rw [← decide_not];exact decide_eq_decide.2 (by omega)]
    exact hJ _ (Ext.refl _)
  intro _
  simp only [gx]
  refine iCnd (fun hb=>?_) (fun hb=>?_)
  ·have hb:¬ (1 ≤ R.length ∧ R.length ≤ 120):=of_decide_eq_false ((Bool.not_eq_true' _).mp hb)
   refine ⟨?_,h2.trans x4⟩
   unfold codeD
   rw [hl,if_neg hb]
  ·have hb:1 ≤ R.length ∧ R.length ≤ 120:=of_decide_eq_true ((Bool.not_eq_false' _).mp hb)
   refine iAdd (by omega) ?_
   exact hKn 1 _ ⟨Nat.le_refl _,h2.trans x4,fun _=>hb⟩ (by omega)
 have hi1:i = 1:=by simp at hc;omega
 have hb:=hno hi1
 unfold codeD
 rw [hl,if_pos hb]
 refine iLp (fun i:Nat=>[.int .i64 (i:Int)]) (fun i w'=>i ≤ 1 ∧ Ext w w' ∧ (i = 1 → dH (R.map DV.d) = true)) (fun i=>1 - i) 0 rfl ⟨Nat.zero_le _,h2,fun h=>by omega⟩ ?_
 rintro i w6 Kn ⟨hi,h6,hno⟩ hKn
 intro _
 simp only [gx]
 refine iLenS (hs.ext h6) (iLt (iCndP (fun hc=>?_) (fun hc=>?_)))
 ·have hi0:i = 0:=by simp at hc;omega
  subst hi0
  refine iIa (j:=0) (hs.ext h6) (by omega) (by simp) fun p hp=>?_
  have hp:w6.cell? p = some va:=hp
  refine iLd hp ?_
  refine iCall ((N2 (by omega) (h.ext h6) hpb).mono ?_)
  rintro _ w7 ⟨x7,z,rfl,hz⟩
  refine iLe (iCnd (fun hb=>?_) (fun hb=>?_))
  ·rw [hz] at hb
   rw [show dH (R.map DV.d) = false from (Bool.not_eq_true' _).mp hb]
   exact ⟨rfl,h6.trans x7⟩
  ·rw [hz] at hb
   refine iAdd (by omega) ?_
   exact hKn 1 _ ⟨Nat.le_refl _,h6.trans x7,fun _=>(Bool.not_eq_false' _).mp hb⟩ (by omega)
 ·have hi1:i = 1:=by simp at hc;omega
  rw [hno hi1]
  exact ⟨rfl,h6⟩
end Go.Proofs.YtkjoppimpmojfaaGreat

namespace Go.Proofs.YtkjoppimpmojfaaGreat
open Go.Vc
structure OwDs (lo:Nat) (w:World) (v:Value) (R:List DV):Prop where
 row:OwK 5 lo aC w v R.length (aO R)
 prem:∀ j,j < R.length → Ow lo t_i64 w (gt R j).vp (ints (gt R j).d.prem)
 asm:∀ j,j < R.length → Ow lo aB w (gt R j).vl (strs (gt R j).d.asm)
 dp:∀ a b,a < R.length → b < R.length → a ≠ b → ∀ c,(gt R a).vp.ownBlock = some c → (gt R b).vp.ownBlock ≠ some c
 dl:∀ a b,a < R.length → b < R.length → a ≠ b → ∀ c,(gt R a).vl.ownBlock = some c → (gt R b).vl.ownBlock ≠ some c
theorem OwDs.ext {lo:Nat} {w w':World} {v:Value} {R:List DV} (h:OwDs lo w v R) (x:Ext w w'):OwDs lo w' v R:=⟨OwK.ext h.row x,fun j hj=>(h.prem j hj).ext x,fun j hj=>(h.asm j hj).ext x,h.dp,h.dl⟩
theorem OwDs.rd {lo:Nat} {w:World} {v:Value} {R:List DV} (h:OwDs lo w v R):RdD w v R:=by
 refine ⟨h.row.sl,fun x hx=>?_,fun x hx=>?_⟩
 ·obtain ⟨j,hj,rfl⟩:=List.getElem_of_mem hx
  rw [← gt_eq hj];exact (h.prem j hj).sl
 ·obtain ⟨j,hj,rfl⟩:=List.getElem_of_mem hx
  rw [← gt_eq hj];exact (h.asm j hj).sl
end Go.Proofs.YtkjoppimpmojfaaGreat

namespace Go.Vc
theorem IK {P:Program} {w:World} {lo k:Nat} {t ty e:TypeId} {z v:Value} {bytes n q:Nat} {xs ys:List Value} {K:Value → World → Prop} (ht:P.underlying t = some (.slice e)) (hi:(P.info? e).map (fun i=>(i.zero,i.size,i.bytes)) = some (some z,k,bytes)) (hz:z.cells.size = k) (hk:0 < k)
  (hown:OwK k lo e w v n xs) (hB:Blk e w q ys) (hyl:ys.length = k) (hy:∀ u ∈ ys,aD u = true) (hb:(n + 1) * bytes ≤ 140737488355328) (hm:n + 1 ≤ 9223372036854775807) (hlo:lo ≤ w.heap.size)
  (h:∀ v' w',OwK k lo e w' v' (n + 1) (xs ++ ys) → OwK k lo e w' v n xs → Ch (fun c=>v.ownBlock = some c) w w' → (v'.ownBlock = v.ownBlock ∨ ∃ c,v'.ownBlock = some c ∧ w.heap.size ≤ c) → K v' w'):xOp P (Builtin.append_ #[t,t] ty #[v,.slice (some ⟨q,0,none⟩) 1 1]) w K:=by
 have hq:SlK k w (.slice (some ⟨q,0,none⟩) 1 1) 1 ys:=SlK.ofBlk (n:=1) hB (by omega) (by decide)
 rcases hown.2 with ⟨rfl,hn⟩ | ⟨g,cap,cur,rfl,hg,hh,h1,h2,h3,h4⟩
 ·refine iAppK ht hi hz hk hown hq hy hb hm hlo fun v' w' ho hgr hat=>h v' w' ho ?_ (dG hgr fun b hb=>hb) hat
  subst hn
  have:=hown.1
  rw [Nat.zero_mul] at this
  rw [List.length_eq_zero_iff.1 this]
  exact OwK.nil _ _ _ _
 ·have hxl:=hown.1
  obtain ⟨i,hi,h3'⟩:=Option.map_eq_some_iff.1 hi
  simp only [Prod.mk.injEq] at h3'
  obtain ⟨hz0,hsz,hby⟩:=h3'
  have hsrc:∀ j u,ys[j]? = some u → w.cell? ((⟨q,0,none⟩:Addr).add j) = some u:=fun j u hu=>by
   have hj:j < ys.length:=(List.getElem?_eq_some_iff.1 hu).1
   rw [dB,hB.cell,Nat.zero_add,hu]
  by_cases hroom:n + 1 ≤ cap
  ·have hmul:(n + 1) * k ≤ cap * k:=Nat.mul_le_mul_right _ hroom
   rw [Nat.add_mul,Nat.one_mul] at hmul
   have hr:=run_append_room (P:=P) w t ty e i ht hi g n cap cur hh ⟨q,0,none⟩ 1 1 ys (by rw [hsz];omega) hsrc (fun u hu=>mM (hy u hu)) hroom (by rw [hsz];omega)
   rw [hsz] at hr
   have hcl:cur.toList.length = cap * k:=by simpa using h3
   have hlen:(cur.toList.take (n * k) ++ ys ++ cur.toList.drop (n * k + ys.length)).length = cap * k:=by
    simp only [List.length_append,List.length_take,List.length_drop];omega
   have hpre:(cur.toList.take (n * k) ++ ys ++ cur.toList.drop (n * k + ys.length)).take (n * k) = xs:=by
    rw [List.append_assoc,List.take_append_of_le_length (by rw [List.length_take];omega),List.take_take,Nat.min_self]
    exact h4
   have hall:(cur.toList.take (n * k) ++ ys ++ cur.toList.drop (n * k + ys.length)).take ((n + 1) * k) = xs ++ ys:=by
    rw [Nat.add_mul,Nat.one_mul,List.take_append_of_le_length (by rw [List.length_append,List.length_take];omega),List.take_of_length_le (by rw [List.length_append,List.length_take];omega),h4]
   have hheap:=setRow_heap w g cur (cur.toList.take (n * k) ++ ys ++ cur.toList.drop (n * k + ys.length)).toArray e (0,0) hh
   refine ⟨_,_,hr,h _ _ ?_ ?_ ⟨rfl,rfl,rfl,by rw [setRow_size];exact Nat.le_refl _,fun c _ hc=>setRow_other w g c _ fun e=>hc (by rw [e];rfl)⟩ (.inl rfl)⟩
   ·exact ⟨by rw [List.length_append,hxl,hyl,Nat.add_mul,Nat.one_mul],.inr ⟨g,cap,_,rfl,hg,hheap,hroom,h2,by simpa using hlen,hall⟩⟩
   ·exact ⟨hxl,.inr ⟨g,cap,_,rfl,hg,hheap,by omega,h2,by simpa using hlen,hpre⟩⟩
  ·have hnc:n = cap:=by omega
   have holds:∀ j u,xs[j]? = some u → w.cell? ((⟨g,0,none⟩:Addr).add j) = some u:=World.ownsRow.cells hown rfl
   have hr:=run_append_grow (P:=P) w t ty e i z ht hi hz0 ⟨g,0,none⟩ n cap xs (by rw [hsz];exact hxl) holds ⟨q,0,none⟩ 1 1 ys (by rw [hsz];omega) hsrc (by omega) (by omega) (by rw [hby];exact growslice_fits (by omega) hb)
   have hge:=grownCap_ge w (n + 1) cap e
   have hgm:=grownCap_le_maxLen w (n + 1) cap e (by simpa [maxLen] using hm)
   have hX:Ext w (w.drew.alloc (.cells (xs.toArray ++ ys.toArray ++ Builtin.zeroCells z.cells (grownCap w (n + 1) cap e - (n + 1))) e)):=(Ext.drew w).trans (Ext.alloc _ _)
   refine ⟨_,_,hr,h _ _ ?_ (OwK.ext hown hX) hX.ch (.inr ⟨w.heap.size,rfl,Nat.le_refl _⟩)⟩
   refine ⟨by rw [List.length_append,hxl,hyl,Nat.add_mul,Nat.one_mul],.inr ⟨w.heap.size,_,_,rfl,hlo,heap_alloc_new w.drew _,hge,hgm,?_,?_⟩⟩
   ·simp only [Array.size_append,List.size_toArray,size_zeroCells,hz,hxl,hyl]
    have:grownCap w (n + 1) cap e = n + 1 + (grownCap w (n + 1) cap e - (n + 1)):=by omega
    conv=>rhs;rw [this,Nat.add_mul,Nat.add_mul,Nat.one_mul]
   ·simp only [Array.toList_append]
    rw [List.take_append_of_le_length (by simp [hxl,hyl,Nat.add_mul]),List.take_of_length_le (by simp [hxl,hyl,Nat.add_mul])]
theorem fY {z0 z1 z2 z3 a b c d:Value} {K:Value → Prop} (ha:aD a = true) (hb:aD b = true) (hc:aD c = true) (hd:aD d = true) (h:K (.agg #[a,b,c,d,.int .i64 0])):aK #[z0,z1,z2,z3,.int .i64 0] #[(0,1),(1,1),(2,1),(3,1),(4,1)] [(0,a),(1,b),(2,c),(3,d)] K:=
 j4 (cs:=#[a,b,c,d,.int .i64 0]) (by simp [Instr.fill,aH ha,aH hb,aH hc,aH hd]) h
end Go.Vc
namespace Go.Proofs.YtkjoppimpmojfaaGreat
open Go.Vc
abbrev eS:TypeId:=114
def TyD (w:World) (c:Nat):Prop:=(∃ cs,Blk eS w c cs) ∨ (∃ cs,Blk aC w c cs)
def DCh (w w':World):Prop:=Ch (TyD w) w w'
theorem DCh.ext {w w':World} (x:Ext w w'):DCh w w':=x.ch
theorem DCh.trans {w w' w'':World} (h:DCh w w') (k:DCh w' w''):DCh w w'':=by
 refine Ch.trans h k fun c hc=>?_
 by_cases hlt:c < w.heap.size
 ·by_cases hs:TyD w c
  ·exact .inl hs
  ·refine .inl ?_
   have:=h.block c hlt hs
   rcases hc with ⟨cs,hc⟩ | ⟨cs,hc⟩
   ·exact .inl ⟨cs,by unfold Blk at hc ⊢;rw [← this];exact hc⟩
   ·exact .inr ⟨cs,by unfold Blk at hc ⊢;rw [← this];exact hc⟩
 ·exact .inr (by omega)
theorem DCh.src {w0 w w':World} {vc:Value} {b:Nat} (hS:Vc.Src eS w0 vc b w) (h:Ch (fun c=>c = b) w w'):DCh w w':=h.mono fun c e=>by
 subst e
 obtain ⟨_,_,at_,hash,h3,_⟩:=hS
 exact .inl ⟨_,h3⟩
theorem DCh.row {k lo n:Nat} {w w':World} {v:Value} {xs:List Value} (h:OwK k lo aC w v n xs) (x:Ch (fun c=>v.ownBlock = some c) w w'):DCh w w':=x.mono fun c hc=>by
 obtain ⟨cur,hh⟩:=OwK.ty h hc
 exact .inr ⟨cur.toList,by unfold Blk;rw [hh]⟩
theorem OwK.dch {k lo n:Nat} {e:TypeId} {w w':World} {v:Value} {xs:List Value} (h:OwK k lo e w v n xs) (x:DCh w w') (h1:e ≠ eS) (h2:e ≠ aC):OwK k lo e w' v n xs:=OwK.ch h x fun c hc hS=>by
 rcases hS with ⟨cs,hS⟩ | ⟨cs,hS⟩
 ·exact OwK.ne_blk h hS h1 hc
 ·exact OwK.ne_blk h hS h2 hc
theorem Ow.dch {lo:Nat} {e:TypeId} {w w':World} {v:Value} {xs:List Value} (h:Ow lo e w v xs) (x:DCh w w') (h1:e ≠ eS) (h2:e ≠ aC):Ow lo e w' v xs:=Ow.ch h x fun c hc hS=>by
 rcases hS with ⟨cs,hS⟩ | ⟨cs,hS⟩
 ·exact h.ne_blk hS h1 hc
 ·exact h.ne_blk hS h2 hc
structure StO (lo:Nat) (w:World) (v:Value) (R:List DV):Prop where
 row:OwK 5 lo aC w v R.length (aO R)
 prem:∀ x ∈ R,Ow 0 t_i64 w x.vp (ints x.d.prem)
 asm:∀ x ∈ R,TxW 0 w x.vl x.d.asm
 small:∀ x ∈ R,x.d.prem.length ≤ 3 ∧ x.d.asm.length ≤ 12
theorem StO.ext {lo:Nat} {w w':World} {v:Value} {R:List DV} (h:StO lo w v R) (x:Ext w w'):StO lo w' v R:=⟨OwK.ext h.row x,fun y hy=>(h.prem y hy).ext x,fun y hy=>(h.asm y hy).ext x,h.small⟩
theorem StO.src {lo:Nat} {w0 w w':World} {vc v:Value} {b:Nat} {R:List DV} (h:StO lo w v R) (hS:Vc.Src eS w0 vc b w) (hc:Ch (fun c=>c = b) w w'):StO lo w' v R:=by
 have hd:=DCh.src hS hc
 exact ⟨OwK.src h.row hS (by decide) hc,fun y hy=>Ow.dch (h.prem y hy) hd (by decide) (by decide),fun y hy=>Ow.dch (h.asm y hy) hd (by decide) (by decide),h.small⟩
theorem StO.rd {lo:Nat} {w:World} {v:Value} {R:List DV} (h:StO lo w v R):RdD w v R:=⟨h.row.sl,fun x hx=>(h.prem x hx).sl,fun x hx=>(h.asm x hx).sl⟩
theorem StO.mono {lo lo':Nat} {w:World} {v:Value} {R:List DV} (h:StO lo w v R) (hl:lo' ≤ lo):StO lo' w v R:=⟨OwK.mono h.row hl,h.prem,h.asm,h.small⟩
theorem StO.nil (lo:Nat) {w:World} {v:Value} (h:OwK 5 lo aC w v 0 []):StO lo w v []:=⟨h,fun x hx=>(by cases hx),fun x hx=>(by cases hx),fun x hx=>(by cases hx)⟩
theorem StO.push {lo:Nat} {w0 w:World} {vc v:Value} {b:Nat} {R:List DV} {x:DV} {z:Value} {K:Value → World → Prop} (hz:z = .agg #[.int .i64 0,.slice none 0 0,.slice none 0 0,.string ⟨#[]⟩,.int .i64 0]) (h:StO lo w v R) (hS:Vc.Src eS w0 vc b w) (hp:Ow 0 t_i64 w x.vp (ints x.d.prem)) (ha:TxW 0 w x.vl x.d.asm) (hl:x.d.prem.length ≤ 3 ∧ x.d.asm.length ≤ 12) (hR:R.length ≤ 1000000) (hlo:w0.heap.size ≤ lo) (hlw:lo ≤ w.heap.size)
  (hK:∀ v' w',StO lo w' v' (R ++ [x]) → StO lo w' v R → Vc.Src eS w0 vc b w' → DCh w w' → K v' w'):xBs aC (Value.cells z) 5 1 [(0,.agg #[.int .i64 x.d.rule,x.vp,x.vl,sv x.d.con,.int .i64 x.d.num])] w fun u w1=>xOp Tryz.prog (Builtin.append_ #[aZ,aZ] aZ #[v,u]) w1 K:=by
 subst hz
 refine iBs15 fun q w1 hq x1 hB=>?_
 have h1:=h.ext x1
 refine IK f7 gD rfl (by decide) h1.row hB rfl (fun u hu=>?_) (by omega) (by omega) (Nat.le_trans hlw x1.size) fun v' w' ho hk hc _=>?_
 ·simp only [List.mem_cons,List.not_mem_nil,or_false] at hu
  rcases hu with rfl | rfl | rfl | rfl | rfl
  ·rfl
  ·exact hp.cell
  ·exact ha.cell
  ·rfl
  ·rfl
 have hd:=DCh.row h1.row hc
 have hS1:=hS.later x1
 have hS':=hS1.ch hc (fun e=>OwK.ne_src h1.row hS1 (by decide) e) fun c e=>Nat.le_trans hlo (OwK.blk h1.row c e).1
 have kp:∀ y ∈ R,Ow 0 t_i64 w' y.vp (ints y.d.prem):=fun y hy=>Ow.dch (h1.prem y hy) hd (by decide) (by decide)
 have ka:∀ y ∈ R,TxW 0 w' y.vl y.d.asm:=fun y hy=>Ow.dch (h1.asm y hy) hd (by decide) (by decide)
 refine hK v' w' ⟨?_,fun y hy=>?_,fun y hy=>?_,fun y hy=>?_⟩ ⟨hk,kp,ka,h.small⟩ hS' ((DCh.ext x1).trans hd)
 ·rw [uY,List.length_append]
  exact ho
 ·rcases List.mem_append.1 hy with hy | hy
  ·exact kp y hy
  ·rw [List.mem_singleton.1 hy];exact Ow.dch (hp.ext x1) hd (by decide) (by decide)
 ·rcases List.mem_append.1 hy with hy | hy
  ·exact ka y hy
  ·rw [List.mem_singleton.1 hy];exact Ow.dch (ha.ext x1) hd (by decide) (by decide)
 ·rcases List.mem_append.1 hy with hy | hy
  ·exact h.small y hy
  ·rw [List.mem_singleton.1 hy];exact hl
end Go.Proofs.YtkjoppimpmojfaaGreat

namespace Go.Vc
inductive Tm where
 | var (n:Nat)
 | lam (t:Str) (b:Tm)
 | app (f x:Tm)
 | pair (a b:Tm)
 | fst (a:Tm)
 | snd (a:Tm)
 | left (t:Str) (a:Tm)
 | right (t:Str) (a:Tm)
 | case (a b c:Tm)
 | abort (t:Str) (a:Tm)
structure TN where
 kind:Nat
 num:Nat
 typ:Str
def Tm.nodes:Tm → List TN
 | var n=>[⟨0,n,[]⟩]
 | lam t b=>⟨1,0,t⟩ :: b.nodes
 | app f x=>⟨2,0,[]⟩ :: (f.nodes ++ x.nodes)
 | pair a b=>⟨3,0,[]⟩ :: (a.nodes ++ b.nodes)
 | fst a=>⟨4,0,[]⟩ :: a.nodes
 | snd a=>⟨5,0,[]⟩ :: a.nodes
 | left t a=>⟨6,0,t⟩ :: a.nodes
 | right t a=>⟨7,0,t⟩ :: a.nodes
 | case a b c=>⟨8,0,[]⟩ :: (a.nodes ++ (b.nodes ++ c.nodes))
 | abort t a=>⟨9,0,t⟩ :: a.nodes
inductive Has:List Str → Tm → Str → Prop
 | var {G:List Str} {n:Nat}:n < G.length → Has G (.var n) (gt G n)
 | lam {G:List Str} {b:Tm} {c:Str} {p:Str × Str}:plT c = true → parK c 4 = some p → Has (G ++ [p.1]) b p.2 → Has G (.lam p.1 b) c
 | app {G:List Str} {f x:Tm} {c:Str} {p:Str × Str}:parK c 4 = some p → Has G f c → Has G x p.1 → Has G (.app f x) p.2
 | pair {G:List Str} {a b:Tm} {c:Str} {p:Str × Str}:plT c = true → parK c 2 = some p → Has G a p.1 → Has G b p.2 → Has G (.pair a b) c
 | fst {G:List Str} {a:Tm} {c:Str} {p:Str × Str}:parK c 2 = some p → Has G a c → Has G (.fst a) p.1
 | snd {G:List Str} {a:Tm} {c:Str} {p:Str × Str}:parK c 2 = some p → Has G a c → Has G (.snd a) p.2
 | left {G:List Str} {a:Tm} {c:Str} {p:Str × Str}:plT c = true → parK c 3 = some p → Has G a p.1 → Has G (.left p.2 a) c
 | right {G:List Str} {a:Tm} {c:Str} {p:Str × Str}:plT c = true → parK c 3 = some p → Has G a p.2 → Has G (.right p.1 a) c
 | case {G:List Str} {a b b':Tm} {c r:Str} {p:Str × Str}:parK c 3 = some p → Has G a c → Has (G ++ [p.1]) b r → Has (G ++ [p.2]) b' r → Has G (.case a b b') r
 | abort {G:List Str} {a:Tm} {c:Str}:plT c = true → Has G a Fm.fls.body → Has G (.abort c a) c
theorem Has.of {G:List Str} {t:Tm} {r r':Str} (h:Has G t r) (e:r = r'):Has G t r':=e ▸ h
/-! ### Raised -/
def Tm.raise (k d:Nat):Tm → Tm
 | var n=>var (if k ≤ n then n + d else n)
 | lam t b=>lam t (b.raise k d)
 | app f x=>app (f.raise k d) (x.raise k d)
 | pair a b=>pair (a.raise k d) (b.raise k d)
 | fst a=>fst (a.raise k d)
 | snd a=>snd (a.raise k d)
 | left t a=>left t (a.raise k d)
 | right t a=>right t (a.raise k d)
 | case a b c=>case (a.raise k d) (b.raise k d) (c.raise k d)
 | abort t a=>abort t (a.raise k d)
theorem G7 {P Q:List Str} {k:Nat} (hk:k < Q.length):gt (P ++ Q) (P.length + k) = gt Q k:=by
 rw [gt_eq (by rw [List.length_append];omega),gt_eq hk,List.getElem_append_right (by omega)]
 simp
theorem DR {P Q:List Str} {k:Nat} (hk:k < P.length):gt (P ++ Q) k = gt P k:=by
 rw [gt_eq (by rw [List.length_append];omega),gt_eq hk,List.getElem_append_left hk]
theorem T8 {G X:List Str} {t:Tm} {r:Str}:∀ {D:List Str},Has (G ++ D) t r → Has (G ++ X ++ D) (t.raise G.length X.length) r:=by
 intro D h
 generalize hE:G ++ D = E at h
 induction h generalizing D with
 | @var E n hn=>
  subst hE
  rw [List.length_append] at hn
  rw [Tm.raise]
  by_cases hk:G.length ≤ n
  ·rw [if_pos hk]
   have e:gt (G ++ D) n = gt (G ++ X ++ D) (n + X.length):=by
    obtain ⟨m,rfl⟩:=Nat.exists_eq_add_of_le hk
    rw [G7 (by omega),show G.length + m + X.length = (G ++ X).length + m by rw [List.length_append];omega,G7 (by omega)]
   rw [e]
   exact .var (by rw [List.length_append,List.length_append];omega)
  ·rw [if_neg hk]
   have e:gt (G ++ D) n = gt (G ++ X ++ D) n:=by
    rw [DR (by omega),List.append_assoc,DR (by omega)]
   rw [e]
   exact .var (by rw [List.length_append,List.length_append];omega)
 | lam hp hk _ ih=>
  subst hE
  refine .lam hp hk ?_
  rw [List.append_assoc]
  exact ih (List.append_assoc _ _ _).symm
 | app hk _ _ ih1 ih2=>exact .app hk (ih1 hE) (ih2 hE)
 | pair hp hk _ _ ih1 ih2=>exact .pair hp hk (ih1 hE) (ih2 hE)
 | fst hk _ ih=>exact .fst hk (ih hE)
 | snd hk _ ih=>exact .snd hk (ih hE)
 | left hp hk _ ih=>exact .left hp hk (ih hE)
 | right hp hk _ ih=>exact .right hp hk (ih hE)
 | case hk _ _ _ ih1 ih2 ih3=>
  subst hE
  refine .case hk (ih1 rfl) ?_ ?_
  ·rw [List.append_assoc]
   exact ih2 (List.append_assoc _ _ _).symm
  ·rw [List.append_assoc]
   exact ih3 (List.append_assoc _ _ _).symm
 | abort hp _ ih=>exact .abort hp (ih hE)
/-! ### Carried -/
def Tm.mapN (f:Nat → Nat → Tm):Nat → Tm → Tm
 | n,var v=>f v n
 | n,lam t b=>lam t (b.mapN f (n + 1))
 | n,app a b=>app (a.mapN f n) (b.mapN f n)
 | n,pair a b=>pair (a.mapN f n) (b.mapN f n)
 | n,fst a=>fst (a.mapN f n)
 | n,snd a=>snd (a.mapN f n)
 | n,left t a=>left t (a.mapN f n)
 | n,right t a=>right t (a.mapN f n)
 | n,case a b c=>case (a.mapN f n) (b.mapN f (n + 1)) (c.mapN f (n + 1))
 | n,abort t a=>abort t (a.mapN f n)
def posT (L:List Str) (t:Str):Nat:=L.idxOf t
theorem vB {L:List Str} {t:Str} (h:t ∈ L):posT L t < L.length:=List.idxOf_lt_length_iff.2 h
theorem BN {L:List Str} {t:Str} (h:t ∈ L):gt L (posT L t) = t:=by
 rw [gt_eq (vB h)]
 exact List.getElem_idxOf (vB h)
def carF (from_ left:List Str) (more:Nat) (given:Str → Tm) (v n:Nat):Tm:=
 if from_.length ≤ v then .var (v - from_.length + (left.length + more))
 else if gt from_ v ∈ left then .var (posT left (gt from_ v))
 else (given (gt from_ v)).raise (left.length + more) (n - from_.length)
def carry (from_ left:List Str) (more:Nat) (given:Str → Tm) (t:Tm):Tm:=t.mapN (carF from_ left more given) from_.length
theorem SP {from_ left M:List Str} {given:Str → Tm} (hg:∀ a ∈ from_,¬ a ∈ left → Has (left ++ M) (given a) a) {t:Tm} {r:Str}:∀ {B:List Str},Has (from_ ++ B) t r → Has (left ++ M ++ B) (t.mapN (carF from_ left M.length given) (from_.length + B.length)) r:=by
 intro B h
 generalize hE:from_ ++ B = E at h
 have step:∀ {B:List Str} {x:Str},from_.length + B.length + 1 = from_.length + (B ++ [x]).length:=fun {B x}=>by rw [List.length_append,List.length_singleton];omega
 induction h generalizing B with
 | @var E n hn=>
  subst hE
  rw [List.length_append] at hn
  rw [Tm.mapN]
  unfold carF
  by_cases hk:from_.length ≤ n
  ·rw [if_pos hk]
   obtain ⟨m,rfl⟩:=Nat.exists_eq_add_of_le hk
   rw [G7 (by omega),show from_.length + m - from_.length + (left.length + M.length) = (left ++ M).length + m by rw [List.length_append];omega]
   rw [← G7 (P:=left ++ M) (Q:=B) (by omega)]
   exact .var (by simp only [List.length_append];omega)
  ·rw [if_neg hk,DR (by omega)]
   by_cases hm:gt from_ n ∈ left
   ·rw [if_pos hm]
    have h1:=vB hm
    have e:gt (left ++ M ++ B) (posT left (gt from_ n)) = gt from_ n:=by
     rw [List.append_assoc,DR h1,BN hm]
    exact (Has.var (G:=left ++ M ++ B) (by rw [List.length_append,List.length_append];omega)).of e
   ·rw [if_neg hm]
    have h1:=hg (gt from_ n) (by rw [gt_eq (by omega)];exact List.getElem_mem _) hm
    have h2:=T8 (G:=left ++ M) (X:=B) (D:=[]) (by rw [List.append_nil];exact h1)
    rw [List.append_nil,List.length_append] at h2
    rw [Nat.add_sub_cancel_left]
    exact h2
 | lam hp hk _ ih=>
  subst hE
  refine .lam hp hk ?_
  rw [List.append_assoc,step]
  exact ih (List.append_assoc _ _ _).symm
 | app hk _ _ ih1 ih2=>exact .app hk (ih1 hE) (ih2 hE)
 | pair hp hk _ _ ih1 ih2=>exact .pair hp hk (ih1 hE) (ih2 hE)
 | fst hk _ ih=>exact .fst hk (ih hE)
 | snd hk _ ih=>exact .snd hk (ih hE)
 | left hp hk _ ih=>exact .left hp hk (ih hE)
 | right hp hk _ ih=>exact .right hp hk (ih hE)
 | case hk _ _ _ ih1 ih2 ih3=>
  subst hE
  refine .case hk (ih1 rfl) ?_ ?_
  ·rw [List.append_assoc,step]
   exact ih2 (List.append_assoc _ _ _).symm
  ·rw [List.append_assoc,step]
   exact ih3 (List.append_assoc _ _ _).symm
 | abort hp _ ih=>exact .abort hp (ih hE)
theorem OA {from_ left M:List Str} {given:Str → Tm} (hg:∀ a ∈ from_,¬ a ∈ left → Has (left ++ M) (given a) a) {t:Tm} {r:Str} (h:Has from_ t r):Has (left ++ M) (carry from_ left M.length given t) r:=by
 have:=SP hg (B:=[]) (by rw [List.append_nil];exact h)
 rw [List.append_nil] at this
 exact this
/-! ### How deep it binds -/
def Tm.dpw (g:Nat → Nat):Tm → Nat
 | var n=>g n
 | lam _ b=>1 + b.dpw g
 | app f x=>max (f.dpw g) (x.dpw g)
 | pair a b=>max (a.dpw g) (b.dpw g)
 | fst a=>a.dpw g
 | snd a=>a.dpw g
 | left _ a=>a.dpw g
 | right _ a=>a.dpw g
 | case a b c=>max (a.dpw g) (1 + max (b.dpw g) (c.dpw g))
 | abort _ a=>a.dpw g
theorem dJ {g:Nat → Nat} {k d:Nat} (hg:∀ i,k ≤ i → g i = 0):∀ t:Tm,(t.raise k d).dpw g = t.dpw g
 | .var n=>by
  rw [Tm.raise]
  by_cases h:k ≤ n
  ·rw [if_pos h];exact (hg _ (by omega)).trans (hg _ h).symm
  ·rw [if_neg h]
 | .lam _ b=>by rw [Tm.raise,Tm.dpw,Tm.dpw,dJ hg b]
 | .app a b=>by rw [Tm.raise,Tm.dpw,Tm.dpw,dJ hg a,dJ hg b]
 | .pair a b=>by rw [Tm.raise,Tm.dpw,Tm.dpw,dJ hg a,dJ hg b]
 | .fst a=>by rw [Tm.raise,Tm.dpw,Tm.dpw,dJ hg a]
 | .snd a=>by rw [Tm.raise,Tm.dpw,Tm.dpw,dJ hg a]
 | .left _ a=>by rw [Tm.raise,Tm.dpw,Tm.dpw,dJ hg a]
 | .right _ a=>by rw [Tm.raise,Tm.dpw,Tm.dpw,dJ hg a]
 | .case a b c=>by rw [Tm.raise,Tm.dpw,Tm.dpw,dJ hg a,dJ hg b,dJ hg c]
 | .abort _ a=>by rw [Tm.raise,Tm.dpw,Tm.dpw,dJ hg a]
theorem eB {g g':Nat → Nat} {f:Nat → Nat → Tm} (h:∀ v n,(f v n).dpw g' = g v):∀ (t:Tm) (n:Nat),(t.mapN f n).dpw g' = t.dpw g
 | .var v,n=>h v n
 | .lam _ b,n=>by rw [Tm.mapN,Tm.dpw,Tm.dpw,eB h b]
 | .app a b,n=>by rw [Tm.mapN,Tm.dpw,Tm.dpw,eB h a,eB h b]
 | .pair a b,n=>by rw [Tm.mapN,Tm.dpw,Tm.dpw,eB h a,eB h b]
 | .fst a,n=>by rw [Tm.mapN,Tm.dpw,Tm.dpw,eB h a]
 | .snd a,n=>by rw [Tm.mapN,Tm.dpw,Tm.dpw,eB h a]
 | .left _ a,n=>by rw [Tm.mapN,Tm.dpw,Tm.dpw,eB h a]
 | .right _ a,n=>by rw [Tm.mapN,Tm.dpw,Tm.dpw,eB h a]
 | .case a b c,n=>by rw [Tm.mapN,Tm.dpw,Tm.dpw,eB h a,eB h b,eB h c]
 | .abort _ a,n=>by rw [Tm.mapN,Tm.dpw,Tm.dpw,eB h a]
def carW (from_ left:List Str) (given:Str → Tm) (g:Nat → Nat) (v:Nat):Nat:=
 if from_.length ≤ v then 0 else if gt from_ v ∈ left then g (posT left (gt from_ v)) else (given (gt from_ v)).dpw g
theorem oT {from_ left:List Str} {more:Nat} {given:Str → Tm} {g:Nat → Nat} (hg:∀ i,left.length + more ≤ i → g i = 0) (t:Tm):(carry from_ left more given t).dpw g = t.dpw (carW from_ left given g):=by
 refine eB (fun v n=>?_) t _
 unfold carF carW
 by_cases h1:from_.length ≤ v
 ·rw [if_pos h1,if_pos h1];exact hg _ (by omega)
 ·rw [if_neg h1,if_neg h1]
  by_cases h2:gt from_ v ∈ left
  ·rw [if_pos h2,if_pos h2];rfl
  ·rw [if_neg h2,if_neg h2];exact dJ hg _
abbrev Tm.dp (t:Tm):Nat:=t.dpw fun _=>0
end Go.Vc

namespace Go.Vc
/-! ### Parts of plain texts -/
theorem sY (b:Bool) (s:Str):s.length ≤ (par b s).length:=by
 unfold par
 split
 ·simp only [List.length_cons,List.length_append,List.length_nil];omega
 ·exact Nat.le_refl _
theorem UW {f g:Fm} (h:g ∈ f.kids):g.body.length ≤ f.body.length:=by
 cases f with
 | var v=>cases h
 | fls=>cases h
 | and a b=>
  simp only [Fm.kids,List.mem_cons,List.not_mem_nil,or_false] at h
  have h1:=sY (decide (a.own < 2)) a.body
  have h2:=sY (decide (b.own < 3)) b.body
  simp only [Fm.body,List.length_append,List.length_cons]
  rcases h with rfl | rfl <;> omega
 | or a b=>
  simp only [Fm.kids,List.mem_cons,List.not_mem_nil,or_false] at h
  have h1:=sY (decide (a.own < 1)) a.body
  have h2:=sY (decide (b.own < 2)) b.body
  simp only [Fm.body,List.length_append,List.length_cons]
  rcases h with rfl | rfl <;> omega
 | imp a b=>
  simp only [Fm.kids,List.mem_cons,List.not_mem_nil,or_false] at h
  have h1:=sY (decide (a.own < 1)) a.body
  have h2:=sY (decide (a.own < 3)) a.body
  rw [Fm.body]
  by_cases hb:b = .fls
  ·rw [if_pos hb]
   by_cases ha:a = .fls
   ·rw [if_pos ha]
    rcases h with rfl | rfl
    ·rw [ha];exact Nat.le_refl _
    ·rw [hb];exact Nat.le_refl _
   ·rw [if_neg ha]
    simp only [List.length_cons]
    rcases h with rfl | rfl
    ·omega
    ·rw [hb];simp [Fm.body]
  ·rw [if_neg hb]
   simp only [List.length_append,List.length_cons]
   rcases h with rfl | rfl <;> omega
 | box a=>
  simp only [Fm.kids,List.mem_cons,List.not_mem_nil,or_false] at h
  subst h
  have h1:=sY (decide (g.own < 3)) g.body
  simp only [Fm.body,List.length_cons];omega
 | dia a=>
  simp only [Fm.kids,List.mem_cons,List.not_mem_nil,or_false] at h
  subst h
  have h1:=sY (decide (g.own < 3)) g.body
  simp only [Fm.body,List.length_cons];omega
theorem P2 {a:Fm} (hg:a.good) (hp:a.plain = true) (hs:a.size ≤ 40) (hl:a.body.length ≤ 200):plT a.body = true:=by
 have e:rd a.body = (a,([],false)):=CM hg
 unfold plT goodT pCode
 rw [if_neg (by omega),if_pos (by unfold rdOk;rw [e];rfl),show (rd a.body).1 = a by rw [e],if_neg (by omega),gL hg,hp]
 simp
theorem S3 {f g:Fm} (h:g ∈ f.kids) (hp:f.plain = true):g.plain = true:=by
 cases f <;> simp only [Fm.kids,List.mem_cons,List.not_mem_nil,or_false] at h <;> simp only [Fm.plain,Bool.and_eq_true,Bool.false_eq_true] at hp
 all_goals first
  | (rcases h with rfl | rfl;exact hp.1;exact hp.2)
  | (subst h;exact hp)
theorem MZ {t:Str} {g:Fm} (h:plT t = true) (hk:g ∈ (fT t).kids):plT g.body = true:=by
 obtain ⟨-,h1,h2,h3,h4⟩:=dY h
 obtain ⟨a1,a2,-⟩:=bL h4
 have hb:=UW hk
 rw [h3] at hb
 refine P2 (cE h1 g hk) (S3 hk h2) ?_ (by omega)
 have:g.size ≤ (fT t).size:=Nat.le_of_lt (lY g hk)
 have e:(rd t).1.size ≤ 40:=a1
 exact Nat.le_trans this e
theorem bV {t:Str} {k:Nat} {p:Str × Str} (h:plT t = true) (hp:parK t k = some p):plT p.1 = true ∧ plT p.2 = true:=by
 obtain ⟨-,x,y,hk,rfl⟩:=mA hp
 exact ⟨MZ h (by rw [hk];simp),MZ h (by rw [hk];simp)⟩
theorem DS {t:Str} {p:Str × Str} (h:parK t 2 = some p):∃ x y,fT t = .and x y ∧ p = (x.body,y.body):=by
 unfold parK at h
 cases e:fT t <;> rw [e] at h <;> simp at h
 exact ⟨_,_,rfl,h.symm⟩
theorem p0 {t:Str} {p:Str × Str} (h:parK t 3 = some p):∃ x y,fT t = .or x y ∧ p = (x.body,y.body):=by
 unfold parK at h
 cases e:fT t <;> rw [e] at h <;> simp at h
 exact ⟨_,_,rfl,h.symm⟩
theorem GP {t:Str} {p:Str × Str} (h:parK t 4 = some p):∃ x y,fT t = .imp x y ∧ p = (x.body,y.body):=by
 unfold parK at h
 cases e:fT t <;> rw [e] at h <;> simp at h
 exact ⟨_,_,rfl,h.symm⟩
/-! ### Good inferences, weakening and cut among them -/
def aJ (L:List Str) (r:Str) (rule:Nat) (main:Str):List Sq × Bool:=if rule = 11 then ([(L,main),(addT L main,r)],plT main) else bI L r rule main
def seqAt (P:List Inf) (q:Nat):Sq:=((gt P q).left,(gt P q).right)
structure GoodC (P:List Inf) (k:Nat):Prop where
 prem:∀ q ∈ (gt P k).prem,q < k
 inc:Inc (gt P k).left
 left:∀ t ∈ (gt P k).left,plT t = true
 right:plT (gt P k).right = true
 rule:((gt P k).rule = 10 ∧ (gt P k).main = [] ∧ ∃ q,(gt P k).prem = [q] ∧ (gt P q).right = (gt P k).right ∧ ∀ t ∈ (gt P q).left,t ∈ (gt P k).left) ∨
  (1 ≤ (gt P k).rule ∧ (gt P k).rule ≤ 11 ∧ ¬ (gt P k).rule = 10 ∧ aJ (gt P k).left (gt P k).right (gt P k).rule (gt P k).main = ((gt P k).prem.map (seqAt P),true))
theorem GoodC.app {P Q:List Inf} {k:Nat} (h:GoodC P k) (hk:k < P.length):GoodC (P ++ Q) k:=by
 have e:=B1 (Q:=Q) hk
 have ep:∀ q ∈ (gt P k).prem,gt (P ++ Q) q = gt P q:=fun q hq=>B1 (by have:=h.prem q hq;omega)
 refine ⟨by rw [e];exact h.prem,by rw [e];exact h.inc,by rw [e];exact h.left,by rw [e];exact h.right,?_⟩
 rw [e]
 rcases h.rule with ⟨h1,h2,q,h3,h4,h5⟩ | ⟨h1,h2,h3,h4⟩
 ·exact .inl ⟨h1,h2,q,h3,by rw [ep q (by rw [h3];simp)];exact h4,by rw [ep q (by rw [h3];simp)];exact h5⟩
 ·refine .inr ⟨h1,h2,h3,?_⟩
  rw [h4]
  congr 1
  exact List.map_congr_left fun q hq=>by unfold seqAt;rw [ep q hq]
end Go.Vc

namespace Go.Vc
theorem RW {P Q:List Inf} {k:Nat} (hk:k < Q.length):gt (P ++ Q) (P.length + k) = gt Q k:=by
 rw [gt_eq (by rw [List.length_append];omega),gt_eq hk,List.getElem_append_right (by omega)]
 simp
theorem mkC {R:List Inf} {i:Nat} {x:Inf} (e:gt R i = x) (hp:∀ q ∈ x.prem,q < i) (hi:Inc x.left) (hl:∀ t ∈ x.left,plT t = true) (hr:plT x.right = true)
  (h:(x.rule = 10 ∧ x.main = [] ∧ ∃ q,x.prem = [q] ∧ (seqAt R q).2 = x.right ∧ ∀ t ∈ (seqAt R q).1,t ∈ x.left) ∨ (1 ≤ x.rule ∧ x.rule ≤ 11 ∧ ¬ x.rule = 10 ∧ aJ x.left x.right x.rule x.main = (x.prem.map (seqAt R),true))):GoodC R i:=by
 subst e
 exact ⟨hp,hi,hl,hr,h⟩
theorem gC1 {L:List Str} {r:Str} (h:r ∈ L):aJ L r 1 [] = ([],true):=by simp [aJ,bI,h]
theorem gC2 {L:List Str} {r:Str} (h:Fm.fls.body ∈ L):aJ L r 2 [] = ([],true):=by simp [aJ,bI,h]
theorem gC3 {L:List Str} {r a:Str} {x y:Fm} (h:a ∈ L) (e:fT a = .and x y):aJ L r 3 a = ([(setT (L ++ [x.body,y.body]),r)],true):=by simp [aJ,bI,leftG,h,e]
theorem gC4 {L:List Str} {r:Str} {x y:Fm} (e:fT r = .and x y):aJ L r 4 [] = ([(L,x.body),(L,y.body)],true):=by simp [aJ,bI,bK,e]
theorem gC5 {L:List Str} {r a:Str} {x y:Fm} (h:a ∈ L) (e:fT a = .or x y):aJ L r 5 a = ([(addT L x.body,r),(addT L y.body,r)],true):=by simp [aJ,bI,leftG,h,e]
theorem gC6 {L:List Str} {r:Str} {x y:Fm} (e:fT r = .or x y):aJ L r 6 [] = ([(L,x.body)],true):=by simp [aJ,bI,bK,e]
theorem gC7 {L:List Str} {r:Str} {x y:Fm} (e:fT r = .or x y):aJ L r 7 [] = ([(L,y.body)],true):=by simp [aJ,bI,bK,e]
theorem gC8 {L:List Str} {r a:Str} {x y:Fm} (h:a ∈ L) (e:fT a = .imp x y):aJ L r 8 a = ([(L,x.body),(addT L y.body,r)],true):=by simp [aJ,bI,leftG,h,e]
theorem gC9 {L:List Str} {r:Str} {x y:Fm} (e:fT r = .imp x y):aJ L r 9 [] = ([(addT L x.body,y.body)],true):=by simp [aJ,bI,bK,e]
theorem gC11 {L:List Str} {r a:Str} (h:plT a = true):aJ L r 11 a = ([(L,a),(addT L a,r)],true):=by simp [aJ,h]
theorem TS (A:List Str) (t:Str):addT (setT A) t = setT (A ++ [t]):=BB (gV _) (gV _) fun u=>by
 rw [bB,cP,cP]
 simp
theorem incA (L:List Str) (t:Str):Inc (addT L t):=gV _
theorem RZ:plT Fm.fls.body = true:=P2 (a:=.fls) trivial rfl (by decide) (by decide)
theorem ST {P:List Ded} {s:Ded} {Q:List Inf} {at_:List Nat} {M:List Inf} (hrf:RF P s) (hasm:∀ t ∈ s.asm,plT t = true) (hcon:plT s.con = true) (hpc:∀ q ∈ s.prem,plT (gt P q.toNat).con = true)
  (hg:∀ q ∈ s.prem,gt at_ q.toNat < Q.length ∧ seqAt Q (gt at_ q.toNat) = (setT (gt P q.toNat).asm,(gt P q.toNat).con))
  (hM:makeD Q.length s (s.prem.map fun j=>gt at_ j.toNat) (gt P (gt s.prem 0).toNat).con = M):
  1 ≤ M.length ∧ (∀ m,m < M.length → GoodC (Q ++ M) (Q.length + m)) ∧ seqAt (Q ++ M) (Q.length + M.length - 1) = (setT s.asm,s.con):=by
 have eN:∀ {m:Nat},m < M.length → gt (Q ++ M) (Q.length + m) = gt M m:=fun h=>RW h
 have sN:∀ {m:Nat},m < M.length → seqAt (Q ++ M) (Q.length + m) = ((gt M m).left,(gt M m).right):=fun h=>by unfold seqAt;rw [eN h]
 have sQ:∀ q ∈ s.prem,gt at_ q.toNat < Q.length ∧ seqAt (Q ++ M) (gt at_ q.toNat) = (setT (gt P q.toNat).asm,(gt P q.toNat).con):=fun q hq=>by
  obtain ⟨h1,h2⟩:=hg q hq
  refine ⟨h1,?_⟩
  rw [← h2];unfold seqAt;rw [B1 h1]
 have hL:∀ t ∈ setT s.asm,plT t = true:=fun t ht=>hasm t (cP.1 ht)
 have hI:Inc (setT s.asm):=gV _
 have add:∀ {L:List Str} {t:Str},(∀ u ∈ L,plT u = true) → plT t = true → ∀ u ∈ addT L t,plT u = true:=fun h1 h2 u hu=>(bB.1 hu).elim (h1 u) fun e=>e ▸ h2
 -- one inference
 have one:∀ {x:Inf},M = [x] → x.left = setT s.asm → x.right = s.con → (∀ q ∈ x.prem,q < Q.length) → aJ x.left x.right x.rule x.main = (x.prem.map (seqAt (Q ++ M)),true) → 1 ≤ x.rule → x.rule ≤ 9 → 1 ≤ M.length ∧ (∀ m,m < M.length → GoodC (Q ++ M) (Q.length + m)) ∧ seqAt (Q ++ M) (Q.length + M.length - 1) = (setT s.asm,s.con):=fun {x} e1 e2 e3 hp hgo h1 h9=>by
  have hl:M.length = 1:=by rw [e1];rfl
  have g0:gt M 0 = x:=by rw [e1];rfl
  refine ⟨by omega,fun m hm=>?_,?_⟩
  ·have:m = 0:=by omega
   subst this
   exact mkC ((eN hm).trans g0) (fun q hq=>by have:=hp q hq;omega) (by rw [e2];exact hI) (by rw [e2];exact hL) (by rw [e3];exact hcon) (.inr ⟨h1,by omega,by omega,hgo⟩)
  ·rw [hl,show Q.length + 1 - 1 = Q.length + 0 by omega,sN (by omega),g0,e2,e3]
 have cut:∀ {n:Nat} {a:Str} {q:Int},n + 2 = M.length → gt M (n + 1) = ⟨11,[gt at_ q.toNat,Q.length + n],setT s.asm,s.con,a⟩ → q ∈ s.prem → (gt P q.toNat).asm = s.asm → (gt P q.toNat).con = a → plT a = true → (gt M n).left = addT (setT s.asm) a → (gt M n).right = s.con →
   GoodC (Q ++ M) (Q.length + (n + 1)) ∧ seqAt (Q ++ M) (Q.length + M.length - 1) = (setT s.asm,s.con):=fun {n a q} e1 e2 hq h1 h2 h3 h4 h5=>by
  obtain ⟨a1,a2⟩:=sQ q hq
  refine ⟨mkC ((eN (by omega)).trans e2) (fun u hu=>?_) hI hL hcon (.inr ⟨by simp,by simp,by simp,?_⟩),?_⟩
  ·simp only [List.mem_cons,List.not_mem_nil,or_false] at hu
   rcases hu with rfl | rfl <;> omega
  ·show aJ (setT s.asm) s.con 11 a = ([seqAt (Q ++ M) (gt at_ q.toNat),seqAt (Q ++ M) (Q.length + n)],true)
   rw [gC11 h3,a2,sN (by omega),h1,h2,h4,h5]
  ·rw [show Q.length + M.length - 1 = Q.length + (n + 1) by omega,sN (by omega),e2]
 have weak:∀ {n:Nat} {W:List Str} {c:Str} {q:Int},n < M.length → gt M n = ⟨10,[gt at_ q.toNat],W,c,[]⟩ → q ∈ s.prem → Inc W → (∀ t ∈ W,plT t = true) → (gt P q.toNat).con = c → (∀ t ∈ (gt P q.toNat).asm,t ∈ W) → GoodC (Q ++ M) (Q.length + n):=fun {n W c q} hn e2 hq h1 h2 h3 h4=>by
  obtain ⟨a1,a2⟩:=sQ q hq
  refine mkC ((eN hn).trans e2) (fun u hu=>?_) h1 h2 (by rw [← h3];exact hpc q hq) (.inl ⟨rfl,rfl,_,rfl,?_,fun t ht=>?_⟩)
  ·rw [List.mem_singleton.1 hu];omega
  ·rw [a2];exact h3
  ·rw [a2] at ht
   exact h4 t (cP.1 ht)
 have inW:∀ {a t:Str},t ∈ s.asm → t ∈ addT (setT s.asm) a:=fun h=>bB.2 (.inl (cP.2 h))
 have both:∀ (q:Int) (x y:Fm),s.rule = 4 ∨ s.rule = 5 → s.prem = [q] → (gt P q.toNat).asm = s.asm → parK (gt P q.toNat).con 2 = some (x.body,y.body) → fT (gt P q.toNat).con = .and x y → plT x.body = true → plT y.body = true → x.body = s.con ∨ y.body = s.con →
   1 ≤ M.length ∧ (∀ m,m < M.length → GoodC (Q ++ M) (Q.length + m)) ∧ seqAt (Q ++ M) (Q.length + M.length - 1) = (setT s.asm,s.con):=fun q x y e ep ea hp ef px py hc=>by
  have hpa:plT (gt P q.toNat).con = true:=hpc q (by rw [ep];simp)
  generalize ha:(gt P q.toNat).con = a at *
  have hM':M = [⟨1,[],setT (addT (setT s.asm) a ++ [x.body,y.body]),s.con,[]⟩,⟨3,[Q.length],addT (setT s.asm) a,s.con,a⟩,⟨11,[gt at_ q.toNat,Q.length + 1],setT s.asm,s.con,a⟩]:=by
   rw [← hM,ep,show (gt P (gt [q] 0).toNat).con = a from ha]
   unfold makeD
   rw [if_neg (by omega),if_neg (by omega),if_neg (by omega),if_pos e,hp];rfl
  have hl:M.length = 3:=by rw [hM'];rfl
  obtain ⟨c1,c2⟩:=cut (n:=1) (a:=a) (q:=q) (by omega) (by rw [hM'];rfl) (by rw [ep];simp) ea ha hpa (by rw [hM'];rfl) (by rw [hM'];rfl)
  refine ⟨by omega,fun m hm=>?_,c2⟩
  match m,hm with
  | 0,hm=>
   refine mkC (x:=⟨1,[],setT (addT (setT s.asm) a ++ [x.body,y.body]),s.con,[]⟩) ((eN hm).trans (by rw [hM'];rfl)) (fun u hu=>by cases hu) (gV _) (fun t ht=>?_) hcon (.inr ⟨by simp,by simp,by simp,gC1 (cP.2 ?_)⟩)
   ·rcases List.mem_append.1 (cP.1 ht) with ht | ht
    ·exact add hL hpa t ht
    ·simp only [List.mem_cons,List.not_mem_nil,or_false] at ht
     rcases ht with rfl | rfl
     ·exact px
     ·exact py
   ·rcases hc with hc | hc <;> rw [← hc] <;> simp
  | 1,hm=>
   refine mkC (x:=⟨3,[Q.length],addT (setT s.asm) a,s.con,a⟩) ((eN hm).trans (by rw [hM'];rfl)) (fun u hu=>?_) (incA _ _) (add hL hpa) hcon (.inr ⟨by simp,by simp,by simp,?_⟩)
   ·rw [List.mem_singleton.1 hu];omega
   ·show aJ (addT (setT s.asm) a) s.con 3 a = ([seqAt (Q ++ M) (Q.length + 0)],true)
    rw [gC3 (bB.2 (.inr rfl)) ef,sN (by omega),hM'];rfl
  | 2,_=>exact c1
  | m + 3,hm=>omega
 cases hrf with
 | r1 e ep h1 h2 h3=>
  refine one (x:=⟨1,[],setT s.asm,s.con,[]⟩) (by rw [← hM];unfold makeD;rw [if_pos e]) rfl rfl (fun q hq=>by cases hq) (gC1 (cP.2 ?_)) (by simp) (by simp)
  rw [← h3]
  rw [gt_eq (by omega)];exact List.getElem_mem _
 | r3 q q' p e ep hp j1 j2=>
  obtain ⟨x,y,ef,rfl⟩:=DS hp
  obtain ⟨a1,a2⟩:=sQ q (by rw [ep];simp)
  obtain ⟨b1,b2⟩:=sQ q' (by rw [ep];simp)
  refine one (x:=⟨4,[gt at_ q.toNat,gt at_ q'.toNat],setT s.asm,s.con,[]⟩) (by rw [← hM,ep];unfold makeD;rw [if_neg (by omega),if_neg (by omega),if_pos e];rfl) rfl rfl (fun u hu=>by simp at hu;omega) ?_ (by simp) (by simp)
  rw [show aJ (setT s.asm) s.con 4 [] = _ from gC4 ef]
  show _ = ([seqAt (Q ++ M) (gt at_ q.toNat),seqAt (Q ++ M) (gt at_ q'.toNat)],true)
  rw [a2,b2,show (gt P q.toNat).asm = s.asm from congrArg Prod.fst j1,show (gt P q'.toNat).asm = s.asm from congrArg Prod.fst j2,show (gt P q.toNat).con = x.body from congrArg Prod.snd j1,show (gt P q'.toNat).con = y.body from congrArg Prod.snd j2]
 | r6 q p e ep hp j1=>
  obtain ⟨x,y,ef,rfl⟩:=p0 hp
  obtain ⟨a1,a2⟩:=sQ q (by rw [ep];simp)
  refine one (x:=⟨6,[gt at_ q.toNat],setT s.asm,s.con,[]⟩) (by rw [← hM,ep];unfold makeD;rw [if_neg (by omega),if_neg (by omega),if_neg (by omega),if_neg (by omega),if_pos e];rfl) rfl rfl (fun u hu=>by simp at hu;omega) ?_ (by simp) (by simp)
  rw [show aJ (setT s.asm) s.con 6 [] = _ from gC6 ef]
  show _ = ([seqAt (Q ++ M) (gt at_ q.toNat)],true)
  rw [a2,show (gt P q.toNat).asm = s.asm from congrArg Prod.fst j1,show (gt P q.toNat).con = x.body from congrArg Prod.snd j1]
 | r7 q p e ep hp j1=>
  obtain ⟨x,y,ef,rfl⟩:=p0 hp
  obtain ⟨a1,a2⟩:=sQ q (by rw [ep];simp)
  refine one (x:=⟨7,[gt at_ q.toNat],setT s.asm,s.con,[]⟩) (by rw [← hM,ep];unfold makeD;rw [if_neg (by omega),if_neg (by omega),if_neg (by omega),if_neg (by omega),if_neg (by omega),if_pos e];rfl) rfl rfl (fun u hu=>by simp at hu;omega) ?_ (by simp) (by simp)
  rw [show aJ (setT s.asm) s.con 7 [] = _ from gC7 ef]
  show _ = ([seqAt (Q ++ M) (gt at_ q.toNat)],true)
  rw [a2,show (gt P q.toNat).asm = s.asm from congrArg Prod.fst j1,show (gt P q.toNat).con = y.body from congrArg Prod.snd j1]
 | r9 q p e ep hp j1=>
  obtain ⟨x,y,ef,rfl⟩:=GP hp
  obtain ⟨a1,a2⟩:=sQ q (by rw [ep];simp)
  refine one (x:=⟨9,[gt at_ q.toNat],setT s.asm,s.con,[]⟩) (by rw [← hM,ep];unfold makeD;rw [if_neg (by omega),if_neg (by omega),if_neg (by omega),if_neg (by omega),if_neg (by omega),if_neg (by omega),if_neg (by omega),if_pos e];rfl) rfl rfl (fun u hu=>by simp at hu;omega) ?_ (by simp) (by simp)
  rw [show aJ (setT s.asm) s.con 9 [] = _ from gC9 ef]
  show _ = ([seqAt (Q ++ M) (gt at_ q.toNat)],true)
  rw [a2,show (gt P q.toNat).asm = s.asm ++ [x.body] from congrArg Prod.fst j1,show (gt P q.toNat).con = y.body from congrArg Prod.snd j1,TS]
 | r2 q e ep j1=>
  have hM':M = [⟨2,[],addT (setT s.asm) Fm.fls.body,s.con,[]⟩,⟨11,[gt at_ q.toNat,Q.length],setT s.asm,s.con,Fm.fls.body⟩]:=by rw [← hM,ep];unfold makeD;rw [if_neg (by omega),if_pos e];rfl
  have hl:M.length = 2:=by rw [hM'];rfl
  obtain ⟨c1,c2⟩:=cut (n:=0) (a:=Fm.fls.body) (q:=q) (by omega) (by rw [hM'];rfl) (by rw [ep];simp) (congrArg Prod.fst j1) (congrArg Prod.snd j1) RZ (by rw [hM'];rfl) (by rw [hM'];rfl)
  refine ⟨by omega,fun m hm=>?_,c2⟩
  match m,hm with
  | 0,hm=>exact mkC (x:=⟨2,[],addT (setT s.asm) Fm.fls.body,s.con,[]⟩) ((eN hm).trans (by rw [hM'];rfl)) (fun u hu=>by cases hu) (incA _ _) (add hL RZ) hcon (.inr ⟨by simp,by simp,by simp,gC2 (bB.2 (.inr rfl))⟩)
  | 1,_=>exact c1
  | m + 2,hm=>omega
 | r4 q p e ep ea hp hc=>
  obtain ⟨x,y,ef,rfl⟩:=DS hp
  have hpa:plT (gt P q.toNat).con = true:=hpc q (by rw [ep];simp)
  obtain ⟨px,py⟩:=bV hpa hp
  exact both q x y (.inl e) ep ea hp ef px py (.inl hc)
 | r5 q p e ep ea hp hc=>
  obtain ⟨x,y,ef,rfl⟩:=DS hp
  have hpa:plT (gt P q.toNat).con = true:=hpc q (by rw [ep];simp)
  obtain ⟨px,py⟩:=bV hpa hp
  exact both q x y (.inr e) ep ea hp ef px py (.inr hc)
 | r8 q q' q'' p e ep ea hp j1 j2=>
  obtain ⟨x,y,ef,rfl⟩:=p0 hp
  have hpa:plT (gt P q.toNat).con = true:=hpc q (by rw [ep];simp)
  obtain ⟨px,py⟩:=bV hpa hp
  generalize ha:(gt P q.toNat).con = a at *
  have hM':M = [⟨10,[gt at_ q'.toNat],addT (addT (setT s.asm) a) x.body,s.con,[]⟩,⟨10,[gt at_ q''.toNat],addT (addT (setT s.asm) a) y.body,s.con,[]⟩,⟨5,[Q.length,Q.length + 1],addT (setT s.asm) a,s.con,a⟩,⟨11,[gt at_ q.toNat,Q.length + 2],setT s.asm,s.con,a⟩]:=by
   rw [← hM,ep,show (gt P (gt [q,q',q''] 0).toNat).con = a from ha]
   unfold makeD
   rw [if_neg (by omega),if_neg (by omega),if_neg (by omega),if_neg (by omega),if_neg (by omega),if_neg (by omega),if_pos e,hp];rfl
  have hl:M.length = 4:=by rw [hM'];rfl
  obtain ⟨c1,c2⟩:=cut (n:=2) (a:=a) (q:=q) (by omega) (by rw [hM'];rfl) (by rw [ep];simp) ea ha hpa (by rw [hM'];rfl) (by rw [hM'];rfl)
  refine ⟨by omega,fun m hm=>?_,c2⟩
  match m,hm with
  | 0,hm=>
   refine weak (n:=0) (q:=q') hm (by rw [hM'];rfl) (by rw [ep];simp) (incA _ _) (add (add hL hpa) px) (congrArg Prod.snd j1) fun t ht=>?_
   rw [show (gt P q'.toNat).asm = s.asm ++ [x.body] from congrArg Prod.fst j1] at ht
   exact bB.2 ((List.mem_append.1 ht).imp inW List.mem_singleton.1)
  | 1,hm=>
   refine weak (n:=1) (q:=q'') hm (by rw [hM'];rfl) (by rw [ep];simp) (incA _ _) (add (add hL hpa) py) (congrArg Prod.snd j2) fun t ht=>?_
   rw [show (gt P q''.toNat).asm = s.asm ++ [y.body] from congrArg Prod.fst j2] at ht
   exact bB.2 ((List.mem_append.1 ht).imp inW List.mem_singleton.1)
  | 2,hm=>
   refine mkC (x:=⟨5,[Q.length,Q.length + 1],addT (setT s.asm) a,s.con,a⟩) ((eN hm).trans (by rw [hM'];rfl)) (fun u hu=>?_) (incA _ _) (add hL hpa) hcon (.inr ⟨by simp,by simp,by simp,?_⟩)
   ·simp only [List.mem_cons,List.not_mem_nil,or_false] at hu
    rcases hu with rfl | rfl <;> omega
   ·show aJ (addT (setT s.asm) a) s.con 5 a = ([seqAt (Q ++ M) (Q.length + 0),seqAt (Q ++ M) (Q.length + 1)],true)
    rw [gC5 (bB.2 (.inr rfl)) ef,sN (by omega),sN (by omega),hM'];rfl
  | 3,_=>exact c1
  | m + 4,hm=>omega
 | r10 q q' p e ep ea hp hc j1=>
  obtain ⟨x,y,ef,rfl⟩:=GP hp
  have hpa:plT (gt P q.toNat).con = true:=hpc q (by rw [ep];simp)
  obtain ⟨px,py⟩:=bV hpa hp
  generalize ha:(gt P q.toNat).con = a at *
  have hM':M = [⟨10,[gt at_ q'.toNat],addT (setT s.asm) a,x.body,[]⟩,⟨1,[],addT (addT (setT s.asm) a) y.body,s.con,[]⟩,⟨8,[Q.length,Q.length + 1],addT (setT s.asm) a,s.con,a⟩,⟨11,[gt at_ q.toNat,Q.length + 2],setT s.asm,s.con,a⟩]:=by
   rw [← hM,ep,show (gt P (gt [q,q'] 0).toNat).con = a from ha]
   unfold makeD
   rw [if_neg (by omega),if_neg (by omega),if_neg (by omega),if_neg (by omega),if_neg (by omega),if_neg (by omega),if_neg (by omega),if_neg (by omega),hp];rfl
  have hl:M.length = 4:=by rw [hM'];rfl
  obtain ⟨c1,c2⟩:=cut (n:=2) (a:=a) (q:=q) (by omega) (by rw [hM'];rfl) (by rw [ep];simp) ea ha hpa (by rw [hM'];rfl) (by rw [hM'];rfl)
  refine ⟨by omega,fun m hm=>?_,c2⟩
  match m,hm with
  | 0,hm=>
   refine weak (n:=0) (q:=q') hm (by rw [hM'];rfl) (by rw [ep];simp) (incA _ _) (add hL hpa) (congrArg Prod.snd j1) fun t ht=>?_
   rw [show (gt P q'.toNat).asm = s.asm from congrArg Prod.fst j1] at ht
   exact inW ht
  | 1,hm=>
   refine mkC (x:=⟨1,[],addT (addT (setT s.asm) a) y.body,s.con,[]⟩) ((eN hm).trans (by rw [hM'];rfl)) (fun u hu=>by cases hu) (incA _ _) (add (add hL hpa) py) hcon (.inr ⟨by simp,by simp,by simp,gC1 (bB.2 (.inr ?_))⟩)
   exact hc.symm
  | 2,hm=>
   refine mkC (x:=⟨8,[Q.length,Q.length + 1],addT (setT s.asm) a,s.con,a⟩) ((eN hm).trans (by rw [hM'];rfl)) (fun u hu=>?_) (incA _ _) (add hL hpa) hcon (.inr ⟨by simp,by simp,by simp,?_⟩)
   ·simp only [List.mem_cons,List.not_mem_nil,or_false] at hu
    rcases hu with rfl | rfl <;> omega
   ·show aJ (addT (setT s.asm) a) s.con 8 a = ([seqAt (Q ++ M) (Q.length + 0),seqAt (Q ++ M) (Q.length + 1)],true)
    rw [gC8 (bB.2 (.inr rfl)) ef,sN (by omega),sN (by omega),hM'];rfl
  | 3,_=>exact c1
  | m + 4,hm=>omega
end Go.Vc

namespace Go.Vc
theorem yB {P:List Ded} (hall:∀ i,i < P.length → goodD P i = true):∀ k,k ≤ P.length → (∀ i,i < (seqD P k).1.length → GoodC (seqD P k).1 i) ∧ ∀ j,j < k → gt (seqD P k).2 j < (seqD P k).1.length ∧ seqAt (seqD P k).1 (gt (seqD P k).2 j) = (setT (gt P j).asm,(gt P j).con)
 | 0,_=>⟨fun i hi=>absurd hi (Nat.not_lt_zero i),fun j hj=>absurd hj (Nat.not_lt_zero j)⟩
 | k + 1,hk=>by
  obtain ⟨h1,h2⟩:=yB hall k (by omega)
  obtain ⟨hsh,hin,hrf⟩:=eP (hall k (by omega))
  obtain ⟨-,hasm,hcon⟩:=eQ hsh
  obtain ⟨-,hl2⟩:=rC P k
  have hq:∀ q ∈ (gt P k).prem,q.toNat < k:=fun q hq=>by
   obtain ⟨a,b⟩:=A3 hin hq
   omega
  obtain ⟨s1,s2,s3⟩:=ST (Q:=(seqD P k).1) (at_:=(seqD P k).2) hrf hasm hcon (fun q hm=>(eQ (eP (hall q.toNat (by have:=hq q hm;omega))).1).2.2) (fun q hm=>h2 q.toNat (hq q hm)) rfl
  rw [seqD]
  simp only
  generalize makeD (seqD P k).1.length (gt P k) ((gt P k).prem.map fun j=>gt (seqD P k).2 j.toNat) (gt P (gt (gt P k).prem 0).toNat).con = M at *
  refine ⟨fun i hi=>?_,fun j hj=>?_⟩
  ·by_cases hlt:i < (seqD P k).1.length
   ·exact (h1 i hlt).app hlt
   ·rw [List.length_append] at hi
    obtain ⟨m,rfl⟩:=Nat.exists_eq_add_of_le (Nat.le_of_not_lt hlt)
    exact s2 m (by omega)
  ·by_cases hlt:j < k
   ·have e:gt ((seqD P k).2 ++ [(seqD P k).1.length + M.length - 1]) j = gt (seqD P k).2 j:=by
     rw [gt_eq (by rw [List.length_append];omega),gt_eq (by omega),List.getElem_append_left (by omega)]
    obtain ⟨a,b⟩:=h2 j hlt
    rw [e]
    refine ⟨by rw [List.length_append];omega,?_⟩
    rw [← b];unfold seqAt;rw [B1 a]
   ·have:j = k:=by omega
    subst this
    have e:gt ((seqD P j).2 ++ [(seqD P j).1.length + M.length - 1]) j = (seqD P j).1.length + M.length - 1:=by
     rw [gt_eq (by rw [List.length_append,List.length_singleton];omega),List.getElem_append_right (by omega)]
     simp [hl2]
    rw [e]
    exact ⟨by rw [List.length_append];omega,s3⟩
/-! ### What a good inference is, by its rule -/
theorem inv1 {L:List Str} {r a:Str} {G:List Sq} (h:aJ L r 1 a = (G,true)):r ∈ L:=by
 simp [aJ,bI] at h
 exact h.2.2
theorem inv2 {L:List Str} {r a:Str} {G:List Sq} (h:aJ L r 2 a = (G,true)):Fm.fls.body ∈ L:=by
 simp [aJ,bI] at h
 exact h.2.2
theorem inv3 {L:List Str} {r a:Str} {G:List Sq} (h:aJ L r 3 a = (G,true)):a ∈ L ∧ ∃ x y,fT a = .and x y ∧ G = [(setT (L ++ [x.body,y.body]),r)]:=by
 have h:(if a ∈ L then leftG L r 3 (fT a) else ([],false)) = (G,true):=by simpa [aJ,bI] using h
 by_cases hm:a ∈ L
 ·rw [if_pos hm] at h
  cases e:fT a <;> rw [e] at h <;> simp [leftG] at h
  exact ⟨hm,_,_,rfl,h.symm⟩
 ·rw [if_neg hm] at h;cases h
theorem inv5 {L:List Str} {r a:Str} {G:List Sq} (h:aJ L r 5 a = (G,true)):a ∈ L ∧ ∃ x y,fT a = .or x y ∧ G = [(addT L x.body,r),(addT L y.body,r)]:=by
 have h:(if a ∈ L then leftG L r 5 (fT a) else ([],false)) = (G,true):=by simpa [aJ,bI] using h
 by_cases hm:a ∈ L
 ·rw [if_pos hm] at h
  cases e:fT a <;> rw [e] at h <;> simp [leftG] at h
  exact ⟨hm,_,_,rfl,h.symm⟩
 ·rw [if_neg hm] at h;cases h
theorem inv8 {L:List Str} {r a:Str} {G:List Sq} (h:aJ L r 8 a = (G,true)):a ∈ L ∧ ∃ x y,fT a = .imp x y ∧ G = [(L,x.body),(addT L y.body,r)]:=by
 have h:(if a ∈ L then leftG L r 8 (fT a) else ([],false)) = (G,true):=by simpa [aJ,bI] using h
 by_cases hm:a ∈ L
 ·rw [if_pos hm] at h
  cases e:fT a <;> rw [e] at h <;> simp [leftG] at h
  exact ⟨hm,_,_,rfl,h.symm⟩
 ·rw [if_neg hm] at h;cases h
theorem inv4 {L:List Str} {r a:Str} {G:List Sq} (h:aJ L r 4 a = (G,true)):∃ x y,fT r = .and x y ∧ G = [(L,x.body),(L,y.body)]:=by
 have h:((bK L 4 (fT r)).1,(bK L 4 (fT r)).2 && decide (a = [])) = (G,true):=by simpa [aJ,bI] using h
 cases e:fT r <;> rw [e] at h <;> simp [bK] at h
 exact ⟨_,_,rfl,h.1.symm⟩
theorem inv6 {L:List Str} {r a:Str} {G:List Sq} (h:aJ L r 6 a = (G,true)):∃ x y,fT r = .or x y ∧ G = [(L,x.body)]:=by
 have h:((bK L 6 (fT r)).1,(bK L 6 (fT r)).2 && decide (a = [])) = (G,true):=by simpa [aJ,bI] using h
 cases e:fT r <;> rw [e] at h <;> simp [bK] at h
 exact ⟨_,_,rfl,h.1.symm⟩
theorem inv7 {L:List Str} {r a:Str} {G:List Sq} (h:aJ L r 7 a = (G,true)):∃ x y,fT r = .or x y ∧ G = [(L,y.body)]:=by
 have h:((bK L 7 (fT r)).1,(bK L 7 (fT r)).2 && decide (a = [])) = (G,true):=by simpa [aJ,bI] using h
 cases e:fT r <;> rw [e] at h <;> simp [bK] at h
 exact ⟨_,_,rfl,h.1.symm⟩
theorem inv9 {L:List Str} {r a:Str} {G:List Sq} (h:aJ L r 9 a = (G,true)):∃ x y,fT r = .imp x y ∧ G = [(addT L x.body,y.body)]:=by
 have h:((bK L 9 (fT r)).1,(bK L 9 (fT r)).2 && decide (a = [])) = (G,true):=by simpa [aJ,bI] using h
 cases e:fT r <;> rw [e] at h <;> simp [bK] at h
 exact ⟨_,_,rfl,h.1.symm⟩
theorem inv11 {L:List Str} {r a:Str} {G:List Sq} (h:aJ L r 11 a = (G,true)):plT a = true ∧ G = [(L,a),(addT L a,r)]:=by
 simp [aJ] at h
 exact ⟨h.2,h.1.symm⟩
/-! ### The term of an inference -/
instance:Inhabited Tm:=⟨.var 0⟩
def termI (x:Inf) (G:List Sq) (T:List Tm):Tm:=
 let L:=x.left
 let v:Tm:=.var (posT L x.main)
 let n:Tm:=.var L.length
 if x.rule = 1 then .var (posT L x.right)
 else if x.rule = 2 then .abort x.right (.var (posT L Fm.fls.body))
 else if x.rule = 3 then (match parK x.main 2 with | some p=>carry (gt G 0).1 L 0 (fun t=>if t = p.1 then .fst v else .snd v) (gt T 0) | none=>default)
 else if x.rule = 4 then .pair (gt T 0) (gt T 1)
 else if x.rule = 5 then .case v (carry (gt G 0).1 L 1 (fun _=>n) (gt T 0)) (carry (gt G 1).1 L 1 (fun _=>n) (gt T 1))
 else if x.rule = 6 then (match parK x.right 3 with | some p=>.left p.2 (gt T 0) | none=>default)
 else if x.rule = 7 then (match parK x.right 3 with | some p=>.right p.1 (gt T 0) | none=>default)
 else if x.rule = 8 then carry (gt G 1).1 L 0 (fun _=>.app v (gt T 0)) (gt T 1)
 else if x.rule = 9 then (match parK x.right 4 with | some p=>.lam p.1 (carry (gt G 0).1 L 1 (fun _=>n) (gt T 0)) | none=>default)
 else if x.rule = 10 then carry (gt G 0).1 L 0 (fun _=>default) (gt T 0)
 else carry (gt G 1).1 L 0 (fun _=>gt T 0) (gt T 1)
theorem vA {L:List Str} {t:Str} (h:t ∈ L):Has L (.var (posT L t)) t:=(Has.var (vB h)).of (BN h)
theorem uW {from_ left:List Str} {given:Str → Tm} (hg:∀ a ∈ from_,¬ a ∈ left → Has left (given a) a) {t:Tm} {r:Str} (h:Has from_ t r):Has left (carry from_ left 0 given t) r:=by
 have:=OA (M:=[]) (left:=left) (given:=given) (fun a ha hn=>by rw [List.append_nil];exact hg a ha hn) h
 rw [List.append_nil] at this
 exact this
theorem DX {from_ left:List Str} {x:Str} (hg:∀ a ∈ from_,¬ a ∈ left → a = x) {t:Tm} {r:Str} (h:Has from_ t r):Has (left ++ [x]) (carry from_ left 1 (fun _=>.var left.length) t) r:=
 OA (M:=[x]) (left:=left) (given:=fun _=>.var left.length) (fun a ha hn=>by
  rw [hg a ha hn]
  refine (Has.var (by simp)).of ?_
  rw [gt_eq (by simp)];simp) h
theorem T4 {x:Inf} {G:List Sq} {T:List Tm} (hr:plT x.right = true)
  (hrule:(x.rule = 10 ∧ ∃ g,G = [g] ∧ g.2 = x.right ∧ ∀ t ∈ g.1,t ∈ x.left) ∨ (1 ≤ x.rule ∧ x.rule ≤ 11 ∧ ¬ x.rule = 10 ∧ aJ x.left x.right x.rule x.main = (G,true)))
  (hT:∀ j,j < G.length → Has (gt G j).1 (gt T j) (gt G j).2):Has x.left (termI x G T) x.right:=by
 obtain ⟨rule,prem,L,r,a⟩:=x
 have hr:plT r = true:=hr
 rcases hrule with ⟨h10,g,rfl,e,hs⟩ | ⟨h1,h11,hn,hgo⟩
 ·have h10:rule = 10:=h10
  subst h10
  have:=hT 0 (by simp)
  rw [show gt [g] 0 = g from rfl,e] at this
  exact uW (fun t ht hn=>absurd (hs t ht) hn) this
 ·have h1:1 ≤ rule:=h1
  have h11:rule ≤ 11:=h11
  have hn:¬ rule = 10:=hn
  have hgo:aJ L r rule a = (G,true):=hgo
  obtain rfl | rfl | rfl | rfl | rfl | rfl | rfl | rfl | rfl | rfl:rule = 1 ∨ rule = 2 ∨ rule = 3 ∨ rule = 4 ∨ rule = 5 ∨ rule = 6 ∨ rule = 7 ∨ rule = 8 ∨ rule = 9 ∨ rule = 11:=by omega
  ·exact vA (inv1 hgo)
  ·exact .abort hr (vA (inv2 hgo))
  ·obtain ⟨hm,u,v,e,rfl⟩:=inv3 hgo
   have hp:parK a 2 = some (u.body,v.body):=by unfold parK;rw [e];rfl
   have h0:=hT 0 (by simp)
   show Has L (match parK a 2 with | some p=>_ | none=>_) r
   rw [hp]
   refine uW (fun t ht hnt=>?_) h0
   have ht:t ∈ setT (L ++ [u.body,v.body]):=ht
   rw [cP] at ht
   rcases List.mem_append.1 ht with ht | ht
   ·exact absurd ht hnt
   ·simp only [List.mem_cons,List.not_mem_nil,or_false] at ht
    by_cases e1:t = u.body
    ·rw [if_pos e1,e1];exact .fst hp (vA hm)
    ·rw [if_neg e1,ht.resolve_left e1];exact .snd hp (vA hm)
  ·obtain ⟨u,v,e,rfl⟩:=inv4 hgo
   have hp:parK r 2 = some (u.body,v.body):=by unfold parK;rw [e];rfl
   exact .pair hr hp (hT 0 (by simp)) (hT 1 (by simp))
  ·obtain ⟨hm,u,v,e,rfl⟩:=inv5 hgo
   have hp:parK a 3 = some (u.body,v.body):=by unfold parK;rw [e];rfl
   exact .case hp (vA hm) (DX (fun t ht hnt=>(bB.1 ht).resolve_left hnt) (hT 0 (by simp))) (DX (fun t ht hnt=>(bB.1 ht).resolve_left hnt) (hT 1 (by simp)))
  ·obtain ⟨u,v,e,rfl⟩:=inv6 hgo
   have hp:parK r 3 = some (u.body,v.body):=by unfold parK;rw [e];rfl
   show Has L (match parK r 3 with | some p=>_ | none=>_) r
   rw [hp]
   exact .left hr hp (hT 0 (by simp))
  ·obtain ⟨u,v,e,rfl⟩:=inv7 hgo
   have hp:parK r 3 = some (u.body,v.body):=by unfold parK;rw [e];rfl
   show Has L (match parK r 3 with | some p=>_ | none=>_) r
   rw [hp]
   exact .right hr hp (hT 0 (by simp))
  ·obtain ⟨hm,u,v,e,rfl⟩:=inv8 hgo
   have hp:parK a 4 = some (u.body,v.body):=by unfold parK;rw [e];rfl
   refine uW (fun t ht hnt=>?_) (hT 1 (by simp))
   rw [(bB.1 ht).resolve_left hnt]
   exact .app hp (vA hm) (hT 0 (by simp))
  ·obtain ⟨u,v,e,rfl⟩:=inv9 hgo
   have hp:parK r 4 = some (u.body,v.body):=by unfold parK;rw [e];rfl
   show Has L (match parK r 4 with | some p=>_ | none=>_) r
   rw [hp]
   exact .lam hr hp (DX (fun t ht hnt=>(bB.1 ht).resolve_left hnt) (hT 0 (by simp)))
  ·obtain ⟨hpa,rfl⟩:=inv11 hgo
   refine uW (fun t ht hnt=>?_) (hT 1 (by simp))
   rw [(bB.1 ht).resolve_left hnt]
   exact hT 0 (by simp)
end Go.Vc

namespace Go.Vc
def aV (R:List Inf):Nat → List Tm
 | 0=>[]
 | k + 1=>aV R k ++ [termI (gt R k) ((gt R k).prem.map (seqAt R)) ((gt R k).prem.map (gt (aV R k)))]
theorem u7 (R:List Inf):∀ k,(aV R k).length = k
 | 0=>rfl
 | k + 1=>by rw [aV,List.length_append,u7 R k];rfl
theorem LL {R:List Inf} {k j:Nat} (h:j < k):gt (aV R (k + 1)) j = gt (aV R k) j:=by
 have hl:=u7 R k
 rw [aV,gt_eq (by rw [List.length_append];omega),gt_eq (L:=aV R k) (by omega),List.getElem_append_left (by omega)]
theorem u6 (R:List Inf) (k:Nat):gt (aV R (k + 1)) k = termI (gt R k) ((gt R k).prem.map (seqAt R)) ((gt R k).prem.map (gt (aV R k))):=by
 have hl:=u7 R k
 rw [aV,gt_eq (by rw [List.length_append,hl];simp),List.getElem_append_right (by omega)]
 simp [hl]
theorem sA {R:List Inf} {j:Nat}:∀ {k:Nat},j < k → gt (aV R k) j = gt (aV R (j + 1)) j
 | 0,h=>absurd h (Nat.not_lt_zero j)
 | k + 1,h=>by
  by_cases e:j = k
  ·rw [e]
  ·rw [LL (by omega)];exact sA (by omega)
theorem DK {R:List Inf} {N:Nat} (hg:∀ i,i < N → GoodC R i):∀ k,k ≤ N → ∀ j,j < k → Has (gt R j).left (gt (aV R k) j) (gt R j).right
 | 0,_,j,h=>absurd h (Nat.not_lt_zero j)
 | k + 1,hk,j,hj=>by
  by_cases hlt:j < k
  ·rw [LL hlt];exact DK hg k (by omega) j hlt
  ·have:j = k:=by omega
   subst this
   have hG:=hg j (by omega)
   rw [u6]
   refine T4 hG.right ?_ fun i hi=>?_
   ·rcases hG.rule with ⟨h1,h2,q,h3,h4,h5⟩ | ⟨h1,h2,h3,h4⟩
    ·refine .inl ⟨h1,seqAt R q,by rw [h3];rfl,h4,h5⟩
    ·exact .inr ⟨h1,h2,h3,h4⟩
   ·rw [List.length_map] at hi
    rw [d7 hi,d7 hi]
    have hq:=hG.prem (gt (gt R j).prem i) (by rw [gt_eq hi];exact List.getElem_mem hi)
    exact DK hg j (by omega) _ hq
end Go.Vc

namespace Go.Vc
def cutW (W L:List Str) (t:Tm):Nat → Nat:=carW W L (fun _=>t) fun _=>0
theorem vD (W L:List Str) (t:Tm) (v:Nat):cutW W L t v ≤ t.dp:=by
 unfold cutW carW
 split
 ·exact Nat.zero_le _
 ·split
  ·exact Nat.zero_le _
  ·exact Nat.le_refl _
theorem RS {W L:List Str} {t:Tm} {v:Nat} (h:gt W v ∈ L):cutW W L t v = 0:=by
 unfold cutW carW
 by_cases h1:W.length ≤ v
 ·rw [if_pos h1]
 ·rw [if_neg h1,if_pos h]
theorem wF {W L:List Str} {t:Tm} {v:Nat} (h:W.length ≤ v):cutW W L t v = 0:=by
 unfold cutW carW
 rw [if_pos h]
theorem J0 (W L:List Str) (t u:Tm):(carry W L 0 (fun _=>t) u).dp = u.dpw (cutW W L t):=oT (fun _ _=>rfl) u
theorem OL {from_ left:List Str} {given:Str → Tm} {g:Nat → Nat} (h:∀ t ∈ from_,if t ∈ left then g (posT left t) = 0 else (given t).dpw g = 0):carW from_ left given g = fun _=>0:=by
 funext v
 unfold carW
 by_cases hv:from_.length ≤ v
 ·rw [if_pos hv]
 ·rw [if_neg hv]
  have:=h (gt from_ v) (by rw [gt_eq (by omega)];exact List.getElem_mem _)
  split
  ·rename_i hm;rw [if_pos hm] at this;exact this
  ·rename_i hm;rw [if_neg hm] at this;exact this
theorem VN {from_ left:List Str} {u:Tm} {g:Nat → Nat} (hg:∀ i,left.length ≤ i → g i = 0) (h:∀ t ∈ from_,t ∈ left → g (posT left t) = 0):(carry from_ left 1 (fun _=>.var left.length) u).dpw g = u.dp:=by
 rw [oT (fun i hi=>hg i (by omega)),OL fun t ht=>?_]
 by_cases hm:t ∈ left
 ·rw [if_pos hm];exact h t ht hm
 ·rw [if_neg hm];exact hg _ (Nat.le_refl _)
theorem RV {from_ left:List Str} {given:Str → Tm} {u:Tm} {g:Nat → Nat} (hg:∀ i,left.length ≤ i → g i = 0) (hs:∀ t ∈ from_,t ∈ left) (h:∀ t ∈ from_,g (posT left t) = 0):(carry from_ left 0 given u).dpw g = u.dp:=by
 rw [oT (fun i hi=>hg i (by omega)),OL fun t ht=>?_]
 rw [if_pos (hs t ht)];exact h t ht
theorem UK {S W L:List Str} {t0:Tm} {p:Str} {m i:Nat}:(carry S W 0 (fun t=>if t = p then .fst (.var m) else .snd (.var m)) (.var i)).dpw (cutW W L t0) ≤ t0.dp:=by
 rw [oT (fun i hi=>wF (by omega))]
 show carW S W _ (cutW W L t0) i ≤ t0.dp
 unfold carW
 split
 ·exact Nat.zero_le _
 ·split
  ·exact vD _ _ _ _
  ·show Tm.dpw (cutW W L t0) (if gt S i = p then .fst (.var m) else .snd (.var m)) ≤ t0.dp
   split <;> exact vD _ _ _ _
theorem T9 {S W L L1:List Str} {t0 u1:Tm} {m i:Nat} {given:Str → Tm} (h:∀ t ∈ L1,t ∈ W ∧ t ∈ L):(carry S W 0 (fun _=>.app (.var m) (carry L1 W 0 given u1)) (.var i)).dpw (cutW W L t0) ≤ max t0.dp u1.dp:=by
 have e:(carry L1 W 0 given u1).dpw (cutW W L t0) = u1.dp:=RV (fun i hi=>wF hi) (fun t ht=>(h t ht).1) fun t ht=>RS (by rw [BN (h t ht).1];exact (h t ht).2)
 rw [oT (fun i hi=>wF (by omega))]
 show carW S W _ (cutW W L t0) i ≤ _
 unfold carW
 split
 ·exact Nat.zero_le _
 ·split
  ·exact Nat.le_trans (vD _ _ _ _) (Nat.le_max_left _ _)
  ·show max (cutW W L t0 m) ((carry L1 W 0 given u1).dpw (cutW W L t0)) ≤ _
   rw [e]
   have:=vD W L t0 m
   omega
theorem OC {S W L L1:List Str} {t0 u1:Tm} {given:Str → Tm} (h1:∀ t ∈ L1,t ∈ S) (h2:∀ t ∈ L1,t ∈ W → t ∈ L):
  (carry S W 1 (fun _=>.var W.length) (carry L1 S 0 given u1)).dpw (cutW W L t0) = u1.dp:=by
 rw [oT (fun i hi=>wF (by omega))]
 refine RV (fun i hi=>?_) h1 fun t ht=>?_
 ·unfold carW;rw [if_pos hi]
 ·unfold carW
  rw [if_neg (by have:=vB (h1 t ht);omega),BN (h1 t ht)]
  by_cases hm:t ∈ W
  ·rw [if_pos hm];exact RS (by rw [BN hm];exact h2 t ht hm)
  ·rw [if_neg hm];exact wF (Nat.le_refl _)
theorem U2 {S S' W L L1 L2:List Str} {t0 u1 u2:Tm} {m:Nat} {given:Str → Tm} (h1:∀ t ∈ L1,t ∈ S) (h2:∀ t ∈ L1,t ∈ W → t ∈ L) (h3:∀ t ∈ L2,t ∈ S') (h4:∀ t ∈ L2,t ∈ W → t ∈ L):
  (Tm.case (.var m) (carry S W 1 (fun _=>.var W.length) (carry L1 S 0 given u1)) (carry S' W 1 (fun _=>.var W.length) (carry L2 S' 0 given u2))).dpw (cutW W L t0) ≤ max t0.dp (1 + max u1.dp u2.dp):=by
 rw [Tm.dpw,OC h1 h2,OC h3 h4]
 have:(Tm.var m).dpw (cutW W L t0) ≤ t0.dp:=vD W L t0 m
 omega
end Go.Vc

namespace Go.Vc
theorem T6 {a:Str} {x y:Fm} (h:plT a = true) (e:fT a = .or x y):x.body ≠ a ∧ y.body ≠ a:=by
 obtain ⟨-,hg,-,-,-⟩:=dY h
 rw [e] at hg
 have hx:x.good:=cE hg x (by simp [Fm.kids])
 have hy:y.good:=cE hg y (by simp [Fm.kids])
 refine ⟨fun h1=>?_,fun h1=>?_⟩
 ·have h2:=gL hx
  rw [h1,e] at h2
  have:=congrArg Fm.size h2
  simp only [Fm.size] at this;omega
 ·have h2:=gL hy
  rw [h1,e] at h2
  have:=congrArg Fm.size h2
  simp only [Fm.size] at this;omega
theorem TG {P:List Ded} {s:Ded} {Q:List Inf} {at_:List Nat} {M R:List Inf} {U:Nat → Tm} {q:Int} {p:Str × Str} (e:s.rule = 4 ∨ s.rule = 5) (ep:s.prem = [q]) (ea:(gt P q.toNat).asm = s.asm) (hp:parK (gt P q.toNat).con 2 = some p)
  (hM:M = makeD Q.length s (s.prem.map fun j=>gt at_ j.toNat) (gt P (gt s.prem 0).toNat).con)
  (hR:∀ m,m < M.length → (seqAt R (Q.length + m)).1 = (gt M m).left)
  (hU:∀ m,m < M.length → U (Q.length + m) = termI (gt M m) ((gt M m).prem.map (seqAt R)) ((gt M m).prem.map U))
  (hd:∀ q ∈ s.prem,(gt P q.toNat).asm.length + (U (gt at_ q.toNat)).dp ≤ 12):s.asm.length + (U (Q.length + M.length - 1)).dp ≤ 12:=by
 have d0:=hd q (by rw [ep];simp)
 rw [ea] at d0
 generalize ha:(gt P q.toNat).con = a at *
 have hM':M = [⟨1,[],setT (addT (setT s.asm) a ++ [p.1,p.2]),s.con,[]⟩,⟨3,[Q.length],addT (setT s.asm) a,s.con,a⟩,⟨11,[gt at_ q.toNat,Q.length + 1],setT s.asm,s.con,a⟩]:=by
  rw [hM,ep,show (gt P (gt [q] 0).toNat).con = a from ha]
  unfold makeD
  rw [if_neg (by omega),if_neg (by omega),if_neg (by omega),if_pos e,hp];rfl
 clear hM;subst hM'
 have r1:(seqAt R (Q.length + 1)).1 = addT (setT s.asm) a:=hR 1 (by simp)
 have u0:U Q.length = .var (posT (setT (addT (setT s.asm) a ++ [p.1,p.2])) s.con):=hU 0 (by simp)
 have u1:U (Q.length + 1) = (match parK a 2 with | some p=>carry (seqAt R Q.length).1 (addT (setT s.asm) a) 0 (fun t=>if t = p.1 then .fst (.var (posT (addT (setT s.asm) a) a)) else .snd (.var (posT (addT (setT s.asm) a) a))) (U Q.length) | none=>default):=hU 1 (by simp)
 have u2:U (Q.length + 2) = carry (seqAt R (Q.length + 1)).1 (setT s.asm) 0 (fun _=>U (gt at_ q.toNat)) (U (Q.length + 1)):=hU 2 (by simp)
 rw [hp,u0] at u1
 rw [r1,u1] at u2
 show s.asm.length + (U (Q.length + 3 - 1)).dp ≤ 12
 rw [show Q.length + 3 - 1 = Q.length + 2 by omega,u2,J0]
 have:=UK (S:=(seqAt R Q.length).1) (W:=addT (setT s.asm) a) (L:=setT s.asm) (t0:=U (gt at_ q.toNat)) (p:=p.1) (m:=posT (addT (setT s.asm) a) a) (i:=posT (setT (addT (setT s.asm) a ++ [p.1,p.2])) s.con)
 exact Nat.le_trans (Nat.add_le_add_left this _) d0
theorem VS {P:List Ded} {s:Ded} {Q:List Inf} {at_:List Nat} {M R:List Inf} {U:Nat → Tm} (hrf:RF P s) (hlen:s.asm.length ≤ 12) (hpc:∀ q ∈ s.prem,plT (gt P q.toNat).con = true)
  (hM:M = makeD Q.length s (s.prem.map fun j=>gt at_ j.toNat) (gt P (gt s.prem 0).toNat).con)
  (hR:∀ m,m < M.length → (seqAt R (Q.length + m)).1 = (gt M m).left)
  (hU:∀ m,m < M.length → U (Q.length + m) = termI (gt M m) ((gt M m).prem.map (seqAt R)) ((gt M m).prem.map U))
  (hs:∀ q ∈ s.prem,(seqAt R (gt at_ q.toNat)).1 = setT (gt P q.toNat).asm)
  (hd:∀ q ∈ s.prem,(gt P q.toNat).asm.length + (U (gt at_ q.toNat)).dp ≤ 12):s.asm.length + (U (Q.length + M.length - 1)).dp ≤ 12:=by
 cases hrf with
 | r1 e ep h1 h2 h3=>
  have hM':M = [⟨1,[],setT s.asm,s.con,[]⟩]:=by rw [hM];unfold makeD;rw [if_pos e]
  clear hM;subst hM'
  have u0:U Q.length = .var (posT (setT s.asm) s.con):=hU 0 (by simp)
  show s.asm.length + (U (Q.length + 1 - 1)).dp ≤ 12
  rw [Nat.add_sub_cancel,u0];exact hlen
 | r3 q q' p e ep hp j1 j2=>
  have hM':M = [⟨4,[gt at_ q.toNat,gt at_ q'.toNat],setT s.asm,s.con,[]⟩]:=by rw [hM,ep];unfold makeD;rw [if_neg (by omega),if_neg (by omega),if_pos e];rfl
  clear hM;subst hM'
  have u0:U Q.length = .pair (U (gt at_ q.toNat)) (U (gt at_ q'.toNat)):=hU 0 (by simp)
  show s.asm.length + (U (Q.length + 1 - 1)).dp ≤ 12
  rw [Nat.add_sub_cancel,u0]
  have d1:=hd q (by rw [ep];simp)
  have d2:=hd q' (by rw [ep];simp)
  rw [show (gt P q.toNat).asm = s.asm from congrArg Prod.fst j1] at d1
  rw [show (gt P q'.toNat).asm = s.asm from congrArg Prod.fst j2] at d2
  show s.asm.length + max (U (gt at_ q.toNat)).dp (U (gt at_ q'.toNat)).dp ≤ 12
  omega
 | r6 q p e ep hp j1=>
  have hM':M = [⟨6,[gt at_ q.toNat],setT s.asm,s.con,[]⟩]:=by rw [hM,ep];unfold makeD;rw [if_neg (by omega),if_neg (by omega),if_neg (by omega),if_neg (by omega),if_pos e];rfl
  clear hM;subst hM'
  have u0:U Q.length = (match parK s.con 3 with | some p=>.left p.2 (U (gt at_ q.toNat)) | none=>default):=hU 0 (by simp)
  rw [hp] at u0
  show s.asm.length + (U (Q.length + 1 - 1)).dp ≤ 12
  rw [Nat.add_sub_cancel,u0]
  have d1:=hd q (by rw [ep];simp)
  rw [show (gt P q.toNat).asm = s.asm from congrArg Prod.fst j1] at d1
  exact d1
 | r7 q p e ep hp j1=>
  have hM':M = [⟨7,[gt at_ q.toNat],setT s.asm,s.con,[]⟩]:=by rw [hM,ep];unfold makeD;rw [if_neg (by omega),if_neg (by omega),if_neg (by omega),if_neg (by omega),if_neg (by omega),if_pos e];rfl
  clear hM;subst hM'
  have u0:U Q.length = (match parK s.con 3 with | some p=>.right p.1 (U (gt at_ q.toNat)) | none=>default):=hU 0 (by simp)
  rw [hp] at u0
  show s.asm.length + (U (Q.length + 1 - 1)).dp ≤ 12
  rw [Nat.add_sub_cancel,u0]
  have d1:=hd q (by rw [ep];simp)
  rw [show (gt P q.toNat).asm = s.asm from congrArg Prod.fst j1] at d1
  exact d1
 | r9 q p e ep hp j1=>
  have hM':M = [⟨9,[gt at_ q.toNat],setT s.asm,s.con,[]⟩]:=by rw [hM,ep];unfold makeD;rw [if_neg (by omega),if_neg (by omega),if_neg (by omega),if_neg (by omega),if_neg (by omega),if_neg (by omega),if_neg (by omega),if_pos e];rfl
  clear hM;subst hM'
  have u0:U Q.length = (match parK s.con 4 with | some p=>.lam p.1 (carry (seqAt R (gt at_ q.toNat)).1 (setT s.asm) 1 (fun _=>.var (setT s.asm).length) (U (gt at_ q.toNat))) | none=>default):=hU 0 (by simp)
  rw [hp] at u0
  show s.asm.length + (U (Q.length + 1 - 1)).dp ≤ 12
  rw [Nat.add_sub_cancel,u0]
  have d1:=hd q (by rw [ep];simp)
  rw [show (gt P q.toNat).asm = s.asm ++ [p.1] from congrArg Prod.fst j1,List.length_append,List.length_singleton] at d1
  show s.asm.length + (1 + (carry (seqAt R (gt at_ q.toNat)).1 (setT s.asm) 1 (fun _=>.var (setT s.asm).length) (U (gt at_ q.toNat))).dpw fun _=>0) ≤ 12
  rw [VN (fun _ _=>rfl) (fun _ _ _=>rfl)]
  omega
 | r2 q e ep j1=>
  have hM':M = [⟨2,[],addT (setT s.asm) Fm.fls.body,s.con,[]⟩,⟨11,[gt at_ q.toNat,Q.length],setT s.asm,s.con,Fm.fls.body⟩]:=by rw [hM,ep];unfold makeD;rw [if_neg (by omega),if_pos e];rfl
  clear hM;subst hM'
  have u0:U Q.length = .abort s.con (.var (posT (addT (setT s.asm) Fm.fls.body) Fm.fls.body)):=hU 0 (by simp)
  have u1:U (Q.length + 1) = carry (seqAt R Q.length).1 (setT s.asm) 0 (fun _=>U (gt at_ q.toNat)) (U Q.length):=hU 1 (by simp)
  have d1:=hd q (by rw [ep];simp)
  rw [show (gt P q.toNat).asm = s.asm from congrArg Prod.fst j1] at d1
  show s.asm.length + (U (Q.length + 2 - 1)).dp ≤ 12
  rw [show Q.length + 2 - 1 = Q.length + 1 by omega,u1,J0,u0]
  have:=vD (seqAt R Q.length).1 (setT s.asm) (U (gt at_ q.toNat)) (posT (addT (setT s.asm) Fm.fls.body) Fm.fls.body)
  show s.asm.length + cutW (seqAt R Q.length).1 (setT s.asm) (U (gt at_ q.toNat)) (posT (addT (setT s.asm) Fm.fls.body) Fm.fls.body) ≤ 12
  omega
 | r4 q p e ep ea hp hc=>exact TG (.inl e) ep ea hp hM hR hU hd
 | r5 q p e ep ea hp hc=>exact TG (.inr e) ep ea hp hM hR hU hd
 | r8 q q' q'' p e ep ea hp j1 j2=>
  obtain ⟨x,y,ef,rfl⟩:=p0 hp
  have hpa:plT (gt P q.toNat).con = true:=hpc q (by rw [ep];simp)
  obtain ⟨nx,ny⟩:=T6 hpa ef
  have d0:=hd q (by rw [ep];simp)
  have d1:=hd q' (by rw [ep];simp)
  have d2:=hd q'' (by rw [ep];simp)
  have s1:=hs q' (by rw [ep];simp)
  have s2:=hs q'' (by rw [ep];simp)
  rw [ea] at d0
  rw [show (gt P q'.toNat).asm = s.asm ++ [x.body] from congrArg Prod.fst j1] at d1 s1
  rw [show (gt P q''.toNat).asm = s.asm ++ [y.body] from congrArg Prod.fst j2] at d2 s2
  rw [List.length_append,List.length_singleton] at d1 d2
  generalize ha:(gt P q.toNat).con = a at *
  have hM':M = [⟨10,[gt at_ q'.toNat],addT (addT (setT s.asm) a) x.body,s.con,[]⟩,⟨10,[gt at_ q''.toNat],addT (addT (setT s.asm) a) y.body,s.con,[]⟩,⟨5,[Q.length,Q.length + 1],addT (setT s.asm) a,s.con,a⟩,⟨11,[gt at_ q.toNat,Q.length + 2],setT s.asm,s.con,a⟩]:=by
   rw [hM,ep,show (gt P (gt [q,q',q''] 0).toNat).con = a from ha]
   unfold makeD
   rw [if_neg (by omega),if_neg (by omega),if_neg (by omega),if_neg (by omega),if_neg (by omega),if_neg (by omega),if_pos e,hp];rfl
  clear hM;subst hM'
  have r0:(seqAt R Q.length).1 = addT (addT (setT s.asm) a) x.body:=hR 0 (by simp)
  have r1:(seqAt R (Q.length + 1)).1 = addT (addT (setT s.asm) a) y.body:=hR 1 (by simp)
  have r2:(seqAt R (Q.length + 2)).1 = addT (setT s.asm) a:=hR 2 (by simp)
  have u0:U Q.length = carry (seqAt R (gt at_ q'.toNat)).1 (addT (addT (setT s.asm) a) x.body) 0 (fun _=>default) (U (gt at_ q'.toNat)):=hU 0 (by simp)
  have u1:U (Q.length + 1) = carry (seqAt R (gt at_ q''.toNat)).1 (addT (addT (setT s.asm) a) y.body) 0 (fun _=>default) (U (gt at_ q''.toNat)):=hU 1 (by simp)
  have u2:U (Q.length + 2) = .case (.var (posT (addT (setT s.asm) a) a)) (carry (seqAt R Q.length).1 (addT (setT s.asm) a) 1 (fun _=>.var (addT (setT s.asm) a).length) (U Q.length)) (carry (seqAt R (Q.length + 1)).1 (addT (setT s.asm) a) 1 (fun _=>.var (addT (setT s.asm) a).length) (U (Q.length + 1))):=hU 2 (by simp)
  have u3:U (Q.length + 3) = carry (seqAt R (Q.length + 2)).1 (setT s.asm) 0 (fun _=>U (gt at_ q.toNat)) (U (Q.length + 2)):=hU 3 (by simp)
  rw [s1] at u0
  rw [s2] at u1
  rw [r0,r1,u0,u1] at u2
  rw [r2,u2] at u3
  have b:∀ {z:Str},z ≠ a → ∀ t ∈ setT (s.asm ++ [z]),t ∈ addT (addT (setT s.asm) a) z ∧ (t ∈ addT (setT s.asm) a → t ∈ setT s.asm):=fun {z} hz t ht=>by
   rw [cP] at ht
   rcases List.mem_append.1 ht with ht | ht
   ·exact ⟨bB.2 (.inl (bB.2 (.inl (cP.2 ht)))),fun _=>cP.2 ht⟩
   ·rw [List.mem_singleton.1 ht]
    exact ⟨bB.2 (.inr rfl),fun h=>(bB.1 h).resolve_right hz⟩
  show s.asm.length + (U (Q.length + 4 - 1)).dp ≤ 12
  rw [show Q.length + 4 - 1 = Q.length + 3 by omega,u3,J0]
  have:=U2 (S:=addT (addT (setT s.asm) a) x.body) (S':=addT (addT (setT s.asm) a) y.body) (W:=addT (setT s.asm) a) (L:=setT s.asm) (t0:=U (gt at_ q.toNat)) (u1:=U (gt at_ q'.toNat)) (u2:=U (gt at_ q''.toNat)) (m:=posT (addT (setT s.asm) a) a) (given:=fun _=>default) (fun t ht=>(b nx t ht).1) (fun t ht=>(b nx t ht).2) (fun t ht=>(b ny t ht).1) (fun t ht=>(b ny t ht).2)
  omega
 | r10 q q' p e ep ea hp hc j1=>
  have d0:=hd q (by rw [ep];simp)
  have d1:=hd q' (by rw [ep];simp)
  have s1:=hs q' (by rw [ep];simp)
  rw [ea] at d0
  rw [show (gt P q'.toNat).asm = s.asm from congrArg Prod.fst j1] at d1 s1
  generalize ha:(gt P q.toNat).con = a at *
  have hM':M = [⟨10,[gt at_ q'.toNat],addT (setT s.asm) a,p.1,[]⟩,⟨1,[],addT (addT (setT s.asm) a) p.2,s.con,[]⟩,⟨8,[Q.length,Q.length + 1],addT (setT s.asm) a,s.con,a⟩,⟨11,[gt at_ q.toNat,Q.length + 2],setT s.asm,s.con,a⟩]:=by
   rw [hM,ep,show (gt P (gt [q,q'] 0).toNat).con = a from ha]
   unfold makeD
   rw [if_neg (by omega),if_neg (by omega),if_neg (by omega),if_neg (by omega),if_neg (by omega),if_neg (by omega),if_neg (by omega),if_neg (by omega),hp];rfl
  clear hM;subst hM'
  have r2:(seqAt R (Q.length + 2)).1 = addT (setT s.asm) a:=hR 2 (by simp)
  have u0:U Q.length = carry (seqAt R (gt at_ q'.toNat)).1 (addT (setT s.asm) a) 0 (fun _=>default) (U (gt at_ q'.toNat)):=hU 0 (by simp)
  have u1:U (Q.length + 1) = .var (posT (addT (addT (setT s.asm) a) p.2) s.con):=hU 1 (by simp)
  have u2:U (Q.length + 2) = carry (seqAt R (Q.length + 1)).1 (addT (setT s.asm) a) 0 (fun _=>.app (.var (posT (addT (setT s.asm) a) a)) (U Q.length)) (U (Q.length + 1)):=hU 2 (by simp)
  have u3:U (Q.length + 3) = carry (seqAt R (Q.length + 2)).1 (setT s.asm) 0 (fun _=>U (gt at_ q.toNat)) (U (Q.length + 2)):=hU 3 (by simp)
  rw [s1] at u0
  rw [u0,u1] at u2
  rw [r2,u2] at u3
  show s.asm.length + (U (Q.length + 4 - 1)).dp ≤ 12
  rw [show Q.length + 4 - 1 = Q.length + 3 by omega,u3,J0]
  have:=T9 (S:=(seqAt R (Q.length + 1)).1) (W:=addT (setT s.asm) a) (L:=setT s.asm) (L1:=setT s.asm) (t0:=U (gt at_ q.toNat)) (u1:=U (gt at_ q'.toNat)) (m:=posT (addT (setT s.asm) a) a) (i:=posT (addT (addT (setT s.asm) a) p.2) s.con) (given:=fun _=>default) fun t ht=>⟨bB.2 (.inl ht),ht⟩
  omega
end Go.Vc

namespace Go.Vc
theorem termU {R:List Inf} (hg:∀ i,i < R.length → GoodC R i) {i:Nat} (hi:i < R.length):gt (aV R R.length) i = termI (gt R i) ((gt R i).prem.map (seqAt R)) ((gt R i).prem.map (gt (aV R R.length))):=by
 rw [sA hi,u6]
 congr 1
 refine List.map_congr_left fun q hq=>?_
 have:=(hg i hi).prem q hq
 rw [sA this,sA (k:=R.length) (by omega)]
theorem IU {P:List Ded}:∀ {n k:Nat},k ≤ n → ∃ X,(seqD P n).1 = (seqD P k).1 ++ X ∧ ∀ j,j < k → gt (seqD P n).2 j = gt (seqD P k).2 j
 | 0,k,h=>by
  have:k = 0:=by omega
  subst this
  exact ⟨[],by simp,fun _ _=>rfl⟩
 | n + 1,k,h=>by
  by_cases e:k = n + 1
  ·subst e
   exact ⟨[],by simp,fun _ _=>rfl⟩
  ·obtain ⟨X,h1,h2⟩:=IU (P:=P) (n:=n) (k:=k) (by omega)
   obtain ⟨-,hl⟩:=rC P n
   rw [seqD]
   simp only
   refine ⟨X ++ makeD (seqD P n).1.length (gt P n) ((gt P n).prem.map fun j=>gt (seqD P n).2 j.toNat) (gt P (gt (gt P n).prem 0).toNat).con,by rw [h1,List.append_assoc],fun j hj=>?_⟩
   rw [← h2 j hj,gt_eq (by rw [List.length_append];omega),gt_eq (L:=(seqD P n).2) (by omega),List.getElem_append_left (by omega)]
theorem ON {P:List Ded} (k:Nat):gt (seqD P (k + 1)).2 k = (seqD P k).1.length + (makeD (seqD P k).1.length (gt P k) ((gt P k).prem.map fun j=>gt (seqD P k).2 j.toNat) (gt P (gt (gt P k).prem 0).toNat).con).length - 1:=by
 obtain ⟨-,hl⟩:=rC P k
 rw [seqD]
 simp only
 rw [gt_eq (by rw [List.length_append,List.length_singleton];omega),List.getElem_append_right (by omega)]
 simp [hl]
theorem VW {P:List Ded} (hall:∀ i,i < P.length → goodD P i = true):∀ j,j < P.length → (gt P j).asm.length + (gt (aV (seqD P P.length).1 (seqD P P.length).1.length) (gt (seqD P P.length).2 j)).dp ≤ 12:=by
 intro j
 induction j using Nat.strongRecOn with
 | ind j ih=>
  intro hj
  obtain ⟨g1,g2⟩:=yB hall P.length (Nat.le_refl _)
  obtain ⟨hsh,hin,hrf⟩:=eP (hall j hj)
  obtain ⟨hlen,hasm,hcon⟩:=eQ hsh
  obtain ⟨X,e1,e2⟩:=IU (P:=P) (n:=P.length) (k:=j + 1) (by omega)
  have e3:=e2 j (by omega)
  rw [ON] at e3
  have hM:∃ M,M = makeD (seqD P j).1.length (gt P j) ((gt P j).prem.map fun i=>gt (seqD P j).2 i.toNat) (gt P (gt (gt P j).prem 0).toNat).con:=⟨_,rfl⟩
  obtain ⟨M,hM⟩:=hM
  have e4:(seqD P P.length).1 = (seqD P j).1 ++ (M ++ X):=by
   rw [e1,seqD]
   simp only
   rw [← hM,List.append_assoc]
  have hat:∀ i,i < j → gt (seqD P P.length).2 i = gt (seqD P j).2 i:=fun i hi=>by
   obtain ⟨Y,-,e6⟩:=IU (P:=P) (n:=P.length) (k:=j) (by omega)
   exact e6 i hi
  rw [← hM] at e3
  rw [e3]
  have hq:∀ q ∈ (gt P j).prem,q.toNat < j:=fun q hq=>by
   obtain ⟨a,b⟩:=A3 hin hq
   omega
  have gR:∀ m,m < M.length → gt (seqD P P.length).1 ((seqD P j).1.length + m) = gt M m:=fun m hm=>by
   rw [e4,RW (by rw [List.length_append];omega),B1 hm]
  refine VS (U:=gt (aV (seqD P P.length).1 (seqD P P.length).1.length)) (R:=(seqD P P.length).1) (Q:=(seqD P j).1) (at_:=(seqD P j).2) hrf hlen (fun q hm=>(eQ (eP (hall q.toNat (by have:=hq q hm;omega))).1).2.2) hM (fun m hm=>?_) (fun m hm=>?_) (fun q hm=>?_) (fun q hm=>?_)
  ·unfold seqAt;rw [gR m hm]
  ·rw [termU g1 (by rw [e4,List.length_append,List.length_append];omega),gR m hm]
  ·rw [← hat _ (hq q hm),(g2 q.toNat (by have:=hq q hm;omega)).2]
  ·rw [← hat _ (hq q hm)]
   exact ih q.toNat (hq q hm) (by have:=hq q hm;omega)
theorem UP {P:List Ded} (hall:∀ i,i < P.length → goodD P i = true) {j:Nat} (hj:j < P.length):Has (setT (gt P j).asm) (gt (aV (seqD P P.length).1 (seqD P P.length).1.length) (gt (seqD P P.length).2 j)) (gt P j).con:=by
 obtain ⟨g1,g2⟩:=yB hall P.length (Nat.le_refl _)
 obtain ⟨a,b⟩:=g2 j hj
 have h:=DK g1 (seqD P P.length).1.length (Nat.le_refl _) _ a
 have b1:(gt (seqD P P.length).1 (gt (seqD P P.length).2 j)).left = setT (gt P j).asm:=congrArg Prod.fst b
 have b2:(gt (seqD P P.length).1 (gt (seqD P P.length).2 j)).right = (gt P j).con:=congrArg Prod.snd b
 rw [b1,b2] at h
 exact h
end Go.Vc

namespace Go.Vc
def mkK (k:Nat) (a b:Fm):Fm:=if k = 2 then .and a b else if k = 3 then .or a b else .imp a b
def joinT (k:Nat) (a b:Str):Option Str:=if (mkK k (fT a) (fT b)).size ≤ 40 then some (mkK k (fT a) (fT b)).body else none
theorem DZ {k:Nat} {c:Str} {p:Str × Str} (hk:k = 2 ∨ k = 3 ∨ k = 4) (hc:plT c = true) (hp:parK c k = some p):joinT k p.1 p.2 = some c:=by
 obtain ⟨-,hg,-,hb,hpc⟩:=dY hc
 have hs:(fT c).size ≤ 40:=(bL hpc).1
 have key:mkK k (fT p.1) (fT p.2) = fT c:=by
  rcases hk with rfl | rfl | rfl
  ·obtain ⟨x,y,e,rfl⟩:=DS hp
   rw [e] at hg
   rw [e,gL (cE hg x (by simp [Fm.kids])),gL (cE hg y (by simp [Fm.kids]))];rfl
  ·obtain ⟨x,y,e,rfl⟩:=p0 hp
   rw [e] at hg
   rw [e,gL (cE hg x (by simp [Fm.kids])),gL (cE hg y (by simp [Fm.kids]))];rfl
  ·obtain ⟨x,y,e,rfl⟩:=GP hp
   rw [e] at hg
   rw [e,gL (cE hg x (by simp [Fm.kids])),gL (cE hg y (by simp [Fm.kids]))];rfl
 unfold joinT
 rw [key,if_pos hs,hb]
end Go.Vc

namespace Go.Vc
def ndR (k d:Nat) (n:TN):TN:=if n.kind = 0 ∧ k ≤ n.num then ⟨0,n.num + d,n.typ⟩ else n
theorem bQ (k d:Nat):∀ t:Tm,(t.raise k d).nodes = t.nodes.map (ndR k d)
 | .var n=>by
  rw [Tm.raise,Tm.nodes,Tm.nodes,List.map_singleton,ndR]
  by_cases h:k ≤ n
  ·rw [if_pos h,if_pos ⟨rfl,h⟩]
  ·rw [if_neg h,if_neg (fun e=>h e.2)]
 | .lam t b=>by rw [Tm.raise,Tm.nodes,Tm.nodes,List.map_cons,bQ k d b];rfl
 | .app a b=>by rw [Tm.raise,Tm.nodes,Tm.nodes,List.map_cons,List.map_append,bQ k d a,bQ k d b];rfl
 | .pair a b=>by rw [Tm.raise,Tm.nodes,Tm.nodes,List.map_cons,List.map_append,bQ k d a,bQ k d b];rfl
 | .fst a=>by rw [Tm.raise,Tm.nodes,Tm.nodes,List.map_cons,bQ k d a];rfl
 | .snd a=>by rw [Tm.raise,Tm.nodes,Tm.nodes,List.map_cons,bQ k d a];rfl
 | .left t a=>by rw [Tm.raise,Tm.nodes,Tm.nodes,List.map_cons,bQ k d a];rfl
 | .right t a=>by rw [Tm.raise,Tm.nodes,Tm.nodes,List.map_cons,bQ k d a];rfl
 | .case a b c=>by rw [Tm.raise,Tm.nodes,Tm.nodes,List.map_cons,List.map_append,List.map_append,bQ k d a,bQ k d b,bQ k d c];rfl
 | .abort t a=>by rw [Tm.raise,Tm.nodes,Tm.nodes,List.map_cons,bQ k d a];rfl
def arT (k:Nat):Nat:=if k = 1 ∨ k = 4 ∨ k = 5 ∨ k = 6 ∨ k = 7 ∨ k = 9 then 1 else if k = 2 ∨ k = 3 then 2 else if k = 8 then 3 else 0
def openT:List TN → Nat → Option Nat
 | [],o=>some o
 | n :: l,o=>if o = 0 then none else openT l (o - 1 + arT n.kind)
theorem sE:∀ (A B:List TN) (o:Nat),openT (A ++ B) o = (openT A o).bind (openT B)
 | [],B,o=>rfl
 | n :: A,B,o=>by
  rw [List.cons_append,openT,openT]
  split
  ·rfl
  ·exact sE A B _
theorem cW:∀ (t:Tm) (o:Nat),openT t.nodes (o + 1) = some o
 | .var n,o=>by rw [Tm.nodes,openT,if_neg (by omega)];rfl
 | .lam t b,o=>by
  rw [Tm.nodes,openT,if_neg (by omega)]
  exact cW b o
 | .app a b,o=>by
  rw [Tm.nodes,openT,if_neg (by omega),sE]
  rw [show o + 1 - 1 + arT 2 = o + 1 + 1 from rfl,cW a]
  exact cW b o
 | .pair a b,o=>by
  rw [Tm.nodes,openT,if_neg (by omega),sE]
  rw [show o + 1 - 1 + arT 3 = o + 1 + 1 from rfl,cW a]
  exact cW b o
 | .fst a,o=>by
  rw [Tm.nodes,openT,if_neg (by omega)]
  exact cW a o
 | .snd a,o=>by
  rw [Tm.nodes,openT,if_neg (by omega)]
  exact cW a o
 | .left t a,o=>by
  rw [Tm.nodes,openT,if_neg (by omega)]
  exact cW a o
 | .right t a,o=>by
  rw [Tm.nodes,openT,if_neg (by omega)]
  exact cW a o
 | .case a b c,o=>by
  rw [Tm.nodes,openT,if_neg (by omega),sE,show o + 1 - 1 + arT 8 = o + 1 + 1 + 1 from rfl,cW a]
  show openT (b.nodes ++ c.nodes) (o + 1 + 1) = some o
  rw [sE,cW b]
  exact cW c o
 | .abort t a,o=>by
  rw [Tm.nodes,openT,if_neg (by omega)]
  exact cW a o
def QE (n:TN):Prop:=(n.kind = 0 ∧ n.typ = []) ∨ ((n.kind = 1 ∨ n.kind = 6 ∨ n.kind = 7 ∨ n.kind = 9) ∧ n.num = 0 ∧ plT n.typ = true) ∨ ((n.kind = 2 ∨ n.kind = 3 ∨ n.kind = 4 ∨ n.kind = 5 ∨ n.kind = 8) ∧ n.num = 0 ∧ n.typ = [])
theorem TI {G:List Str} {t:Tm} {r:Str} (h:Has G t r):∀ n ∈ t.nodes,QE n:=by
 induction h with
 | var _=>intro n hn;rw [Tm.nodes,List.mem_singleton] at hn;rw [hn];exact .inl ⟨rfl,rfl⟩
 | lam hc hp _ ih=>
  intro n hn
  rw [Tm.nodes] at hn
  rcases List.mem_cons.1 hn with rfl | hn
  ·exact .inr (.inl ⟨.inl rfl,rfl,(bV hc hp).1⟩)
  ·exact ih n hn
 | app _ _ _ ih1 ih2=>
  intro n hn
  rw [Tm.nodes] at hn
  rcases List.mem_cons.1 hn with rfl | hn
  ·exact .inr (.inr ⟨.inl rfl,rfl,rfl⟩)
  ·exact (List.mem_append.1 hn).elim (ih1 n) (ih2 n)
 | pair _ _ _ _ ih1 ih2=>
  intro n hn
  rw [Tm.nodes] at hn
  rcases List.mem_cons.1 hn with rfl | hn
  ·exact .inr (.inr ⟨.inr (.inl rfl),rfl,rfl⟩)
  ·exact (List.mem_append.1 hn).elim (ih1 n) (ih2 n)
 | fst _ _ ih=>
  intro n hn
  rw [Tm.nodes] at hn
  rcases List.mem_cons.1 hn with rfl | hn
  ·exact .inr (.inr ⟨.inr (.inr (.inl rfl)),rfl,rfl⟩)
  ·exact ih n hn
 | snd _ _ ih=>
  intro n hn
  rw [Tm.nodes] at hn
  rcases List.mem_cons.1 hn with rfl | hn
  ·exact .inr (.inr ⟨.inr (.inr (.inr (.inl rfl))),rfl,rfl⟩)
  ·exact ih n hn
 | left hc hp _ ih=>
  intro n hn
  rw [Tm.nodes] at hn
  rcases List.mem_cons.1 hn with rfl | hn
  ·exact .inr (.inl ⟨.inr (.inl rfl),rfl,(bV hc hp).2⟩)
  ·exact ih n hn
 | right hc hp _ ih=>
  intro n hn
  rw [Tm.nodes] at hn
  rcases List.mem_cons.1 hn with rfl | hn
  ·exact .inr (.inl ⟨.inr (.inr (.inl rfl)),rfl,(bV hc hp).1⟩)
  ·exact ih n hn
 | case _ _ _ _ ih1 ih2 ih3=>
  intro n hn
  rw [Tm.nodes] at hn
  rcases List.mem_cons.1 hn with rfl | hn
  ·exact .inr (.inr ⟨.inr (.inr (.inr (.inr rfl))),rfl,rfl⟩)
  ·exact (List.mem_append.1 hn).elim (ih1 n) fun h=>(List.mem_append.1 h).elim (ih2 n) (ih3 n)
 | abort hc _ ih=>
  intro n hn
  rw [Tm.nodes] at hn
  rcases List.mem_cons.1 hn with rfl | hn
  ·exact .inr (.inl ⟨.inr (.inr (.inr rfl)),rfl,hc⟩)
  ·exact ih n hn
end Go.Vc

namespace Go.Vc
structure RT where
 kind:Int
 num:Int
 typ:Str
instance:Inhabited RT:=⟨⟨0,0,[]⟩⟩
def RT.cs (n:RT):List Value:=[.int .i64 n.kind,.int .i64 n.num,sv n.typ]
def aN (L:List RT):List Value:=L.flatMap RT.cs
theorem R7 (L:List RT):(aN L).length = L.length * 3:=by
 induction L with
 | nil=>rfl
 | cons x L ih=>rw [aN,List.flatMap_cons,List.length_append,← aN,ih,List.length_cons];simp [RT.cs];omega
theorem DO (A B:List RT):aN (A ++ B) = aN A ++ aN B:=by simp [aN]
theorem gI:∀ {L:List RT} {j:Nat},j < L.length → ∀ k,k < 3 → (aN L)[j * 3 + k]? = (gt L j).cs[k]?
 | [],j,h,_,_=>absurd h (Nat.not_lt_zero j)
 | x :: L,0,_,k,hk=>by
  rw [show aN (x :: L) = x.cs ++ aN L by simp [aN],Nat.zero_mul,Nat.zero_add,List.getElem?_append_left (by simp [RT.cs];omega)]
  rfl
 | x :: L,j + 1,h,k,hk=>by
  have:=gI (L:=L) (j:=j) (by simpa using h) k hk
  rw [show aN (x :: L) = x.cs ++ aN L by simp [aN],show (j + 1) * 3 + k = j * 3 + k + 3 by omega,List.getElem?_append_right (by simp [RT.cs])]
  rw [show j * 3 + k + 3 - x.cs.length = j * 3 + k by simp [RT.cs]]
  exact this
theorem II (L:List RT) (k:Nat):(aN L).take (k * 3) = aN (L.take k):=by
 induction L generalizing k with
 | nil=>simp [aN]
 | cons x L ih=>
  cases k with
  | zero=>simp [aN]
  | succ k=>
   show ((x.cs ++ aN L)).take ((k + 1) * 3) = x.cs ++ aN (L.take k)
   rw [List.take_append,List.take_of_length_le (by simp [RT.cs];omega),show (k + 1) * 3 - x.cs.length = k * 3 by simp [RT.cs];omega,ih]
theorem zX (L:List RT) (k:Nat):(aN L).drop (k * 3) = aN (L.drop k):=by
 induction L generalizing k with
 | nil=>simp [aN]
 | cons x L ih=>
  cases k with
  | zero=>simp [aN]
  | succ k=>
   show ((x.cs ++ aN L)).drop ((k + 1) * 3) = aN (L.drop k)
   rw [List.drop_append,List.drop_of_length_le (by simp [RT.cs];omega),List.nil_append,show (k + 1) * 3 - x.cs.length = k * 3 by simp [RT.cs];omega,ih]
theorem rY (L:List RT):∀ u ∈ aN L,aD u = true:=fun u hu=>by
 obtain ⟨q,_,hq⟩:=List.mem_flatMap.1 hu
 simp only [RT.cs,List.mem_cons,List.not_mem_nil,or_false] at hq
 rcases hq with rfl | rfl | rfl <;> rfl
abbrev RdT (w:World) (v:Value) (L:List RT):Prop:=SlK 3 w v L.length (aN L)
abbrev OwT (e:TypeId) (lo:Nat) (w:World) (v:Value) (L:List RT):Prop:=OwK 3 lo e w v L.length (aN L)
theorem iFdT {w:World} {v:Value} {L:List RT} {z:Int} {j f:Nat} {k:IntKind} {x:Value} {K:Value → Prop} (hs:RdT w v L) (hz:z = (j:Int)) (hj:j < L.length) (hf:f < 3) (hx:(gt L j).cs[f]? = some x) (h:K x):xIa 3 v (.int k z) fun p=>xFa f p fun q=>xLd w q K:=
 iFld hs hz hj hf (by rw [gI hj f hf];exact hx) h
theorem iSlT {w:World} {v:Value} {L:List RT} {i j:Nat} {ki kj:IntKind} {K:Value → Prop} (hs:RdT w v L) (hi:i ≤ j) (hj:j ≤ L.length) (h:∀ r,RdT w r ((L.drop i).take (j - i)) → K r):xSl 3 v (some (.int ki (i:Int))) (some (.int kj (j:Int))) K:=
 iSlK hs hi hj fun r hr=>h r (by
  have hl:((L.drop i).take (j - i)).length = j - i:=by rw [List.length_take,List.length_drop];omega
  unfold RdT
  rw [hl,← II,← zX]
  exact hr)
theorem iSlTF {w:World} {v:Value} {L:List RT} {i:Nat} {ki:IntKind} {K:Value → Prop} (hs:RdT w v L) (hi:i ≤ L.length) (h:∀ r,RdT w r (L.drop i) → K r):xSl 3 v (some (.int ki (i:Int))) none K:=
 rJ hs hi fun r hr=>h r (by
  unfold RdT
  rw [List.length_drop,← zX]
  exact hr)
theorem iBsT {w:World} {e:TypeId} {a b c z0 z1 z2:Value} {K:Value → World → Prop} (h:∀ q w',q = w.heap.size ∧ w'.heap.size = q + 1 → Ext w w' → Blk e w' q [a,b,c] → K (.slice (some ⟨q,0,none⟩) 1 1) w'):
  xBs e (Value.cells (.agg #[z0,z1,z2])) 3 1 [(0,.agg #[a,b,c])] w K:=by
 refine ⟨#[a,b,c],?_,h _ _ ⟨rfl,by simp⟩ (Ext.alloc w _) (Blk.new w #[a,b,c] e)⟩
 simp [Instr.fill,Value.cells,show Array.range 3 = #[0,1,2] from rfl]
/-! ### Nodes of terms -/
def rawN (n:TN):RT:=⟨n.kind,n.num,n.typ⟩
def Tm.raw (t:Tm):List RT:=t.nodes.map rawN
def Tm.kids:Tm → List Tm
 | var _=>[]
 | lam _ b=>[b]
 | app f x=>[f,x]
 | pair a b=>[a,b]
 | fst a=>[a]
 | snd a=>[a]
 | left _ a=>[a]
 | right _ a=>[a]
 | case a b c=>[a,b,c]
 | abort _ a=>[a]
def Tm.hd:Tm → TN
 | var n=>⟨0,n,[]⟩
 | lam t _=>⟨1,0,t⟩
 | app _ _=>⟨2,0,[]⟩
 | pair _ _=>⟨3,0,[]⟩
 | fst _=>⟨4,0,[]⟩
 | snd _=>⟨5,0,[]⟩
 | left t _=>⟨6,0,t⟩
 | right t _=>⟨7,0,t⟩
 | case _ _ _=>⟨8,0,[]⟩
 | abort t _=>⟨9,0,t⟩
theorem Tm.nodes_kids (t:Tm):t.nodes = t.hd :: t.kids.flatMap Tm.nodes:=by
 cases t <;> simp [Tm.nodes,Tm.hd,Tm.kids]
theorem Tm.raw_kids (t:Tm):t.raw = rawN t.hd :: t.kids.flatMap Tm.raw:=by
 unfold Tm.raw
 rw [t.nodes_kids,List.map_cons,List.map_flatMap]
theorem Tm.raw_len (t:Tm):t.raw.length = t.nodes.length:=List.length_map _
theorem Tm.nodes_pos (t:Tm):0 < t.nodes.length:=by rw [t.nodes_kids];simp
theorem Tm.raw_pos (t:Tm):0 < t.raw.length:=by rw [t.raw_len];exact t.nodes_pos
theorem Tm.ar (t:Tm):arT t.hd.kind = t.kids.length:=by cases t <;> rfl
theorem Tm.kid_lt {t k:Tm} (h:k ∈ t.kids):k.raw.length < t.raw.length:=by
 rw [t.raw_kids,List.length_cons]
 obtain ⟨A,B,e⟩:=List.append_of_mem h
 rw [e,List.flatMap_append,List.flatMap_cons,List.length_append,List.length_append]
 omega
theorem Tm.kids_len (t:Tm):t.kids.length ≤ 3:=by cases t <;> simp [Tm.kids]
theorem Tm.kind_le (t:Tm):t.hd.kind ≤ 9:=by cases t <;> simp [Tm.hd]
theorem Tm.raw0 (t:Tm):gt t.raw 0 = rawN t.hd:=by rw [t.raw_kids];rfl
theorem Tm.drop_kids {t:Tm} {k:Nat} (hk:k < t.kids.length):t.raw.drop (1 + ((t.kids.take k).flatMap Tm.raw).length) = (gt t.kids k).raw ++ (t.kids.drop (k + 1)).flatMap Tm.raw:=by
 rw [t.raw_kids,Nat.add_comm,List.drop_succ_cons]
 have e:t.kids.flatMap Tm.raw = (t.kids.take k).flatMap Tm.raw ++ (t.kids.drop k).flatMap Tm.raw:=by rw [← List.flatMap_append,List.take_append_drop]
 rw [e,List.drop_left,List.drop_eq_getElem_cons hk,List.flatMap_cons,gt_eq hk]
theorem DL {t:Tm} {k:Nat} (hk:k < t.kids.length):((t.kids.take (k + 1)).flatMap Tm.raw).length = ((t.kids.take k).flatMap Tm.raw).length + (gt t.kids k).raw.length:=by
 rw [List.take_succ_eq_append_getElem hk,List.flatMap_append,List.length_append,gt_eq hk];simp
theorem vE (t:Tm) (k:Nat):1 + ((t.kids.take k).flatMap Tm.raw).length ≤ t.raw.length:=by
 rw [t.raw_kids,List.length_cons]
 have e:t.kids.flatMap Tm.raw = (t.kids.take k).flatMap Tm.raw ++ (t.kids.drop k).flatMap Tm.raw:=by rw [← List.flatMap_append,List.take_append_drop]
 rw [e,List.length_append];omega
theorem U4 (t:Tm):1 + ((t.kids.take t.kids.length).flatMap Tm.raw).length = t.raw.length:=by
 rw [List.take_length,t.raw_kids,List.length_cons];omega
/-! ### What is open behind raw nodes -/
def openR:List RT → Nat → Option Nat
 | [],o=>some o
 | n :: l,o=>if o = 0 then none else openR l (o - 1 + arT n.kind.toNat)
theorem OQ:∀ (L:List TN) (o:Nat),openR (L.map rawN) o = openT L o
 | [],_=>rfl
 | n :: L,o=>by
  rw [List.map_cons,openR,openT]
  split
  ·rfl
  ·exact OQ L _
theorem LM (t:Tm) (o:Nat):openR t.raw (o + 1) = some o:=by
 unfold Tm.raw
 rw [OQ,cW]
theorem FU:∀ (A B:List RT) (o:Nat),openR (A ++ B) o = (openR A o).bind (openR B)
 | [],B,o=>rfl
 | n :: A,B,o=>by
  rw [List.cons_append,openR,openR]
  split
  ·rfl
  ·exact FU A B _
end Go.Vc

namespace Go.Vc
def KidsW (w:World) (vs:List Value) (ts:List Tm):Prop:=vs.length = ts.length ∧ ∀ j,j < ts.length → ∃ u,vs[j]? = some u ∧ RdT w u (gt ts j).raw
theorem KidsW.ext {w w':World} {vs:List Value} {ts:List Tm} (h:KidsW w vs ts) (x:Ext w w'):KidsW w' vs ts:=⟨h.1,fun j hj=>let ⟨u,h1,h2⟩:=h.2 j hj;⟨u,h1,SlK.ext h2 x⟩⟩
theorem bU {w:World} {v:Value} {L:List RT} (h:RdT w v L):aD v = true:=by
 obtain ⟨_,a,c,rfl,_⟩:=h;rfl
theorem iKid {w:World} {v:Value} {vs:List Value} {ts:List Tm} {z:Int} {j:Nat} {k:IntKind} {K:Value → Prop} (hs:Sl w v vs) (hk:KidsW w vs ts) (hz:z = (j:Int)) (hj:j < ts.length) (h:∀ u,RdT w u (gt ts j).raw → K u):xIa 1 v (.int k z) fun p=>xLd w p K:=by
 subst hz
 obtain ⟨u,h1,h2⟩:=hk.2 j hj
 refine iIa hs (by omega) (by have:=hk.1;omega) fun p hp=>?_
 rw [Int.toNat_natCast,h1] at hp
 exact iLd hp (h u h2)
theorem SL {L:List RT} {k o:Nat} (hk:k < L.length) (h:openR (L.take k) 1 = some o):openR (L.take (k + 1)) 1 = if o = 0 then none else some (o - 1 + arT (gt L k).kind.toNat):=by
 rw [List.take_succ_eq_append_getElem hk,FU,h,Option.bind_some,openR,gt_eq hk]
 rfl
theorem S4 {t:Tm} {k:Nat} (hk:k ≤ t.raw.length) (h:openR (t.raw.take k) 1 = some 0):k = t.raw.length:=by
 have h1:=LM t 0
 rw [← List.take_append_drop k t.raw,FU,h,Option.bind_some] at h1
 rcases Nat.lt_or_ge k t.raw.length with hlt | hge
 ·rw [List.drop_eq_getElem_cons hlt,openR,if_pos rfl] at h1
  cases h1
 ·omega
theorem SI {t:Tm} {o:Nat} (ho:0 < o) (h:openR (t.raw.take t.raw.length) 1 = some o):False:=by
 rw [List.take_length,LM t 0] at h
 cases h;omega
theorem SV (k:Nat):arT k ≤ 3:=by
 unfold arT
 repeat' split
 all_goals omega
theorem P9 {α:Type} [Inhabited α] {L:List α} {k i:Nat} (h:i < k) (hk:k ≤ L.length):gt (L.take k) i = gt L i:=by
 rw [gt_eq (by rw [List.length_take];omega),gt_eq (by omega),List.getElem_take]
def bindT (kind k:Nat):Nat:=if kind = 1 ∨ (kind = 8 ∧ 0 < k) then 1 else 0
end Go.Vc
namespace Go.Proofs.YtkjoppimpmojfaaGreat
open Go.Vc
theorem tZ (k:Nat) (w:World):Ret Tryz.prog vK #[.int .i64 (k:Int)] w (.int .i64 (arT k:Int)):=by
 apply JO;unfold wO
 have key:∀ {m:Nat},arT k = m → (m:Int) = (arT k:Int):=fun h=>by rw [h]
 rcases (show (k = 1 ∨ k = 4 ∨ k = 5 ∨ k = 6 ∨ k = 7 ∨ k = 9) ∨ (k = 2 ∨ k = 3) ∨ k = 8 ∨ ¬ ((k = 1 ∨ k = 4 ∨ k = 5 ∨ k = 6 ∨ k = 7 ∨ k = 9) ∨ (k = 2 ∨ k = 3) ∨ k = 8) by omega) with h | h | h | h
 ·rw [← key (m:=1) (if_pos h)]
  rcases h with h | h | h | h | h | h <;> subst h <;> repeat first | exact ⟨by first | trivial | rfl,Ext.refl _⟩ | (refine iEq ?_) | (refine iCndT (by decide) ?_) | (refine iCndF (by decide) ?_) | (refine iJn ?_) | (intro _;try simp only [gx])
 ·rw [← key (m:=2) ((if_neg (by omega)).trans (if_pos h))]
  rcases h with h | h <;> subst h <;> repeat first | exact ⟨by first | trivial | rfl,Ext.refl _⟩ | (refine iEq ?_) | (refine iCndT (by decide) ?_) | (refine iCndF (by decide) ?_) | (refine iJn ?_) | (intro _;try simp only [gx])
 ·subst h
  repeat first | exact ⟨by first | trivial | rfl,Ext.refl _⟩ | (refine iEq ?_) | (refine iCndT (by decide) ?_) | (refine iCndF (by decide) ?_) | (refine iJn ?_) | (intro _;try simp only [gx])
 ·rw [← key (m:=0) ((if_neg (by omega)).trans ((if_neg (by omega)).trans (if_neg (by omega))))]
  repeat first | exact ⟨by first | trivial | rfl,Ext.refl _⟩ | (refine iEq ?_) | (refine iCndF (decide_eq_false (by omega)) ?_) | (refine iJn ?_) | (intro _;try simp only [gx])
theorem zI {v:Value} {L rest:List RT} {t:Tm} {i:Nat} {w:World} (h:RdT w v L) (hL:L.length ≤ 1000000000) (he:L.drop i = t.raw ++ rest):Ret Tryz.prog CR #[v,.int .i64 (i:Int)] w (.int .i64 ((i + t.raw.length:Nat):Int)):=by
 apply N4;unfold A1
 have hil:i + t.raw.length ≤ L.length:=by
  have:=congrArg List.length he
  rw [List.length_drop,List.length_append] at this
  have:=t.raw_pos
  omega
 refine iLp (fun s:Nat × Nat=>[.int .i64 ((i + s.1:Nat):Int),.int .i64 (s.2:Int)]) (fun s w'=>s.1 ≤ t.raw.length ∧ Ext w w' ∧ openR (t.raw.take s.1) 1 = some s.2 ∧ s.2 ≤ 1 + 3 * s.1) (fun s=>t.raw.length - s.1) (0,1) rfl ⟨Nat.zero_le _,Ext.refl _,rfl,by decide⟩ ?_
 rintro ⟨k,o⟩ w2 Kn ⟨hk,x2,ho,hb⟩ hKn
 have hk:k ≤ t.raw.length:=hk
 have ho:openR (t.raw.take k) 1 = some o:=ho
 have hb:o ≤ 1 + 3 * k:=hb
 have h2:=SlK.ext h x2
 intro _
 simp only [gx]
 refine iLt (iCndP (fun h0=>?_) (fun h0=>?_))
 ·have hlt:k < t.raw.length:=by
   rcases Nat.lt_or_ge k t.raw.length with h | h
   ·exact h
   ·have:k = t.raw.length:=by omega
    subst this
    exact (SI (by omega) ho).elim
  refine iLenK h2 (iLe (iCndF (decide_eq_false (by omega)) ?_))
  have hgt:gt L (i + k) = gt t.raw k:=by
   have e1:(L.drop i)[k]'(by rw [he,List.length_append];omega) = t.raw[k]:=by
    simp only [he,List.getElem_append_left hlt]
   rw [gt_eq (by omega),gt_eq hlt,← e1,List.getElem_drop]
  obtain ⟨nd,hnd⟩:∃ nd:TN,gt t.raw k = rawN nd:=by
   have hm:gt t.raw k ∈ t.raw:=by rw [gt_eq hlt];exact List.getElem_mem _
   obtain ⟨nd,_,e⟩:=List.mem_map.1 hm
   exact ⟨nd,e.symm⟩
  refine iFdT (f:=0) (x:=.int .i64 (nd.kind:Int)) h2 rfl (by omega) (by decide) (by rw [hgt,hnd];rfl) ?_
  refine iRet (tZ nd.kind w2) fun w3 x3=>?_
  have har:=SV nd.kind
  have hnx:=SL hlt ho
  rw [if_neg (by omega),hnd] at hnx
  have hnx:openR (t.raw.take (k + 1)) 1 = some (o - 1 + arT nd.kind):=hnx
  refine iSub (by omega) (iAdd (by omega) (iAdd (by omega) ?_))
  have e1:(o:Int) + ((arT nd.kind:Int) - 1) = ((o - 1 + arT nd.kind:Nat):Int):=by omega
  have e2:((i + k:Nat):Int) + 1 = ((i + (k + 1):Nat):Int):=by omega
  rw [e1,e2]
  exact hKn (k + 1,o - 1 + arT nd.kind) _ ⟨hlt,x2.trans x3,hnx,by show o - 1 + arT nd.kind ≤ 1 + 3 * (k + 1);omega⟩ (by show t.raw.length - (k + 1) < t.raw.length - k;omega)
 ·have:o = 0:=by omega
  subst this
  have e:k = t.raw.length:=S4 hk ho
  rw [← e]
  exact ⟨rfl,x2⟩
theorem BK {v:Value} {t:Tm} {w0 w:World} (h0:RdT w0 v t.raw) (x0:Ext w0 w) (hL:t.raw.length ≤ 1000000000):Cal Tryz.prog wY #[v] w fun r w'=>Ext w w' ∧ ∃ vs,Ow w.heap.size aF w' r vs ∧ KidsW w0 vs t.kids:=by
 have h:RdT w v t.raw:=SlK.ext h0 x0
 apply QH;unfold FV
 refine iFdT (j:=0) (f:=0) (x:=.int .i64 (t.hd.kind:Int)) h rfl t.raw_pos (by decide) (by rw [t.raw0];rfl) ?_
 refine iRet (tZ t.hd.kind w) fun w1 x1=>?_
 rw [t.ar]
 have hkl:=t.kids_len
 refine iLp (fun s:Value × Nat=>[s.1,.int .i64 ((1 + ((t.kids.take s.2).flatMap Tm.raw).length:Nat):Int),.int .i64 (s.2:Int)]) (fun s w'=>s.2 ≤ t.kids.length ∧ Ext w w' ∧ ∃ vs,Ow w.heap.size aF w' s.1 vs ∧ KidsW w0 vs (t.kids.take s.2)) (fun s=>t.kids.length - s.2) (.slice none 0 0,0) rfl ⟨Nat.zero_le _,x1,[],Ow.nil _ _ _,rfl,fun j hj=>absurd hj (by simp)⟩ ?_
 rintro ⟨z,k⟩ w2 Kn ⟨hk,x2,vs,ho,hv⟩ hKn
 have hk:k ≤ t.kids.length:=hk
 have ho:Ow w.heap.size aF w2 z vs:=ho
 have hv:KidsW w0 vs (t.kids.take k):=hv
 have hvl:vs.length = k:=by rw [hv.1,List.length_take];omega
 intro _
 simp only [gx]
 refine iLt (iCndP (fun hlt=>?_) (fun hlt=>?_))
 ·have hlt:k < t.kids.length:=by omega
  have h2:=SlK.ext h x2
  refine iRet (zI h2 hL (Tm.drop_kids hlt)) fun w3 x3=>?_
  have hle:=vE t (k + 1)
  have htk:=DL (t:=t) hlt
  rw [show 1 + ((t.kids.take k).flatMap Tm.raw).length + (gt t.kids k).raw.length = 1 + ((t.kids.take (k + 1)).flatMap Tm.raw).length by omega]
  refine iSlT h0 (by omega) hle fun r hr=>?_
  have hr:RdT w0 r (gt t.kids k).raw:=by
   rw [Tm.drop_kids hlt,show 1 + ((t.kids.take (k + 1)).flatMap Tm.raw).length - (1 + ((t.kids.take k).flatMap Tm.raw).length) = (gt t.kids k).raw.length by omega,List.take_left] at hr
   exact hr
  refine sR nB nG rfl (ho.ext x3) (bU hr) (by omega) (by omega) (x2.trans x3).size fun z' w4 ho4 hg4 _=>?_
  have x24:Ext w w4:=(x2.trans x3).grown hg4 fun c hc=>(ho.blk c hc).1
  refine iAdd (by omega) ?_
  refine hKn (z',k + 1) _ ⟨hlt,x24,vs ++ [r],ho4,?_,fun j hj=>?_⟩ (by show t.kids.length - (k + 1) < t.kids.length - k;omega)
  ·rw [List.length_append,hvl,List.length_take,List.length_singleton];omega
  ·have hj:j < k + 1:=by rw [List.length_take] at hj;omega
   by_cases hjk:j < k
   ·obtain ⟨u,h1,h2⟩:=hv.2 j (by rw [List.length_take];omega)
    refine ⟨u,by rw [List.getElem?_append_left (by omega)];exact h1,?_⟩
    rw [P9 (by omega) (by omega)] at h2 ⊢
    exact h2
   ·have:j = k:=by omega
    subst this
    refine ⟨r,by rw [List.getElem?_append_right (by omega),hvl];simp,?_⟩
    rw [P9 (by omega) (by omega)]
    exact hr
 ·have:k = t.kids.length:=by omega
  subst this
  rw [List.take_length] at hv
  exact ⟨x2,vs,ho,hv⟩
theorem O3 {v:Value} {t:Tm} {w:World} (h:RdT w v t.raw) (hL:t.raw.length ≤ 1000000000):Cal Tryz.prog wY #[v] w fun r w'=>Ext w w' ∧ ∃ vs,Ow w.heap.size aF w' r vs ∧ KidsW w vs t.kids:=BK h (Ext.refl _) hL
theorem QF (b:Bool) (w:World):Ret Tryz.prog DC #[.bool b] w (.int .i64 (b.toNat:Int)):=by
 apply SO;unfold MD
 cases b
 ·exact iCndF rfl ⟨rfl,Ext.refl _⟩
 ·exact iCndT rfl ⟨rfl,Ext.refl _⟩
theorem KS (kd k:Nat) (w:World):Ret Tryz.prog CT #[.int .i64 (kd:Int),.int .i64 (k:Int)] w (.int .i64 (bindT kd k:Int)):=by
 apply NF;unfold C4
 refine iJnX (fun xs w'=>xs = [.int .i64 (bindT kd k:Int)] ∧ Ext w w') (fun J hJ=>?_) ?_
 ·have go:∀ {b:Bool},b.toNat = bindT kd k → callV Tryz.prog (.func (.func DC) #[] #[]) [.bool b] w fun u w'=>J [u] w':=fun {b} hb=>iRet (QF b w) fun w1 x1=>by
   rw [hb];exact hJ _ _ ⟨rfl,x1⟩
  refine iEq (iCndP (fun h=>?_) (fun h=>?_))
  ·exact go (b:=true) (by unfold bindT;rw [if_pos (.inl (by omega))];rfl)
  refine iEq (iCndP (fun h8=>?_) (fun h8=>?_))
  ·refine iLt (go ?_)
   unfold bindT
   by_cases h0:0 < k
   ·rw [if_pos (.inr ⟨by omega,h0⟩),decide_eq_true (by omega)];rfl
   ·rw [if_neg (by omega),decide_eq_false (by omega)];rfl
  ·exact go (b:=false) (by unfold bindT;rw [if_neg (by omega)];rfl)
 ·rintro _ w1 ⟨rfl,x1⟩
  exact fun _=>⟨rfl,x1⟩
end Go.Proofs.YtkjoppimpmojfaaGreat

namespace Go.Vc
def kidsM (F:Nat → Nat → Tm) (t:Tm) (n:Nat):List Tm:=(List.range t.kids.length).map fun j=>(gt t.kids j).mapN F (n + bindT t.hd.kind j)
theorem T1 {F:Nat → Nat → Tm} {t:Tm} {n:Nat} (h:¬ t.hd.kind = 0):(t.mapN F n).hd = t.hd ∧ (t.mapN F n).kids = kidsM F t n:=by
 cases t with
 | var v=>exact absurd rfl h
 | _=>exact ⟨rfl,rfl⟩
theorem N8 (F:Nat → Nat → Tm) (t:Tm) (n:Nat):(kidsM F t n).length = t.kids.length:=by simp [kidsM]
theorem U5 {F:Nat → Nat → Tm} {t:Tm} {n j:Nat} (hj:j < t.kids.length):gt (kidsM F t n) j = (gt t.kids j).mapN F (n + bindT t.hd.kind j):=by
 rw [gt_eq (by rw [N8];exact hj)]
 simp [kidsM]
theorem dI {F:Nat → Nat → Tm} {B:Nat} (hB:1 ≤ B) (hF:∀ v n,(F v n).nodes.length ≤ B):∀ (t:Tm) (n:Nat),(t.mapN F n).nodes.length ≤ t.nodes.length * B
 | .var v,n=>by have:=hF v n;simpa [Tm.mapN,Tm.nodes] using this
 | .lam _ b,n=>by have:=dI hB hF b (n + 1);simp only [Tm.mapN,Tm.nodes,List.length_cons,Nat.add_mul];omega
 | .app a b,n=>by have:=dI hB hF a n;have:=dI hB hF b n;simp only [Tm.mapN,Tm.nodes,List.length_cons,List.length_append,Nat.add_mul];omega
 | .pair a b,n=>by have:=dI hB hF a n;have:=dI hB hF b n;simp only [Tm.mapN,Tm.nodes,List.length_cons,List.length_append,Nat.add_mul];omega
 | .fst a,n=>by have:=dI hB hF a n;simp only [Tm.mapN,Tm.nodes,List.length_cons,Nat.add_mul];omega
 | .snd a,n=>by have:=dI hB hF a n;simp only [Tm.mapN,Tm.nodes,List.length_cons,Nat.add_mul];omega
 | .left _ a,n=>by have:=dI hB hF a n;simp only [Tm.mapN,Tm.nodes,List.length_cons,Nat.add_mul];omega
 | .right _ a,n=>by have:=dI hB hF a n;simp only [Tm.mapN,Tm.nodes,List.length_cons,Nat.add_mul];omega
 | .case a b c,n=>by have:=dI hB hF a n;have:=dI hB hF b (n + 1);have:=dI hB hF c (n + 1);simp only [Tm.mapN,Tm.nodes,List.length_cons,List.length_append,Nat.add_mul];omega
 | .abort _ a,n=>by have:=dI hB hF a n;simp only [Tm.mapN,Tm.nodes,List.length_cons,Nat.add_mul];omega
def numLe (m:Nat) (t:Tm):Prop:=∀ nd ∈ t.nodes,nd.num ≤ m
theorem numLe.kid {m:Nat} {t k:Tm} (h:numLe m t) (hk:k ∈ t.kids):numLe m k:=fun nd hn=>h nd (by
 rw [t.nodes_kids]
 exact List.mem_cons_of_mem _ (List.mem_flatMap.2 ⟨k,hk,hn⟩))
theorem numLe.hd {m:Nat} {t:Tm} (h:numLe m t):t.hd.num ≤ m:=h _ (by rw [t.nodes_kids];exact List.mem_cons_self ..)
theorem WF {t:Tm} (h:t.hd.kind = 0):t = .var t.hd.num:=by
 cases t with
 | var v=>rfl
 | _=>cases h
theorem GL (k d:Nat) (t:Tm):(t.raise k d).nodes.length = t.nodes.length:=by rw [bQ,List.length_map]
def ndQ (k d:Nat) (n:RT):RT:=if n.kind = 0 ∧ (k:Int) ≤ n.num then ⟨n.kind,n.num + (d:Int),n.typ⟩ else n
theorem UA (k d:Nat) (t:Tm):(t.raise k d).raw = t.raw.map (ndQ k d):=by
 unfold Tm.raw
 rw [bQ,List.map_map,List.map_map]
 refine List.map_congr_left fun n _=>?_
 obtain ⟨a,b,c⟩:=n
 show rawN (ndR k d ⟨a,b,c⟩) = ndQ k d (rawN ⟨a,b,c⟩)
 unfold ndR ndQ rawN
 by_cases h:a = 0 ∧ k ≤ b
 ·rw [if_pos h,if_pos ⟨by show (a:Int) = 0;omega,by show (k:Int) ≤ (b:Int);omega⟩]
  obtain ⟨rfl,_⟩:=h
  show (⟨((0:Nat):Int),((b + d:Nat):Int),c⟩:RT) = ⟨((0:Nat):Int),(b:Int) + (d:Int),c⟩
  rw [Int.natCast_add]
 ·rw [if_neg h,if_neg (fun e=>h ⟨by have:(a:Int) = 0:=e.1;omega,by have:(k:Int) ≤ (b:Int):=e.2;omega⟩)]
end Go.Vc

namespace Go.Vc
theorem OwT.open {e:TypeId} {lo:Nat} {w:World} {v:Value} {L:List RT} (h:OwT e lo w v L) (hn:0 < L.length):∃ g cap cur,v = .slice (some ⟨g,0,none⟩) L.length cap ∧ lo ≤ g ∧ Blk e w g cur ∧ L.length ≤ cap ∧ cap ≤ 9223372036854775807 ∧ cur.length = cap * 3 ∧ cur.take (L.length * 3) = aN L:=by
 obtain ⟨_,⟨_,h0⟩ | ⟨g,cap,cur,hv,hg,hh,h1,h2,h3,h4⟩⟩:=h
 ·omega
 ·exact ⟨g,cap,cur.toList,hv,hg,by unfold Blk;rw [Array.toArray_toList];exact hh,h1,h2,by simpa using h3,h4⟩
theorem OwT.shut {e:TypeId} {lo g cap:Nat} {w:World} {L:List RT} {cur:List Value} (hg:lo ≤ g) (hB:Blk e w g cur) (h1:L.length ≤ cap) (h2:cap ≤ 9223372036854775807) (h3:cur.length = cap * 3) (h4:cur.take (L.length * 3) = aN L):OwT e lo w (.slice (some ⟨g,0,none⟩) L.length cap) L:=
 ⟨R7 L,.inr ⟨g,cap,cur.toArray,rfl,hg,hB,h1,h2,by simpa using h3,by simpa using h4⟩⟩
theorem AI:∀ {L:List RT} {j:Nat} (x:Int),j < L.length → (aN L).set (j * 3 + 1) (.int .i64 x) = aN (L.set j ⟨(gt L j).kind,x,(gt L j).typ⟩)
 | [],_,_,h=>by simp at h
 | y :: L,0,x,_=>rfl
 | y :: L,j + 1,x,h=>by
  have:=AI (L:=L) (j:=j) x (by simpa using h)
  show (y.cs ++ aN L).set ((j + 1) * 3 + 1) _ = y.cs ++ aN (L.set j ⟨(gt L j).kind,x,(gt L j).typ⟩)
  rw [List.set_append_right _ _ (by show 3 ≤ (j + 1) * 3 + 1;omega),← this]
  congr 2
  show (j + 1) * 3 + 1 - 3 = j * 3 + 1
  omega
theorem IA:∀ {L:List RT} {j:Nat} (x:Int),j < L.length → (aN L).set (j * 3) (.int .i64 x) = aN (L.set j ⟨x,(gt L j).num,(gt L j).typ⟩)
 | [],_,_,h=>by simp at h
 | y :: L,0,x,_=>rfl
 | y :: L,j + 1,x,h=>by
  have:=IA (L:=L) (j:=j) x (by simpa using h)
  show (y.cs ++ aN L).set ((j + 1) * 3) _ = y.cs ++ aN (L.set j ⟨x,(gt L j).num,(gt L j).typ⟩)
  rw [List.set_append_right _ _ (by show 3 ≤ (j + 1) * 3;omega),← this]
  congr 2
  show (j + 1) * 3 - 3 = j * 3
  omega
theorem IC:∀ {L:List RT} {j:Nat} (x:Str),j < L.length → (aN L).set (j * 3 + 2) (sv x) = aN (L.set j ⟨(gt L j).kind,(gt L j).num,x⟩)
 | [],_,_,h=>by simp at h
 | y :: L,0,x,_=>rfl
 | y :: L,j + 1,x,h=>by
  have:=IC (L:=L) (j:=j) x (by simpa using h)
  show (y.cs ++ aN L).set ((j + 1) * 3 + 2) _ = y.cs ++ aN (L.set j ⟨(gt L j).kind,(gt L j).num,x⟩)
  rw [List.set_append_right _ _ (by show 3 ≤ (j + 1) * 3 + 2;omega),← this]
  congr 2
  show (j + 1) * 3 + 2 - 3 = j * 3 + 2
  omega
theorem iWrT {e:TypeId} {lo:Nat} {w:World} {v x:Value} {L:List RT} {y:RT} {z:Int} {j f:Nat} {k:IntKind} {K:World → Prop} (hs:OwT e lo w v L) (hz:z = (j:Int)) (hj:j < L.length) (hf:f < 3) (hx:aD x = true) (hy:(aN L).set (j * 3 + f) x = aN (L.set j y))
  (h:∀ w',OwT e lo w' v (L.set j y) → Ch (fun c=>v.ownBlock = some c) w w' → K w'):xIa 3 v (.int k z) fun p=>xFa f p fun q=>xSt w q x K:=by
 subst hz
 obtain ⟨g,cap,cur,rfl,hg,hB,h1,h2,h3,h4⟩:=OwT.open hs (by omega)
 refine ⟨_,_,_,_,_,rfl,rfl,by omega,by omega,?_⟩
 rw [Int.toNat_natCast,dB,Nat.zero_add]
 have hm:(j + 1) * 3 ≤ cap * 3:=Nat.mul_le_mul_right _ (by omega)
 refine iFa (iStU hB (by omega) hx fun w' hB' hu=>?_)
 refine h w' ?_ (hu.ch (S:=fun c=>_ = some c) rfl)
 have hl:(L.set j y).length = L.length:=List.length_set
 have:=OwT.shut (e:=e) (L:=L.set j y) hg hB' (by omega) h2 (by rw [List.length_set];exact h3) (by
  rw [hl,← hy,← h4,List.take_set])
 rw [hl] at this
 exact this
theorem iBsT0 {w:World} {e:TypeId} {z0 z1 z2:Value} {K:Value → World → Prop} (h:∀ v w',Ext w w' → OwK 3 w.heap.size e w' v 0 [] → K v w'):xBs e (Value.cells (.agg #[z0,z1,z2])) 3 0 [] w K:=by
 refine ⟨_,rfl,h _ _ (Ext.alloc w _) ?_⟩
 exact ⟨rfl,.inr ⟨w.heap.size,0,_,rfl,Nat.le_refl _,heap_alloc_new w _,Nat.le_refl _,by simp [maxLen],by simp [show Array.range 0 = #[] from rfl],rfl⟩⟩
theorem UN {w:World} {v:Value} {L:List RT} (h:RdT w v L) (hn:0 < L.length):isSl v ∧ CQ v = false:=by
 obtain ⟨_,a,c,rfl,_,_,h0 | ⟨b,o,rfl,_⟩⟩:=h
 ·omega
 ·exact ⟨trivial,rfl⟩
theorem PQ {x:Int} {K:Value → Prop} (h:K (.agg #[.int .i64 0,.int .i64 x,sv []])):aK #[.int .i64 0,.int .i64 0,.string ⟨#[]⟩] #[(0,1),(1,1),(2,1)] [(0,.int .i64 0),(1,.int .i64 x)] K:=
 j4 (cs:=#[.int .i64 0,.int .i64 x,sv []]) (by simp [Instr.fill,Value.cells]) h
theorem QG {a b:Value} {K:Value → Prop} (ha:aD a = true) (hb:aD b = true) (h:K (.agg #[a,.int .i64 0,b])):aK #[.int .i64 0,.int .i64 0,.string ⟨#[]⟩] #[(0,1),(1,1),(2,1)] [(0,a),(2,b)] K:=
 j4 (cs:=#[a,.int .i64 0,b]) (by simp [Instr.fill,aH ha,aH hb]) h
theorem vC {e:TypeId} {w:World} {b lo:Nat} {n:RT} (h:Blk e w b n.cs) (hl:lo ≤ b):OwT e lo w (.slice (some ⟨b,0,none⟩) 1 1) [n]:=
 OwK.ofBlk (n:=1) h hl rfl (by decide)
theorem VV {L:List Str} {t:Str} {i:Nat} (hil:i < L.length) (hno:¬ t ∈ L.take i) (h:t = L[i]):posT L t = i:=by
 have e:L = L.take i ++ t :: L.drop (i + 1):=by rw [h,← List.drop_eq_getElem_cons hil,List.take_append_drop]
 unfold posT
 rw [e,List.idxOf_append,if_neg hno,List.idxOf_cons_self,List.length_take]
 omega
def sumT (ts:List Tm):Nat:=(ts.map fun t=>t.raw.length).sum
theorem zT:∀ ts:List Tm,(ts.flatMap Tm.raw).length = sumT ts
 | []=>rfl
 | t :: ts=>by
  rw [List.flatMap_cons,List.length_append,zT ts];rfl
theorem IH:∀ ts:List Tm,aN (ts.flatMap Tm.raw) = ts.flatMap fun t=>aN t.raw
 | []=>rfl
 | t :: ts=>by rw [List.flatMap_cons,DO,IH ts];rfl
end Go.Vc
namespace Go.Proofs.YtkjoppimpmojfaaGreat
open Go.Vc
theorem eD (x:Int) (w:World):Cal Tryz.prog lB #[.int .i64 x] w fun r w'=>Ext w w' ∧ OwT aA w.heap.size w' r [⟨0,x,[]⟩]:=by
 apply FJ;unfold qT
 refine PQ (iBsT fun b w1 hb x1 hB=>⟨x1,vC (n:=⟨0,x,[]⟩) hB (by omega)⟩)
theorem QV {v:Value} {w:World} {vs:List Value} {ts:List Tm} (hs:Sl w v vs) (hk:KidsW w vs ts) (hz:sumT ts ≤ 1000000000):Cal Tryz.prog bP #[v] w fun r w'=>Ext w w' ∧ OwT aA w.heap.size w' r (ts.flatMap Tm.raw):=by
 have e1:((ts.map fun t=>(t.raw.length,aN t.raw)).map Prod.fst).sum = sumT ts:=by
  rw [List.map_map];rfl
 refine (eY (ps:=ts.map fun t=>(t.raw.length,aN t.raw)) hs (by rw [List.length_map];exact hk.1) (fun i h1 h2=>?_) (fun p hp u hu=>?_) (by rw [e1];omega)).mono ?_
 ·rw [List.length_map] at h2
  obtain ⟨u,h3,h4⟩:=hk.2 i h2
  rw [List.getElem?_eq_getElem h1] at h3
  cases h3
  rw [List.getElem_map]
  rw [gt_eq h2] at h4
  exact h4
 ·obtain ⟨t,_,rfl⟩:=List.mem_map.1 hp
  exact rY _ u hu
 ·rintro r w' ⟨x,ho⟩
  refine ⟨x,?_⟩
  rw [e1,List.flatMap_map] at ho
  unfold OwT
  rw [zT,IH]
  exact ho
theorem dE {v:Value} {w:World} {vs:List Value} {ts:List Tm} {kd:Int} {typ:Str} (hs:Sl w v vs) (hk:KidsW w vs ts) (hz:sumT ts ≤ 100000000):Cal Tryz.prog fX #[.int .i64 kd,sv typ,v] w fun r w'=>Ext w w' ∧ OwT aA w.heap.size w' r (⟨kd,0,typ⟩ :: ts.flatMap Tm.raw):=by
 apply OT;unfold EZ
 refine QG rfl rfl (iBsT fun b w1 hb x1 hB=>?_)
 refine iCall ((QV (Sl.ext hs x1) (hk.ext x1) (by omega)).mono ?_)
 rintro r w2 ⟨x2,ho⟩
 have hone:OwT aA 0 w2 (.slice (some ⟨b,0,none⟩) 1 1) [⟨kd,0,typ⟩]:=vC (n:=⟨kd,0,typ⟩) (hB.ext x2) (Nat.zero_le _)
 refine iBs2 rfl rfl (bU ho.sl) fun c w3 hc x3 hB3=>?_
 refine iCall ((eY (ps:=[(1,aN [⟨kd,0,typ⟩]),((ts.flatMap Tm.raw).length,aN (ts.flatMap Tm.raw))]) (Sl.ofBlk (n:=2) hB3 rfl (by decide)) rfl (fun i h1 h2=>?_) (fun p hp u hu=>?_) (by simp only [List.map_cons,List.map_nil,List.sum_cons,List.sum_nil,zT];omega)).mono ?_)
 ·rcases i with _ | _ | i
  ·exact SlK.ext hone.sl x3
  ·exact SlK.ext ho.sl x3
  ·simp at h2;omega
 ·simp only [List.mem_cons,List.not_mem_nil,or_false] at hp
  rcases hp with rfl | rfl <;> exact rY _ u hu
 ·rintro r4 w4 ⟨x4,h4⟩
  have X:=(x1.trans x2).trans x3
  refine ⟨X.trans x4,?_⟩
  unfold OwT
  have e:aN (⟨kd,0,typ⟩ :: ts.flatMap Tm.raw) = aN [⟨kd,0,typ⟩] ++ aN (ts.flatMap Tm.raw):=by rw [← DO];rfl
  rw [e,List.length_cons,Nat.add_comm]
  refine OwK.mono ?_ X.size
  simpa using h4
theorem uM {v:Value} {L:List RT} {w:World} (h:RdT w v L) (hn:0 < L.length) (hL:L.length ≤ 1000000000):Cal Tryz.prog dS #[v] w fun r w'=>Ext w w' ∧ OwT aA w.heap.size w' r L:=by
 apply jQ;unfold dQ
 obtain ⟨h1,h2⟩:=UN h hn
 refine ⟨h1,rfl,iCndF (by rw [h2];rfl) ?_⟩
 refine iBsT0 fun u w1 x1 ho=>?_
 refine iAppK gZ gW rfl (by decide) ho (SlK.ext h x1) (rY L) (by omega) (by omega) x1.size fun r w2 ho2 hg2 _=>?_
 rw [Nat.zero_add,List.nil_append] at ho2
 exact ⟨x1.grown hg2 fun c hc=>(ho.blk c hc).1,ho2⟩
theorem N1 {v:Value} {L:List RT} {k d:Nat} {w:World} (h:RdT w v L) (hn:0 < L.length) (hL:L.length ≤ 1000000000) (hb:∀ n ∈ L,n.num ≤ 1000000000) (hd:d ≤ 1000000000):Cal Tryz.prog FC #[v,.int .i64 (k:Int),.int .i64 (d:Int)] w fun r w'=>Ext w w' ∧ OwT aA w.heap.size w' r (L.map (ndQ k d)):=by
 apply PJ;unfold EO
 refine iCall ((uM h hn hL).mono ?_)
 rintro r w1 ⟨x1,ho⟩
 refine iLenK ho.sl ?_
 refine iLp (fun i:Nat=>[.int .i64 (i:Int)]) (fun i w'=>i ≤ L.length ∧ Ext w w' ∧ OwT aA w.heap.size w' r ((L.take i).map (ndQ k d) ++ L.drop i)) (fun i=>L.length - i) 0 rfl ⟨Nat.zero_le _,x1,by simpa using ho⟩ ?_
 rintro i w2 Kn ⟨hi,x2,h2⟩ hKn
 have hll:((L.take i).map (ndQ k d) ++ L.drop i).length = L.length:=by rw [List.length_append,List.length_map,List.length_take,List.length_drop];omega
 intro _
 simp only [gx]
 refine iLt (iCndP (fun hlt=>?_) (fun hlt=>?_))
 ·have hil:i < L.length:=by omega
  have hgi:gt ((L.take i).map (ndQ k d) ++ L.drop i) i = gt L i:=by
   rw [gt_eq (by omega),gt_eq hil,List.getElem_append_right (by rw [List.length_map,List.length_take];omega),List.getElem_drop]
   congr 1
   rw [List.length_map,List.length_take];omega
  have hset:∀ y,((L.take i).map (ndQ k d) ++ L.drop i).set i y = (L.take i).map (ndQ k d) ++ y :: L.drop (i + 1):=fun y=>by
   rw [List.set_append_right _ _ (by rw [List.length_map,List.length_take];omega),List.length_map,List.length_take,show i - min i L.length = 0 by omega,List.drop_eq_getElem_cons hil];rfl
  have hstep:ndQ k d (gt L i) = gt L i → (L.take i).map (ndQ k d) ++ L.drop i = (L.take (i + 1)).map (ndQ k d) ++ L.drop (i + 1):=fun e=>by
   rw [List.take_succ_eq_append_getElem hil,List.map_append,List.append_assoc,List.drop_eq_getElem_cons hil,← gt_eq hil,List.map_singleton,e];rfl
  have hstep2:(L.take i).map (ndQ k d) ++ ndQ k d (gt L i) :: L.drop (i + 1) = (L.take (i + 1)).map (ndQ k d) ++ L.drop (i + 1):=by
   rw [List.take_succ_eq_append_getElem hil,List.map_append,List.append_assoc,← gt_eq hil,List.map_singleton];rfl
  refine iLdK (cs:=(gt L i).cs.toArray) h2.sl rfl (by omega) rfl (fun f hf=>?_) ?_
  ·rw [gI (by omega) f hf,hgi];simp
  refine iNew3 fun q w3 hq x3 hB3=>?_
  refine iStAB hB3 rfl rfl (fun y hy=>?_) fun w4 hu4 hB4=>?_
  ·simp only [RT.cs,List.mem_cons,List.not_mem_nil,or_false] at hy
   rcases hy with rfl | rfl | rfl <;> rfl
  have hB4:Blk aA w4 q [.int .i64 (gt L i).kind,.int .i64 (gt L i).num,sv (gt L i).typ]:=hB4
  have x24:Ext w2 w4:=x3.upd hu4 (by omega)
  have h4:=OwK.ext h2 x24
  refine iJnB (decide ((gt L i).kind = 0 ∧ (k:Int) ≤ (gt L i).num)) w4 (fun J hJ=>?_) (fun w5 x5=>?_)
  ·refine iFa (iLdB hB4 (i:=0) (v:=.int .i64 (gt L i).kind) rfl (iEq (iCndP (fun h0=>?_) (fun h0=>?_))))
   ·refine iFa (iLdB hB4 (i:=1) (v:=.int .i64 (gt L i).num) rfl (iLe ?_))
    rw [show decide ((gt L i).kind = 0 ∧ (k:Int) ≤ (gt L i).num) = decide ((k:Int) ≤ (gt L i).num) from decide_eq_decide.2 ⟨fun e=>e.2,fun e=>⟨h0,e⟩⟩] at hJ
    exact hJ _ (Ext.refl _)
   ·rw [decide_eq_false (fun e=>h0 e.1)] at hJ
    exact hJ _ (Ext.refl _)
  intro _
  simp only [gx]
  have h5:=OwK.ext h4 x5
  have X5:=(x2.trans x24).trans x5
  refine iCndP (fun hc=>?_) (fun hc=>?_)
  ·have hbi:=hb (gt L i) (by rw [gt_eq hil];exact List.getElem_mem _)
   refine iFld (j:=i) (f:=1) (x:=.int .i64 (gt L i).num) h5.sl rfl (by omega) (by decide) (by rw [gI (by omega) 1 (by decide),hgi];rfl) ?_
   refine iAdd (by omega) ?_
   refine iWrT (y:=ndQ k d (gt L i)) h5 rfl (by omega) (by decide) rfl ?_ fun w6 h6 hc6=>?_
   ·rw [AI _ (by omega),hgi]
    congr 2
    unfold ndQ
    rw [if_pos hc]
   ·rw [hset,hstep2] at h6
    refine iAdd (by omega) ?_
    exact hKn (i + 1) _ ⟨hil,X5.thenCh hc6 fun c hc=>(h5.blk c hc).1,h6⟩ (by omega)
  ·have e:ndQ k d (gt L i) = gt L i:=if_neg hc
   rw [hstep e] at h5
   refine iAdd (by omega) ?_
   exact hKn (i + 1) _ ⟨hil,X5,h5⟩ (by omega)
 ·have:i = L.length:=by omega
  subst this
  rw [List.take_length,List.drop_length,List.append_nil] at h2
  exact ⟨x2,h2⟩
theorem uE {v:Value} {L:List Str} {t:Str} {w:World} (hs:SlT w v L):Ret Tryz.prog jG #[v,sv t] w (.int .i64 (if t ∈ L then (posT L t:Int) else -1)):=by
 apply jE;unfold eV
 have hln:=hs.len
 rw [aI] at hln
 refine aM hs ?_
 refine iLp (fun i:Nat=>[.int .i64 (i:Int)]) (fun i w'=>i ≤ L.length ∧ Ext w w' ∧ ¬ t ∈ L.take i) (fun i=>L.length - i) 0 rfl ⟨Nat.zero_le _,Ext.refl _,by simp⟩ ?_
 rintro i w2 Kn ⟨hi,h2,hno⟩ hKn
 intro _
 simp only [gx]
 refine iLt (iCndP (fun h=>?_) (fun h=>?_))
 ·have hil:i < L.length:=by omega
  refine iIaG (hs.ext h2) rfl hil (iEqT (iCndP (fun h3=>?_) (fun h3=>?_)))
  ·have hm:t ∈ L:=by rw [h3,gt_eq hil];exact List.getElem_mem _
   rw [if_pos hm]
   rw [VV hil hno (by rw [h3,gt_eq hil])]
   exact ⟨rfl,h2⟩
  ·refine iAdd (by omega) ?_
   refine hKn (i + 1) _ ⟨hil,h2,fun hm=>?_⟩ (by omega)
   rw [List.take_succ_eq_append_getElem hil] at hm
   rcases List.mem_append.1 hm with hm | hm
   ·exact hno hm
   ·rw [List.mem_singleton] at hm
    exact h3 (by rw [hm,gt_eq hil])
 ·have:i = L.length:=by omega
  subst this
  rw [List.take_length] at hno
  rw [if_neg hno]
  exact ⟨rfl,h2⟩
end Go.Proofs.YtkjoppimpmojfaaGreat

namespace Go.Vc
def MapT (D:List Str) (Q:Str → Value → Prop) (w:World) (b:Nat):Prop:=∃ es clock,w.heap[b]? = some (.map es clock) ∧ (∀ x ∈ es.toList,∃ t:Str,x.key = sv t ∧ Q t x.val) ∧ ∀ t ∈ D,∃ x ∈ es.toList,x.key = sv t
theorem MapT.mono {D:List Str} {Q Q':Str → Value → Prop} {w:World} {b:Nat} (h:MapT D Q w b) (hq:∀ t u,Q t u → Q' t u):MapT D Q' w b:=by
 obtain ⟨es,clock,hb,h1,h2⟩:=h
 exact ⟨es,clock,hb,fun x hx=>let ⟨t,e,q⟩:=h1 x hx;⟨t,e,hq _ _ q⟩,h2⟩
theorem MapT.ext {D:List Str} {Q:Str → Value → Prop} {w w':World} {b:Nat} (h:MapT D Q w b) (x:Ext w w'):MapT D Q w' b:=by
 obtain ⟨es,clock,hb,h⟩:=h
 exact ⟨es,clock,by rw [Go.RowKit.Below.block x b (dF hb)];exact hb,h⟩
section
variable {P:Program} {t k e:TypeId} {Q:Str → Value → Prop} {D:List Str}
theorem UG {w:World} {b:Nat} {s:Str} {K:Value → Prop} (h:MapT D Q w b) (ht:P.underlying t = some (.map k e)) (hk:P.underlying k = some .string) (hs:s ∈ D)
  (h1:∀ v,Q s v → K v):xR P w (Instr.lookup t (.map (some b)) (sv s) false) K:=by
 obtain ⟨es,clock,hb,hm,hd⟩:=h
 have hb':∀ w',Ext w w' → w'.heap[b]? = some (.map es clock):=fun w' x=>by rw [Go.RowKit.Below.block x b (dF hb)];exact hb
 rcases MapKept.findNow_spec (k:=sv s) (d:=.string) trivial es.toList 0 (MapB.keys hm) with ⟨f1,f2⟩ | ⟨j,e0,f1,f2,f3⟩
 ·obtain ⟨x,hx,hk'⟩:=hd s hs
  exact absurd hk' (f2 x hx)
 ·obtain ⟨u,e1,hq⟩:=hm e0 (List.mem_of_getElem? f2)
  rw [f3] at e1
  have e1:=WU e1
  subst e1
  refine ⟨_,fun w' x=>?_,h1 _ hq⟩
  simp [Instr.lookup,run_underlying ht,MapKept.run_getObj_map (hb' w' x),MapKept.run_checkKey (k:=sv s) hk trivial,MapKept.run_findKey hk f1,Result.andThen]
theorem UH {w:World} {b:Nat} {s:Str} {v:Value} {K:World → Prop} (h:MapT D Q w b) (ht:P.underlying t = some (.map k e)) (hk:P.underlying k = some .string) (hv:Q s v)
  (h1:∀ w',MapT (s :: D) Q w' b → Ch (fun c=>c = b) w w' → K w'):xOpU P (Instr.mapUpdate t (.map (some b)) (sv s) v) w K:=by
 obtain ⟨es,clock,hb,hm,hd⟩:=h
 have hset:∀ o,({ w with heap:=w.heap.setIfInBounds b o }:World).heap[b]? = some o ∧ Ch (fun c=>c = b) w { w with heap:=w.heap.setIfInBounds b o }:=fun o=>
  ⟨(MapKept.heap_set hb).1,rfl,rfl,rfl,by simp,fun i _ hi=>(MapKept.heap_set hb).2 i hi⟩
 rcases MapKept.findNow_spec (k:=sv s) (d:=.string) trivial es.toList 0 (MapB.keys hm) with ⟨f1,f2⟩ | ⟨j,e0,f1,f2,f3⟩
 ·refine ⟨_,?_,h1 { w with heap:=w.heap.setIfInBounds b (.map (es.push ⟨sv s,v,clock⟩) (clock + 1)) } ⟨_,_,(hset _).1,fun x hx=>?_,fun t ht=>?_⟩ (hset _).2⟩
  ·simp [Instr.mapUpdate,run_underlying ht,MapKept.run_getObj_map hb,MapKept.run_checkKey (k:=sv s) hk trivial,MapKept.run_findKey hk f1,MapKept.run_setObj_map _ hb,Result.andThen]
  ·simp only [Array.toList_push,List.mem_append,List.mem_singleton] at hx
   rcases hx with hx | rfl
   ·exact hm x hx
   ·exact ⟨s,rfl,hv⟩
  ·simp only [Array.toList_push,List.mem_append,List.mem_singleton]
   rcases List.mem_cons.1 ht with rfl | ht
   ·exact ⟨_,.inr rfl,rfl⟩
   ·obtain ⟨x,hx,e⟩:=hd t ht
    exact ⟨x,.inl hx,e⟩
 ·have hj:j < es.size:=by have:=(List.getElem?_eq_some_iff.1 f2).1;simpa using this
  have hkey:((es[j]?).map (·.key)).getD (sv s) = sv s:=by
   have:es[j]? = some e0:=by simpa using f2
   rw [this];exact f3
  refine ⟨_,?_,h1 { w with heap:=w.heap.setIfInBounds b (.map (es.modify j fun e=>{ e with key:=sv s,val:=v }) clock) } ⟨_,_,(hset _).1,fun x hx=>?_,fun t ht=>?_⟩ (hset _).2⟩
  ·simp only [Nat.zero_add] at f1
   simp [Instr.mapUpdate,run_underlying ht,MapKept.run_getObj_map hb,MapKept.run_checkKey (k:=sv s) hk trivial,MapKept.run_findKey hk f1,MapKept.run_setObj_map _ hb,Result.andThen,hkey,MapKept.run_keyThatStays (k:=sv s) (d:=.string) trivial]
  ·rw [Array.toList_modify] at hx
   obtain ⟨i,hi,rfl⟩:=List.getElem_of_mem hx
   rw [List.getElem_modify]
   split
   ·exact ⟨s,rfl,hv⟩
   ·exact hm _ (List.getElem_mem _)
  ·rw [Array.toList_modify]
   have hone:∀ x ∈ es.toList,∃ y ∈ es.toList.modify j fun e=>{ e with key:=sv s,val:=v },y.key = x.key ∨ (x.key = sv s ∧ y.key = sv s):=fun x hx=>by
    obtain ⟨i,hi,rfl⟩:=List.getElem_of_mem hx
    refine ⟨(es.toList.modify j fun e=>{ e with key:=sv s,val:=v })[i]'(by rw [List.length_modify];exact hi),List.getElem_mem _,?_⟩
    rw [List.getElem_modify]
    split
    ·rename_i e
     subst e
     have:es.toList[j] = e0:=by
      rw [List.getElem?_eq_getElem hi] at f2
      exact Option.some.inj f2
     exact .inr ⟨by rw [this];exact f3,rfl⟩
    ·exact .inl rfl
   rcases List.mem_cons.1 ht with rfl | ht
   ·obtain ⟨y,hy,h⟩:=hone e0 (List.mem_of_getElem? f2)
    exact ⟨y,hy,h.elim (fun e=>e.trans f3) fun e=>e.2⟩
   ·obtain ⟨x,hx,ex⟩:=hd t ht
    obtain ⟨y,hy,h⟩:=hone x hx
    exact ⟨y,hy,h.elim (fun e=>e.trans ex) fun e=>e.2.trans (e.1.symm.trans ex)⟩
end
abbrev GivT (given:Str → Tm) (D:List Str) (w:World) (b:Nat):Prop:=MapT D (fun t u=>RdT w u (given t).raw) w b
theorem GivT.ext' {given:Str → Tm} {D:List Str} {w w':World} {b:Nat} (h:GivT given D w b) (x:Ext w w'):GivT given D w' b:=(MapT.ext h x).mono fun _ _ q=>SlK.ext q x
theorem TW {ts:List Tm} {k:Nat} (hk:k < ts.length):(ts.take (k + 1)).flatMap Tm.raw = (ts.take k).flatMap Tm.raw ++ (gt ts k).raw:=by
 rw [List.take_succ_eq_append_getElem hk,List.flatMap_append,gt_eq hk];simp
theorem iAppT {P:Program} {lo:Nat} {t ty e:TypeId} {z v x:Value} {bytes:Nat} {A B:List RT} {w:World} {K:Value → World → Prop} (ht:P.underlying t = some (.slice e)) (hi:(P.info? e).map (fun i=>(i.zero,i.size,i.bytes)) = some (some z,3,bytes)) (hz:z.cells.size = 3)
  (hown:OwT e lo w v A) (hs:RdT w x B) (hb:(A.length + B.length) * bytes ≤ 140737488355328) (hm:A.length + B.length ≤ 9223372036854775807) (hlo:lo ≤ w.heap.size)
  (h:∀ v' w',OwT e lo w' v' (A ++ B) → w.grownBy w' v.ownBlock → K v' w'):xOp P (Builtin.append_ #[t,t] ty #[v,x]) w K:=
 iAppK ht hi hz (by decide) hown hs (rY B) hb hm hlo fun v' w' ho hg _=>h v' w' (by
  unfold OwT
  rw [DO,List.length_append]
  exact ho) hg
end Go.Vc
namespace Go.Proofs.YtkjoppimpmojfaaGreat
open Go.Vc
theorem sX {F:Nat → Nat → Tm} {fv:Value} {n0 B:Nat} {w0:World} (hB1:1 ≤ B) (hB2:B ≤ 1000) (hB:∀ x k,(F x k).nodes.length ≤ B)
  (hf:∀ x k w',x ≤ 99 → n0 ≤ k → k ≤ n0 + 1000 → Ext w0 w' → callV Tryz.prog fv [.agg #[.int .i64 0,.int .i64 ((x:Nat):Int),sv []],.int .i64 ((k:Nat):Int)] w' fun r w''=>Ext w' w'' ∧ OwT aA w'.heap.size w'' r (F x k).raw) (hn0:n0 ≤ 1000):
  ∀ (m:Nat) (t:Tm) (n:Nat) (v:Value) (w:World),t.raw.length ≤ m → t.raw.length ≤ 1000 → numLe 99 t → n0 ≤ n → n + t.raw.length ≤ n0 + 1000 → Ext w0 w → RdT w v t.raw → Cal Tryz.prog jX #[v,.int .i64 (n:Int),fv] w fun r w'=>Ext w w' ∧ OwT aA w.heap.size w' r (t.mapN F n).raw
 | 0,t,_,_,_,hm,_,_,_,_,_,_=>by have:=t.raw_pos;omega
 | m + 1,t,n,v,w,hm,h60,hnum,hn,hn2,x0,hv=>by
  apply HV;unfold tO
  have hpos:=t.raw_pos
  have hld:∀ {w':World} {K:Value → Prop},Ext w w' → K (.agg #[.int .i64 (t.hd.kind:Int),.int .i64 (t.hd.num:Int),sv t.hd.typ]) → xIa 3 v (.int .i64 0) fun p=>xLdA w' 3 p K:=fun {w' K} x h=>by
   refine iLdK (j:=0) (cs:=(rawN t.hd).cs.toArray) (SlK.ext hv x) rfl hpos rfl (fun f hf=>?_) h
   rw [gI hpos f hf,t.raw0];simp
  have hkd:∀ {w':World} {K:Value → Prop},Ext w w' → K (.int .i64 (t.hd.kind:Int)) → xIa 3 v (.int .i64 0) fun p=>xFa 0 p fun q=>xLd w' q K:=fun {w' K} x h=>
   iFdT (j:=0) (f:=0) (SlK.ext hv x) rfl hpos (by decide) (by rw [t.raw0];rfl) h
  refine hkd (Ext.refl _) (iEq (iCndP (fun h0=>?_) (fun h0=>?_)))
  ·have h0:t.hd.kind = 0:=by omega
   have e:=WF h0
   refine hld (Ext.refl _) ?_
   rw [e]
   show callV Tryz.prog fv [.agg #[.int .i64 0,.int .i64 ((t.hd.num:Nat):Int),sv []],.int .i64 (n:Int)] w _
   exact hf _ _ _ hnum.hd hn (by omega) x0
  ·have h0:¬ t.hd.kind = 0:=by omega
   obtain ⟨e1,e2⟩:=T1 (F:=F) (n:=n) h0
   have hML:=dI hB1 hB t n
   rw [← Tm.raw_len,← Tm.raw_len] at hML
   have hMB:t.raw.length * B ≤ 1000 * 1000:=Nat.mul_le_mul h60 hB2
   have hkl:=N8 F t n
   refine hld (Ext.refl _) ?_
   refine iBsT fun b w1 hb x1 hB1'=>?_
   have ho1:OwT aA w.heap.size w1 (.slice (some ⟨b,0,none⟩) 1 1) [rawN t.hd]:=vC (n:=rawN t.hd) hB1' (by omega)
   refine iCall ((BK hv x1 (by omega)).mono ?_)
   rintro r w2 ⟨x2,vs,hr,hkw⟩
   have hkv:=hkw
   refine iLenS hr.sl ?_
   rw [hkv.1]
   have X2:=x1.trans x2
   refine iLp (fun s:Value × Nat=>[s.1,.int .i64 (s.2:Int)]) (fun s w'=>s.2 ≤ t.kids.length ∧ Ext w w' ∧ Ow 0 aF w' r vs ∧ OwT aA w.heap.size w' s.1 (rawN t.hd :: ((kidsM F t n).take s.2).flatMap Tm.raw)) (fun s=>t.kids.length - s.2) (_,0) rfl ⟨Nat.zero_le _,X2,hr.mono (Nat.zero_le _),OwK.ext ho1 x2⟩ ?_
   rintro ⟨z,j⟩ w3 Kn ⟨hj,X3,hr3,ho⟩ hKn
   have hk3:=t.kids_len
   have hj:j ≤ t.kids.length:=hj
   have ho:OwT aA w.heap.size w3 z (rawN t.hd :: ((kidsM F t n).take j).flatMap Tm.raw):=ho
   intro _
   simp only [gx]
   refine iLt (iCndP (fun hlt=>?_) (fun hlt=>?_))
   ·have hlt:j < t.kids.length:=by omega
    have hkm:gt t.kids j ∈ t.kids:=by rw [gt_eq hlt];exact List.getElem_mem _
    have hklt:=Tm.kid_lt hkm
    refine iKid hr3.sl (hkw.ext X3) rfl hlt fun u hu=>?_
    refine hkd X3 (iRet (KS t.hd.kind j w3) fun w4 x4=>?_)
    have hbd:bindT t.hd.kind j ≤ 1:=by unfold bindT;split <;> omega
    refine iAdd (by omega) ?_
    rw [← Int.natCast_add]
    refine iCall ((sX hB1 hB2 hB hf hn0 m (gt t.kids j) (n + bindT t.hd.kind j) u w4 (by omega) (by omega) (hnum.kid hkm) (by omega) (by omega) ((x0.trans X3).trans x4) (SlK.ext hu x4)).mono ?_)
    rintro s w5 ⟨x5,hs⟩
    have x35:=x4.trans x5
    have hML2:=vE (t.mapN F n) (j + 1)
    have hst:=TW (ts:=kidsM F t n) (k:=j) (by omega)
    rw [e2,hst,List.length_append] at hML2
    rw [U5 hlt] at hst hML2
    refine iAppT gZ gW rfl (OwK.ext ho x35) hs.sl (by rw [List.length_cons];omega) (by rw [List.length_cons];omega) (X3.trans x35).size fun z' w6 ho6 hg6=>?_
    rw [List.cons_append,← hst] at ho6
    have x6:Ext w w6:=(X3.trans x35).grown hg6 fun c hc=>(OwK.blk (OwK.ext ho x35) c hc).1
    refine iAdd (by omega) ?_
    have hr6:Ow 0 aF w6 r vs:=(hr3.ext x35).ch (dG (S:=fun k=>z.ownBlock = some k) hg6 fun k hk=>hk) fun c hc hS=>absurd (ne_ty ((hr3.ext x35).ty hc) (OwK.ty (OwK.ext ho x35) hS)) (by decide)
    exact hKn (z',j + 1) _ ⟨hlt,x6,hr6,ho6⟩ (by show t.kids.length - (j + 1) < t.kids.length - j;omega)
   ·have:j = t.kids.length:=by omega
    subst this
    refine ⟨X3,?_⟩
    rw [← hkl,List.take_length,← e1,← e2,← Tm.raw_kids] at ho
    exact ho
theorem mJ {v:Value} {L:List Str} {w:World} (hs:SlT w v L):Ret Tryz.prog l7 #[v] w (.int .i64 (L.length:Int)):=by
 apply sV;unfold mB
 exact aM hs ⟨rfl,Ext.refl _⟩
structure CarW (from_ left:List Str) (more:Nat) (given:Str → Tm) (w:World) (vl vm vf:Value):Prop where
 sl:SlT w vl left
 sf:SlT w vf from_
 lenL:left.length ≤ 100
 lenF:from_.length ≤ 100
 more1:more ≤ 1
 giv:∀ a ∈ from_,¬ a ∈ left → ∃ b D,vm = .map (some b) ∧ a ∈ D ∧ GivT given D w b
 small:∀ a,(given a).raw.length ≤ 900 ∧ numLe 1000 (given a)
theorem CarW.ext {from_ left:List Str} {more:Nat} {given:Str → Tm} {w w':World} {vl vm vf:Value} (h:CarW from_ left more given w vl vm vf) (x:Ext w w'):CarW from_ left more given w' vl vm vf:=
 ⟨Sl.ext h.sl x,Sl.ext h.sf x,h.lenL,h.lenF,h.more1,fun a h1 h2=>let ⟨b,D,e,hm,hg⟩:=h.giv a h1 h2;⟨b,D,e,hm,GivT.ext' hg x⟩,h.small⟩
theorem numLe.raw {m:Nat} {t:Tm} (h:numLe m t):∀ n ∈ t.raw,n.num ≤ (m:Int):=fun n hn=>by
 obtain ⟨nd,hnd,rfl⟩:=List.mem_map.1 hn
 have:=h nd hnd
 show (nd.num:Int) ≤ m
 omega
theorem LB {from_ left:List Str} {more:Nat} {given:Str → Tm} {w:World} {vl vm vf:Value} (h:CarW from_ left more given w vl vm vf) {p7 p8 p5 p3:Nat} {e3:TypeId}
  (h7:Blk t_i64 w p7 [.int .i64 (from_.length:Int)]) (h8:Blk t_i64 w p8 [.int .i64 ((left.length + more:Nat):Int)]) (h5:Blk yS w p5 [vf]) (h3:Blk e3 w p3 [vl,.int .i64 (more:Int),vm]) {x k:Nat} (hx:x ≤ 99) (hk1:from_.length ≤ k) (hk2:k ≤ 2000):
  Cal Tryz.prog fD #[.agg #[.int .i64 0,.int .i64 (x:Int),sv []],.int .i64 (k:Int),.pointer (some ⟨p7,0,none⟩),.pointer (some ⟨p8,0,none⟩),.pointer (some ⟨p5,0,none⟩),.pointer (some ⟨p3,0,none⟩)] w fun r w'=>Ext w w' ∧ OwT aA w.heap.size w' r (carF from_ left more given x k).raw:=by
 have hm1:=h.more1
 have hl1:=h.lenL
 have hf1:=h.lenF
 apply z5;unfold nO
 refine iNew3 fun q w1 hq x1 hB1=>?_
 refine iFa (iLdB hB1 (i:=1) (v:=.int .i64 (x:Int)) rfl (iLdB (h7.ext x1) (i:=0) (v:=.int .i64 (from_.length:Int)) rfl ?_))
 refine iLe (iCndP (fun hc=>?_) (fun hc=>?_))
 ·refine iFa (iLdB hB1 (i:=1) (v:=.int .i64 (x:Int)) rfl (iLdB (h7.ext x1) (i:=0) (v:=.int .i64 (from_.length:Int)) rfl (iSub (by omega) ?_)))
  refine iLdB (h8.ext x1) (i:=0) (v:=.int .i64 ((left.length + more:Nat):Int)) rfl (iAdd (by omega) ?_)
  refine iCall ((eD _ w1).mono ?_)
  rintro r w2 ⟨x2,hr⟩
  refine ⟨x1.trans x2,?_⟩
  have e:carF from_ left more given x k = .var (x - from_.length + (left.length + more)):=if_pos (by omega)
  rw [e]
  have e2:(Tm.var (x - from_.length + (left.length + more))).raw = [⟨0,(x:Int) - (from_.length:Int) + ((left.length + more:Nat):Int),[]⟩]:=by
   show [rawN ⟨0,x - from_.length + (left.length + more),[]⟩] = _
   have e3:(((x - from_.length + (left.length + more)):Nat):Int) = (x:Int) - (from_.length:Int) + ((left.length + more:Nat):Int):=by omega
   unfold rawN
   rw [e3];rfl
  rw [e2]
  exact OwK.mono hr x1.size
 ·have hxl:x < from_.length:=by omega
  refine iLdB (h5.ext x1) (i:=0) (v:=vf) rfl ?_
  refine iFa (iLdB hB1 (i:=1) (v:=.int .i64 (x:Int)) rfl ?_)
  refine iIaG (Sl.ext h.sf x1) rfl hxl ?_
  have ha:gt from_ x ∈ from_:=by rw [gt_eq hxl];exact List.getElem_mem _
  have ec:carF from_ left more given x k = if gt from_ x ∈ left then .var (posT left (gt from_ x)) else (given (gt from_ x)).raise (left.length + more) (k - from_.length):=if_neg (by omega)
  generalize gt from_ x = a at *
  refine iFa (iLdB (h3.ext x1) (i:=0) (v:=vl) rfl ?_)
  refine iRet (uE (t:=a) (Sl.ext h.sl x1)) fun w3 x3=>iLe ?_
  have X3:=x1.trans x3
  by_cases hal:a ∈ left
  ·rw [if_pos hal] at ec ⊢
   refine iCndT (decide_eq_true (by omega)) ?_
   refine iCall ((eD _ w3).mono ?_)
   rintro r w4 ⟨x4,hr⟩
   rw [ec]
   exact ⟨X3.trans x4,OwK.mono hr X3.size⟩
  ·rw [if_neg hal] at ec ⊢
   refine iCndF (by decide) ?_
   obtain ⟨b,D,rfl,hD,hG⟩:=(h.ext X3).giv a ha hal
   refine iFa (iLdB (h3.ext X3) (i:=2) (v:=.map (some b)) rfl ?_)
   refine UG (k:=aB) (e:=aF) hG (by kernel_rfl) (by kernel_rfl) hD fun u hu=>?_
   refine iLdB (h8.ext X3) (i:=0) (v:=.int .i64 ((left.length + more:Nat):Int)) rfl ?_
   refine iLdB (h7.ext X3) (i:=0) (v:=.int .i64 (from_.length:Int)) rfl (iSub (by omega) ?_)
   rw [show (k:Int) - (from_.length:Int) = ((k - from_.length:Nat):Int) by omega]
   obtain ⟨s1,s2⟩:=h.small a
   refine iCall ((N1 hu (given a).raw_pos (by omega) (fun n hn=>by have:=numLe.raw s2 n hn;omega) (by omega)).mono ?_)
   rintro r w4 ⟨x4,hr⟩
   rw [ec,UA]
   exact ⟨X3.trans x4,OwK.mono hr X3.size⟩
theorem iQE {f:FuncId} {args:List Value} {w:World} {E:World → World → Prop} {v:Value} {K:Value → Prop} (hr:∀ w',E w w' → Ret Tryz.prog f args.toArray w' v) (h:K v):LT Tryz.prog E (.func (.func f) #[] #[]) args w K:=
 ⟨v,fun w' e=>iRet (hr w' e) fun _ x=>⟨rfl,x⟩,h⟩
theorem A7 {from_ left:List Str} {more:Nat} {given:Str → Tm} {t:Tm} {w:World} {vl vm vf vt:Value} (h:CarW from_ left more given w vl vm vf) (ht:RdT w vt t.raw) (h60:t.raw.length ≤ 60) (hnum:numLe 99 t):
  Cal Tryz.prog pS #[.agg #[vl,.int .i64 (more:Int),vm],vt,vf] w fun r w'=>Ext w w' ∧ OwT aA w.heap.size w' r (carry from_ left more given t).raw:=by
 have hm1:=h.more1
 have hl1:=h.lenL
 have hf1:=h.lenF
 apply D2;unfold pK
 refine iNew3 fun q3 w1 hq3 x1 hB3=>?_
 refine iNew fun q5 w2 hq5 x2 hB5=>?_
 have hB5:Blk yS w2 q5 [vf]:=by
  have hc:aD vf = true:=by
   obtain ⟨a,c,rfl,_⟩:=h.sf
   rfl
  rw [aH hc] at hB5;exact hB5
 have X2:=x1.trans x2
 have h2:=h.ext X2
 have hB32:=hB3.ext x2
 refine ⟨fun c=>w2.heap.size ≤ c,?_⟩
 have stab:∀ {w':World},Ch (fun c=>w2.heap.size ≤ c) w2 w' → Ext w2 w':=fun hc=>hc.toExt fun c hc=>hc
 refine iLdB hB5 (i:=0) (v:=vf) rfl ⟨fun w4 h4=>iLdB (hB5.ext (stab h4)) (i:=0) (v:=vf) rfl rfl,?_⟩
 refine iQE (fun w' e=>mJ (Sl.ext h2.sf (stab e))) ?_
 refine iFa (iLdB hB32 (i:=0) (v:=vl) rfl ⟨fun w4 h4=>iLdB (hB32.ext (stab h4)) (i:=0) (v:=vl) rfl rfl,?_⟩)
 refine iQE (fun w' e=>mJ (Sl.ext h2.sl (stab e))) ?_
 refine iFa (iLdB hB32 (i:=1) (v:=.int .i64 (more:Int)) rfl ⟨fun w4 h4=>iLdB (hB32.ext (stab h4)) (i:=1) (v:=.int .i64 (more:Int)) rfl rfl,?_⟩)
 refine iAdd (by omega) ?_
 rw [← Int.natCast_add]
 have fin:∀ {w':World} {p7 p8:Nat},Ext w2 w' → Blk t_i64 w' p7 [.int .i64 (from_.length:Int)] → Blk t_i64 w' p8 [.int .i64 ((left.length + more:Nat):Int)] → xLd w' (.pointer (some ⟨p7,0,none⟩)) fun v18=>callV Tryz.prog (.func (.func jX) #[] #[]) [vt,v18,.func (.func fD) #[] #[.pointer (some ⟨p7,0,none⟩),.pointer (some ⟨p8,0,none⟩),.pointer (some ⟨q5,0,none⟩),.pointer (some ⟨q3,0,none⟩)]] w' fun r w''=>Ext w w'' ∧ OwT aA w.heap.size w'' r (carry from_ left more given t).raw:=fun {w' p7 p8} xx h7 h8=>by
  refine iLdB h7 (i:=0) (v:=.int .i64 (from_.length:Int)) rfl ?_
  have hB:∀ x k,(carF from_ left more given x k).nodes.length ≤ 900:=fun x k=>by
   unfold carF
   split
   ·exact (show 1 ≤ 900 by decide)
   ·split
    ·exact (show 1 ≤ 900 by decide)
    ·rw [GL,← Tm.raw_len];exact (h.small _).1
  refine iCall ((sX (F:=carF from_ left more given) (n0:=from_.length) (B:=900) (w0:=w') (by decide) (by decide) hB (fun x k w4 hx hk1 hk2 x4=>?_) (by omega) t.raw.length t from_.length vt w' (Nat.le_refl _) (by omega) hnum (Nat.le_refl _) (by omega) (Ext.refl _) (SlK.ext ht (X2.trans xx))).mono ?_)
  ·exact iClo rfl (LB (h2.ext (xx.trans x4)) (h7.ext x4) (h8.ext x4) (hB5.ext (xx.trans x4)) (hB32.ext (xx.trans x4)) hx hk1 (by omega))
  ·rintro r w5 ⟨x5,hr⟩
   exact ⟨(X2.trans xx).trans x5,OwK.mono hr (X2.trans xx).size⟩
 have tail:∀ {w':World} {p7 p8:Nat} {a b:Value},Ext w2 w' → w2.heap.size ≤ p7 → w2.heap.size ≤ p8 → p8 ≠ p7 → Blk t_i64 w' p7 [a] → Blk t_i64 w' p8 [b] → xSt w' (.pointer (some ⟨p7,0,none⟩)) (.int .i64 (from_.length:Int)) fun w12=>Ch (fun c=>w2.heap.size ≤ c) w' w12 ∧ ∀ w13,Ext w12 w13 → xSt w13 (.pointer (some ⟨p8,0,none⟩)) (.int .i64 ((left.length + more:Nat):Int)) fun w14=>∀ w15,Ext w14 w15 → xLd w15 (.pointer (some ⟨p7,0,none⟩)) fun v18=>callV Tryz.prog (.func (.func jX) #[] #[]) [vt,v18,.func (.func fD) #[] #[.pointer (some ⟨p7,0,none⟩),.pointer (some ⟨p8,0,none⟩),.pointer (some ⟨q5,0,none⟩),.pointer (some ⟨q3,0,none⟩)]] w15 fun r w''=>Ext w w'' ∧ OwT aA w.heap.size w'' r (carry from_ left more given t).raw:=fun {w' p7 p8 a b} xx h1 h2 hne h7 h8=>by
  refine iStU h7 (by simp) rfl fun w12 hB12 u12=>⟨u12.ch h1,fun w13 x13=>?_⟩
  refine iStU ((h8.upd u12 hne).ext x13) (by simp) rfl fun w14 hB14 u14 w15 x15=>?_
  exact fin ((((xx.upd u12 h1).trans x13).upd u14 h2).trans x15) (((hB12.ext x13).upd u14 hne.symm).ext x15) (hB14.ext x15)
 intro w7 x7
 have sz7:=x7.size
 refine ⟨?_,?_⟩
 ·refine iNew fun p7 w8 hp7 x8 hB8=>⟨x8.ch,fun w9 x9=>?_⟩
  refine iNew fun p8 w10 hp8 x10 hB10=>⟨x10.ch,fun w11 x11=>?_⟩
  rw [aH (show aD (.int .i64 0) = true from rfl)] at hB8 hB10
  have h89:=x9.size
  exact tail ((x7.trans x8).trans ((x9.trans x10).trans x11)) (by omega) (by omega) (by omega) (hB8.ext ((x9.trans x10).trans x11)) (hB10.ext x11)
 ·refine iNew fun p8 w8 hp8 x8 hB8=>⟨x8.ch,fun w9 x9=>?_⟩
  refine iNew fun p7 w10 hp7 x10 hB10=>⟨x10.ch,fun w11 x11=>?_⟩
  rw [aH (show aD (.int .i64 0) = true from rfl)] at hB8 hB10
  have h89:=x9.size
  exact tail ((x7.trans x8).trans ((x9.trans x10).trans x11)) (by omega) (by omega) (by omega) (hB10.ext x11) (hB8.ext ((x9.trans x10).trans x11))
end Go.Proofs.YtkjoppimpmojfaaGreat

namespace Go.Vc
/-! ### Small maps; rows beside a map that turns -/
def Map0 (w:World) (b:Nat):Prop:=∃ clock,w.heap[b]? = some (.map #[] clock)
def eE (s:Str) (v:Value) (w:World) (b:Nat):Prop:=∃ c clock,w.heap[b]? = some (.map #[⟨sv s,v,c⟩] clock)
def IsMap (w:World) (b:Nat):Prop:=∃ es clock,w.heap[b]? = some (.map es clock)
theorem Map0.is {w:World} {b:Nat} (h:Map0 w b):IsMap w b:=let ⟨c,h⟩:=h;⟨_,c,h⟩
theorem eE.is {s:Str} {v:Value} {w:World} {b:Nat} (h:eE s v w b):IsMap w b:=let ⟨_,c,h⟩:=h;⟨_,c,h⟩
theorem Map0.ext {w w':World} {b:Nat} (h:Map0 w b) (x:Ext w w'):Map0 w' b:=by
 obtain ⟨c,h⟩:=h
 exact ⟨c,by rw [Go.RowKit.Below.block x b (dF h)];exact h⟩
theorem eE.ext {s:Str} {v:Value} {w w':World} {b:Nat} (h:eE s v w b) (x:Ext w w'):eE s v w' b:=by
 obtain ⟨d,c,h⟩:=h
 exact ⟨d,c,by rw [Go.RowKit.Below.block x b (dF h)];exact h⟩
theorem Map0.ch {w w':World} {b c:Nat} (h:Map0 w b) (x:Ch (fun d=>d = c) w w') (hne:b ≠ c):Map0 w' b:=by
 obtain ⟨k,h⟩:=h
 exact ⟨k,by rw [x.block b (dF h) hne];exact h⟩
theorem eE.ch {s:Str} {v:Value} {w w':World} {b c:Nat} (h:eE s v w b) (x:Ch (fun d=>d = c) w w') (hne:b ≠ c):eE s v w' b:=by
 obtain ⟨d,k,h⟩:=h
 exact ⟨d,k,by rw [x.block b (dF h) hne];exact h⟩
theorem eE.toT {s:Str} {v:Value} {w:World} {b:Nat} {Q:Str → Value → Prop} (h:eE s v w b) (q:Q s v):MapT [s] Q w b:=by
 obtain ⟨d,c,h⟩:=h
 refine ⟨_,c,h,fun x hx=>?_,fun t ht=>?_⟩
 ·simp only [List.mem_singleton] at hx
  rw [hx];exact ⟨s,rfl,q⟩
 ·rw [List.mem_singleton.1 ht]
  exact ⟨⟨sv s,v,d⟩,by simp,rfl⟩
theorem mO {k n b:Nat} {w w':World} {v:Value} {xs:List Value} (hm:IsMap w b) (h:SlK k w v n xs) (hc:Ch (fun c=>c = b) w w'):SlK k w' v n xs:=by
 obtain ⟨h0,a,c,rfl,h2,h3,h4⟩:=h
 refine ⟨h0,a,c,rfl,h2,h3,h4.imp id fun ⟨b',o,ha,hcells⟩=>⟨b',o,ha,fun i hi=>?_⟩⟩
 have h5:=hcells i hi
 rw [List.getElem?_eq_getElem (by omega)] at h5
 obtain ⟨es,clock,hb⟩:=hm
 have hne:b' ≠ b:=by
  rintro rfl
  simp [World.cell?,hb] at h5
 have hlt:b' < w.heap.size:=by
  rcases Nat.lt_or_ge b' w.heap.size with hl | hl
  ·exact hl
  ·simp [World.cell?,Array.getElem?_eq_none hl] at h5
 rw [← hcells i hi]
 unfold World.cell?
 rw [hc.block b' hlt hne]
section
variable {P:Program} {t k e:TypeId}
theorem fI {w:World} {K:Value → World → Prop} (h:∀ b w',b = w.heap.size → Ext w w' → Map0 w' b → K (.map (some b)) w'):xOp P (Instr.makeMap t none) w K:=
 ⟨_,_,rfl,h _ _ rfl (Ext.alloc w _) ⟨0,heap_alloc_new w _⟩⟩
theorem lQ {w:World} {b:Nat} {s:Str} {v:Value} {K:World → Prop} (h:Map0 w b) (ht:P.underlying t = some (.map k e)) (hk:P.underlying k = some .string)
  (h1:∀ w',eE s v w' b → Ch (fun c=>c = b) w w' → K w'):xOpU P (Instr.mapUpdate t (.map (some b)) (sv s) v) w K:=by
 obtain ⟨clock,hb⟩:=h
 have hset:∀ o,({ w with heap:=w.heap.setIfInBounds b o }:World).heap[b]? = some o ∧ Ch (fun c=>c = b) w { w with heap:=w.heap.setIfInBounds b o }:=fun o=>
  ⟨(MapKept.heap_set hb).1,rfl,rfl,rfl,by simp,fun i _ hi=>(MapKept.heap_set hb).2 i hi⟩
 refine ⟨_,?_,h1 { w with heap:=w.heap.setIfInBounds b (.map (#[].push ⟨sv s,v,clock⟩) (clock + 1)) } ⟨clock,_,(hset _).1⟩ (hset _).2⟩
 have f1:Instr.findNow .string (sv s) (#[]:Array MapEntry).toList 0 = some none:=rfl
 simp [Instr.mapUpdate,run_underlying ht,MapKept.run_getObj_map hb,MapKept.run_checkKey (k:=sv s) hk trivial,MapKept.run_findKey hk f1,MapKept.run_setObj_map _ hb,Result.andThen]
theorem UD {Q:Str → Value → Prop} {w:World} {b:Nat} {s0 s:Str} {u0 v:Value} {K:World → Prop} (h:eE s0 u0 w b) (ht:P.underlying t = some (.map k e)) (hk:P.underlying k = some .string) (hv:Q s v) (h0:¬ s = s0 → Q s0 u0)
  (h1:∀ w',MapT [s,s0] Q w' b → Ch (fun c=>c = b) w w' → K w'):xOpU P (Instr.mapUpdate t (.map (some b)) (sv s) v) w K:=by
 by_cases e:s = s0
 ·subst e
  obtain ⟨d,clock,hb⟩:=h
  have hset:∀ o,({ w with heap:=w.heap.setIfInBounds b o }:World).heap[b]? = some o ∧ Ch (fun c=>c = b) w { w with heap:=w.heap.setIfInBounds b o }:=fun o=>
   ⟨(MapKept.heap_set hb).1,rfl,rfl,rfl,by simp,fun i _ hi=>(MapKept.heap_set hb).2 i hi⟩
  have hkey:∀ x ∈ (#[⟨sv s,u0,d⟩]:Array MapEntry).toList,MapKept.IsKey .string x.key:=fun x hx=>by
   simp only [List.mem_singleton] at hx
   rw [hx];trivial
  rcases MapKept.findNow_spec (k:=sv s) (d:=.string) trivial (#[⟨sv s,u0,d⟩]:Array MapEntry).toList 0 hkey with ⟨-,f2⟩ | ⟨j,e0,f1,f2,-⟩
  ·exact absurd rfl (f2 ⟨sv s,u0,d⟩ (by simp))
  ·have hj:j = 0:=by
    have:=(List.getElem?_eq_some_iff.1 f2).1
    simp at this;omega
   subst hj
   refine ⟨_,?_,h1 { w with heap:=w.heap.setIfInBounds b (.map #[⟨sv s,v,d⟩] clock) } ?_ (hset _).2⟩
   ·simp only [Nat.zero_add] at f1
    simp [Instr.mapUpdate,run_underlying ht,MapKept.run_getObj_map hb,MapKept.run_checkKey (k:=sv s) hk trivial,MapKept.run_findKey hk f1,MapKept.run_setObj_map _ hb,Result.andThen,MapKept.run_keyThatStays (k:=sv s) (d:=.string) trivial]
   ·refine ⟨_,_,(hset _).1,fun x hx=>?_,fun t ht=>⟨⟨sv s,v,d⟩,by simp,?_⟩⟩
    ·simp only [List.mem_singleton] at hx
     rw [hx];exact ⟨s,rfl,hv⟩
    ·simp only [List.mem_cons,List.not_mem_nil,or_false,or_self] at ht
     rw [ht]
 ·exact UH (D:=[s0]) (h.toT (h0 e)) ht hk hv h1
end
end Go.Vc
