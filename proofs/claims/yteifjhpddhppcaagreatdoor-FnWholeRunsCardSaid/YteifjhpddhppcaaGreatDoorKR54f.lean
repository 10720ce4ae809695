/- The proof of FnWholeRunsCard, part 6 of 8. Conditions: none. -/
import Derived.Test.YteifjhpddhppcaaGreatDoorKR54e
import Derived.Lib.AppendZerosOnto
import Derived.Lib.Overlaps
import Derived.Shelf.Strings.Count
import Derived.Lib.ItoaNum
import Derived.Lib.AppendIntMem
import Derived.Lib.ConvBytes
namespace Go.Vc
theorem aDK {P:Program} {sz n j:Nat} {w:World} {v:Value} {xs ys:List Value} {k:IntKind} {K:Value → Prop} (hs:SlK sz w v n xs) (hj:j < n) (hl:ys.length = sz) (hy:∀ i,i < sz → xs[j * sz + i]? = ys[i]?) (h:K (.agg ys.toArray)):xIa sz v (.int k (j:Int)) fun p=>xLdA w sz p K:=by
 have _:=P
 refine iIaK hs hj fun b o hc=>?_
 refine ⟨_,ys.toArray,rfl,by simpa using hl,fun i hi=>?_,h⟩
 have e:(⟨b,o,none⟩:Addr).add i = ⟨b,o + i,none⟩:=by
  simp only [Addr.add];split
  ·rename_i e;simp [e]
  ·rfl
 rw [e,hc i hi,hy i hi]
 simp
end Go.Vc
namespace Go.Proofs.YteifjhpddhppcaaGreatDoor
open Go.Vc
theorem H0 (x:Int) (w:World):Ret Tryz.prog wA #[.int .i64 x] w (.bool (decide (0 ≤ x ∧ x ≤ 5))):=by
 apply LU;unfold vY
 exact iRet (e4 x 0 5 w) fun w1 h1=>⟨rfl,h1⟩
theorem PY (q:RN) (w:World):Ret Tryz.prog uK #[.agg #[.int .i64 q.1,.int .i64 q.2]] w (.bool (okN q)):=by
 obtain ⟨k,s⟩:=q
 show Ret Tryz.prog uK #[.agg #[.int .i64 k,.int .i64 s]] w (.bool (okN (k,s)))
 have e:okN (k,s) = (decide (0 ≤ k ∧ k ≤ 6) && (decide (0 ≤ s ∧ s ≤ 5) && (decide (k = 0) || decide (s = 0)))):=rfl
 apply VG;unfold GI
 refine iNew fun p w1 _ x1 hB=>?_
 have hB:Blk _ w1 p [.int .i64 k,.int .i64 s]:=hB
 refine iFa (iLdB hB (v:=.int .i64 k) rfl ?_)
 refine iEq (iCndP (fun h0=>?_) (fun h0=>?_))
 ·refine iFa (iLdB hB (v:=.int .i64 s) rfl ?_)
  refine iRet (H0 _ w1) fun w2 x2=>⟨?_,x1.trans x2⟩
  rw [e,decide_eq_true h0,decide_eq_true (by omega:0 ≤ k ∧ k ≤ 6)]
  simp
 ·refine iJnB (okN (k,s)) w1 (fun J hJ=>?_) (fun w2 x2=>fun _=>⟨rfl,x1.trans x2⟩)
  refine iFa (iLdB hB (v:=.int .i64 k) rfl ?_)
  refine iRet (e4 _ _ _ w1) fun w2 x2=>?_
  rw [e,decide_eq_false h0] at hJ
  by_cases c1:1 ≤ k ∧ k ≤ 6
  ·rw [decide_eq_true c1]
   refine iCndT rfl ?_
   refine iFa (iLdB (hB.ext x2) (v:=.int .i64 s) rfl ?_)
   refine iEq ?_
   rw [decide_eq_true (by omega:0 ≤ k ∧ k ≤ 6),Bool.true_and,Bool.false_or] at hJ
   by_cases c2:s = 0
   ·rw [decide_eq_true c2] at hJ ⊢
    rw [decide_eq_true (by omega:0 ≤ s ∧ s ≤ 5)] at hJ
    exact hJ _ x2
   ·rw [decide_eq_false c2] at hJ ⊢
    rw [Bool.and_false] at hJ
    exact hJ _ x2
  ·rw [decide_eq_false c1]
   rw [decide_eq_false (by omega:¬ (0 ≤ k ∧ k ≤ 6)),Bool.false_and] at hJ
   exact iCndF rfl (hJ _ x2)
theorem vO {v fv:Value} {N:List RN} {w:World} (hs:RawS w v N) (p:RN → Bool) (hf:∀ q ∈ N,∀ w',Ext w w' → callV Tryz.prog fv [.agg #[.int .i64 q.1,.int .i64 q.2]] w' fun u w''=>u = .bool (p q) ∧ Ext w' w''):
  Ret Tryz.prog dC #[v,fv] w (.bool (N.any p)):=by
 have hln:=hs.len
 apply dA;unfold bR
 refine iRet (v:=.int .i64 (match N.findIdx? p with | some i=>(i:Int) | none=>-1)) ?_ fun w1 x1=>iLe ⟨?_,x1⟩
 ·apply dR;unfold b9
  refine iLenK hs ?_
  refine iLp (fun i:Nat=>[.int .i64 (i:Int)]) (fun i w'=>i ≤ N.length ∧ Ext w w' ∧ ∀ x ∈ N.take i,p x = false) (fun i=>N.length - i) 0 rfl ⟨Nat.zero_le _,Ext.refl _,by simp⟩ ?_
  rintro i w2 Kn ⟨hi,h2,hno⟩ hKn
  intro _
  simp only [gx]
  refine iLt (iCndP (fun h=>?_) (fun h=>?_))
  ·have hil:i < N.length:=by omega
   have hat:=sI hil
   refine aDK (P:=Tryz.prog) (ys:=[.int .i64 N[i].1,.int .i64 N[i].2]) (hs.ext h2) (by omega) rfl (fun j hj=>?_) ?_
   ·rcases j with _ | _ | j
    ·exact hat.1
    ·exact hat.2
    ·omega
   refine (hf _ (List.getElem_mem hil) w2 h2).mono ?_
   rintro u w3 ⟨rfl,x3⟩
   cases hp:p N[i]
   ·refine iCndF (by first | rfl | exact hp) ?_
    refine iAdd (by omega) ?_
    refine hKn (i + 1) _ ⟨by omega,h2.trans x3,?_⟩ (by omega)
    rw [List.take_succ_eq_append_getElem hil]
    intro x hx
    rcases List.mem_append.1 hx with hx | hx
    ·exact hno x hx
    ·simp at hx;rw [hx];exact hp
   ·refine iCndT (by first | rfl | exact hp) ⟨?_,h2.trans x3⟩
    have:N.findIdx? p = some i:=List.findIdx?_eq_some_iff_getElem.2 ⟨hil,hp,fun j hj=>by
     have:=hno (N[j]'(by omega)) (List.mem_take_iff_getElem.2 ⟨j,by omega,rfl⟩)
     simp [this]⟩
    rw [this]
  ·refine ⟨?_,h2⟩
   rw [List.take_of_length_le (by omega)] at hno
   have:N.findIdx? p = none:=List.findIdx?_eq_none_iff.2 hno
   rw [this]
 ·cases h:N.findIdx? p with
  | none=>
   have:=List.findIdx?_eq_none_iff.1 h
   have h2:N.any p = false:=List.any_eq_false.2 fun x hx=>by simp [this x hx]
   simp [h2]
  | some i=>
   obtain ⟨hi,hp,_⟩:=List.findIdx?_eq_some_iff_getElem.1 h
   have h2:N.any p = true:=List.any_eq_true.2 ⟨N[i],List.getElem_mem _,hp⟩
   simp [h2]
theorem OK {v:Value} {N:List RN} {i:Nat} {w:World} (hs:RawS w v N) (hok:N.all okN = true) (hi:i ≤ N.length) (hn:N.length ≤ 1099511627776):Ret Tryz.prog rU #[v,.int .i64 (i:Int)] w (.int .i64 (endN N i)):=by
 apply CS;unfold rT
 refine iLp (fun s:Nat × Nat=>[.int .i64 (s.1:Int),.int .i64 (s.2:Int)]) (fun s w'=>Ext w w' ∧ s.1 ≤ N.length ∧ s.2 ≤ 1 + 2 * s.1 ∧ goN (N.drop s.1) s.2 = goN (N.drop i) 1) (fun s=>N.length - s.1) (i,1) rfl ⟨Ext.refl _,hi,by show 1 ≤ 1 + 2 * i;omega,rfl⟩ ?_
 rintro ⟨j,o⟩ w2 Kn ⟨x2,hj,ho,hg⟩ hKn
 have hj:j ≤ N.length:=hj
 have ho:o ≤ 1 + 2 * j:=ho
 have hg:goN (N.drop j) o = goN (N.drop i) 1:=hg
 intro _
 simp only [gx]
 refine iLt (iCndP (fun h3=>?_) (fun h3=>?_))
 ·obtain ⟨o',rfl⟩:∃ o',o = o' + 1:=⟨o - 1,by omega⟩
  refine iLenK (SlK.ext hs x2) ?_
  refine iLe (iCndP (fun h4=>?_) (fun h4=>?_))
  ·obtain rfl:j = N.length:=by omega
   rw [List.drop_length] at hg
   refine ⟨?_,x2⟩
   unfold endN
   rw [← hg];rfl
  ·have hj1:j < N.length:=by omega
   have hat:=sI hj1
   obtain ⟨k,s,hq,hk6,_⟩:=YO (List.all_eq_true.1 hok _ (List.getElem_mem hj1))
   refine iFld (f:=0) (SlK.ext hs x2) rfl hj1 (by decide) hat.1 ?_
   have e1:N[j].1 = (k:Int):=by rw [hq]
   rw [e1]
   refine iRet (jY k w2) fun w3 x3=>?_
   have hak:arity k ≤ 2:=by unfold arity;split;omega;split <;> omega
   refine iSub (by omega) (iAdd (by omega) (iAdd (by omega) ?_))
   rw [show ((o' + 1:Nat):Int) + ((arity k:Int) - 1) = ((o' + arity k:Nat):Int) by omega]
   refine hKn (j + 1,o' + arity k) _ ⟨x2.trans x3,by show j + 1 ≤ N.length;omega,by show o' + arity k ≤ 1 + 2 * (j + 1);omega,?_⟩ (by show N.length - (j + 1) < N.length - j;omega)
   show goN (N.drop (j + 1)) (o' + arity k) = _
   rw [← hg,W7 hj1,e1,ZQ]
 ·obtain rfl:o = 0:=by omega
  rw [FI] at hg
  refine ⟨?_,x2⟩
  unfold endN
  rw [← hg]
  show Value.int .i64 (j:Int) = .int .i64 ((N.length - (N.drop j).length:Nat):Int)
  rw [List.length_drop,show N.length - (N.length - j) = j by omega]
def modN (q:RN):Bool:=decide (q.1 = 5) || decide (q.1 = 6)
def fK (N:List RN):Bool:=!N.any modN
theorem t7 {v:Value} {N:List RN} {w:World} (hs:RawS w v N) (hn:N.length ≤ 1099511627776):Ret Tryz.prog yF #[v] w (.bool (isN N)):=by
 apply ON;unfold yV
 refine iJnB (isN N) w (fun J hJ=>?_) (fun w2 x2=>fun _=>⟨rfl,x2⟩)
 refine iLenK hs ?_
 refine iLe (iCndP (fun h1=>?_) (fun h1=>?_))
 ·refine iLenK hs ?_
  refine iLe (iCndP (fun h2=>?_) (fun h2=>?_))
  ·refine iRet (vO hs (fun q=>!okN q) fun q hq w' x'=>?_) fun w3 x3=>?_
   ·refine iRet (v:=.bool (!okN q)) ?_ fun w5 x5=>⟨rfl,x5⟩
    apply IS;unfold tL
    refine iNew fun p w1 _ x1 hB=>?_
    refine iLdA hB rfl ?_
    refine iRet (PY q w1) fun w4 x4=>?_
    exact iNot ⟨rfl,x1.trans x4⟩
   rw [show (N.any fun q=>!okN q) = !N.all okN by rw [List.not_all_eq_any_not]]
   refine iNot ?_
   rw [Bool.not_not]
   unfold isN at hJ
   rw [decide_eq_true (by omega:N.length ≤ 40),Bool.true_and] at hJ
   cases hall:N.all okN
   ·refine iCndF rfl ?_
    unfold treeN at hJ
    rw [hall,Bool.false_and] at hJ
    exact hJ _ x3
   ·refine iCndT rfl ?_
    refine iRet (OK (i:=0) (SlK.ext hs x3) hall (Nat.zero_le _) hn) fun w4 x4=>?_
    refine iLenK ((SlK.ext hs x3).ext x4) ?_
    refine iEq ?_
    rw [TX hall (by omega)]
    exact hJ _ (x3.trans x4)
  ·unfold isN at hJ
   rw [decide_eq_false (by omega:¬ N.length ≤ 40),Bool.false_and] at hJ
   exact hJ _ (Ext.refl _)
 ·have h0:N = []:=List.length_eq_zero_iff.1 (by omega)
  subst h0
  exact hJ _ (Ext.refl _)
theorem OJ (k:Int) (w:World):Ret Tryz.prog rL #[.int .i64 k] w (.bool (decide (k = 5) || decide (k = 6))):=by
 apply CX;unfold r3
 refine iJnB (decide (k = 5) || decide (k = 6)) w (fun J hJ=>?_) (fun w2 x2=>fun _=>⟨rfl,x2⟩)
 refine iEq (iCndP (fun h=>?_) (fun h=>?_))
 ·rw [decide_eq_true h,Bool.true_or] at hJ
  exact hJ _ (Ext.refl _)
 ·rw [decide_eq_false h,Bool.false_or] at hJ
  exact iEq (hJ _ (Ext.refl _))
theorem NP {v:Value} {N:List RN} {w:World} (hs:RawS w v N):Ret Tryz.prog q0 #[v] w (.bool (fK N)):=by
 apply DI;unfold rF
 refine iRet (vO hs modN fun q hq w' x'=>?_) fun w3 x3=>iNot ⟨rfl,x3⟩
 refine iRet (v:=.bool (modN q)) ?_ fun w5 x5=>⟨rfl,x5⟩
 apply xY;unfold nI
 refine iNew fun p w1 _ x1 hB=>?_
 have hB:Blk _ w1 p [.int .i64 q.1,.int .i64 q.2]:=hB
 refine iFa (iLdB hB (v:=.int .i64 q.1) rfl ?_)
 exact iRet (OJ _ w1) fun w4 x4=>⟨rfl,x1.trans x4⟩
abbrev VN:=Value × List RN
structure RwN (w:World) (v:Value) (L:List VN):Prop where
 row:Sl w v (L.map Prod.fst)
 raw:∀ p ∈ L,RawS w p.1 p.2
theorem RwN.ext {w w':World} {v:Value} {L:List VN} (h:RwN w v L) (x:Ext w w'):RwN w' v L:=⟨h.row.ext x,fun p hp=>SlK.ext (h.raw p hp) x⟩
theorem RwN.len {w:World} {v:Value} {L:List VN} (h:RwN w v L):L.length ≤ 9223372036854775807:=by have:=h.row.len;rwa [List.length_map] at this
theorem RwN.one {w:World} {v u:Value} {N:List RN} (h:Sl w v [u]) (k:RawS w u N):RwN w v [(u,N)]:=⟨h,fun p hp=>by
 simp only [List.mem_singleton] at hp
 subst hp;exact k⟩
theorem iRdN {w:World} {v:Value} {L:List VN} {j:Nat} {k:IntKind} {K:Value → Prop} (hs:RwN w v L) (hj:j < L.length) (h:K L[j].1):xIa 1 v (.int k (j:Int)) fun p=>xLd w p K:=
 iIa (j:=(j:Int)) hs.row (by omega) (by rw [List.length_map];omega) fun p hp=>iLd (by rw [hp];simp [hj]) h
theorem tP {v fv:Value} {L:List VN} {w:World} (hs:RwN w v L) (p:List RN → Bool) (hf:∀ q ∈ L,∀ w',Ext w w' → callV Tryz.prog fv [q.1] w' fun u w''=>u = .bool (p q.2) ∧ Ext w' w''):
  Ret Tryz.prog cR #[v,fv] w (.bool (L.any fun q=>p q.2)):=by
 have hln:=hs.len
 apply cT;unfold bN
 refine iRet (v:=.int .i64 (match L.findIdx? (fun q=>p q.2) with | some i=>(i:Int) | none=>-1)) ?_ fun w1 x1=>iLe ⟨?_,x1⟩
 ·apply dF;unfold bX
  refine iLenS hs.row ?_
  rw [List.length_map]
  refine iLp (fun i:Nat=>[.int .i64 (i:Int)]) (fun i w'=>i ≤ L.length ∧ Ext w w' ∧ ∀ x ∈ L.take i,p x.2 = false) (fun i=>L.length - i) 0 rfl ⟨Nat.zero_le _,Ext.refl _,by simp⟩ ?_
  rintro i w2 Kn ⟨hi,h2,hno⟩ hKn
  intro _
  simp only [gx]
  refine iLt (iCndP (fun h=>?_) (fun h=>?_))
  ·have hil:i < L.length:=by omega
   refine iRdN (hs.ext h2) hil ?_
   refine (hf _ (List.getElem_mem hil) w2 h2).mono ?_
   rintro u w3 ⟨rfl,x3⟩
   cases hp:p L[i].2
   ·refine iCndF (by first | rfl | exact hp) ?_
    refine iAdd (by omega) ?_
    refine hKn (i + 1) _ ⟨by omega,h2.trans x3,?_⟩ (by omega)
    rw [List.take_succ_eq_append_getElem hil]
    intro x hx
    rcases List.mem_append.1 hx with hx | hx
    ·exact hno x hx
    ·simp at hx;rw [hx];exact hp
   ·refine iCndT (by first | rfl | exact hp) ⟨?_,h2.trans x3⟩
    have:L.findIdx? (fun q=>p q.2) = some i:=List.findIdx?_eq_some_iff_getElem.2 ⟨hil,hp,fun j hj=>by
     have:=hno (L[j]'(by omega)) (List.mem_take_iff_getElem.2 ⟨j,by omega,rfl⟩)
     simp [this]⟩
    rw [this]
  ·refine ⟨?_,h2⟩
   rw [List.take_of_length_le (by omega)] at hno
   have:L.findIdx? (fun q=>p q.2) = none:=List.findIdx?_eq_none_iff.2 hno
   rw [this]
 ·cases h:L.findIdx? (fun q=>p q.2) with
  | none=>
   have:=List.findIdx?_eq_none_iff.1 h
   have h2:(L.any fun q=>p q.2) = false:=List.any_eq_false.2 fun x hx=>by simp [this x hx]
   simp [h2]
  | some i=>
   obtain ⟨hi,hp,_⟩:=List.findIdx?_eq_some_iff_getElem.1 h
   have h2:(L.any fun q=>p q.2) = true:=List.any_eq_true.2 ⟨L[i],List.getElem_mem _,hp⟩
   simp [h2]
theorem FR {v:Value} {L:List VN} {w:World} (hs:RwN w v L) (hn:∀ p ∈ L,p.2.length ≤ 1099511627776):Ret Tryz.prog tR #[v] w (.bool (L.all fun q=>isN q.2)):=by
 apply KN;unfold t8
 refine iRet (tP hs (fun N=>!isN N) fun q hq w' x'=>?_) fun w3 x3=>iNot ⟨?_,x3⟩
 ·refine iRet (v:=.bool (!isN q.2)) ?_ fun w5 x5=>⟨rfl,x5⟩
  apply FB;unfold pD
  exact iRet (t7 (SlK.ext (hs.raw q hq) x') (hn q hq)) fun w4 x4=>iNot ⟨rfl,x4⟩
 ·rw [List.not_any_eq_all_not];simp
/-! ### Variables -/
end Go.Proofs.YteifjhpddhppcaaGreatDoor

namespace Go.Proofs.YteifjhpddhppcaaGreatDoor
open Go.Vc
/-! ### Formulas -/
theorem B0 (q:RN) (N:List RN):fK (q :: N) = (!modN q && fK N):=by simp [fK]
theorem F1 (M N:List RN):fK (M ++ N) = (fK M && fK N):=by simp [fK]
theorem yS:∀ {a:Fm},Fm.pl a ↔ a.good ∧ fK (rawF a) = true
 | .var v=>by simp [Fm.pl,Fm.good,rawF,fK,modN]
 | .fls=>by simp [Fm.pl,Fm.good,rawF,fK,modN]
 | .and a b=>by
  have h1:=yS (a:=a)
  have h2:=yS (a:=b)
  simp only [Fm.pl,Fm.good,rawF,B0,F1,h1,h2,Bool.and_eq_true]
  exact ⟨fun h=>⟨⟨h.1.1,h.2.1⟩,rfl,h.1.2,h.2.2⟩,fun h=>⟨⟨h.1.1,h.2.2.1⟩,h.1.2,h.2.2.2⟩⟩
 | .or a b=>by
  have h1:=yS (a:=a)
  have h2:=yS (a:=b)
  simp only [Fm.pl,Fm.good,rawF,B0,F1,h1,h2,Bool.and_eq_true]
  exact ⟨fun h=>⟨⟨h.1.1,h.2.1⟩,rfl,h.1.2,h.2.2⟩,fun h=>⟨⟨h.1.1,h.2.2.1⟩,h.1.2,h.2.2.2⟩⟩
 | .imp a b=>by
  have h1:=yS (a:=a)
  have h2:=yS (a:=b)
  simp only [Fm.pl,Fm.good,rawF,B0,F1,h1,h2,Bool.and_eq_true]
  exact ⟨fun h=>⟨⟨h.1.1,h.2.1⟩,rfl,h.1.2,h.2.2⟩,fun h=>⟨⟨h.1.1,h.2.2.1⟩,h.1.2,h.2.2.2⟩⟩
 | .box a=>by simp [Fm.pl,rawF,fK,modN]
 | .dia a=>by simp [Fm.pl,rawF,fK,modN]
theorem ZL {a:Fm} (h:a.good) (hs:a.size ≤ 40):isN (rawF a) = true:=YP.2 ⟨a,h,hs,rfl⟩
/-! ### Jankov's formulas are plain -/

/-! ### Valuations -/
def upB (f:Fr) (x:Int):Bool:=maskB f.n x && decide (rowsK f.a x.toNat f.n = x.toNat)
def valB (n:Int) (l vs:List Int):Bool:=iM n l && (decide (vs.length = 6) && vs.all (upB (frOf n l)))
theorem aET {f:Fr} {m:Nat} (h:m ∈ dZ f):upB f (m:Int) = true:=by
 have h1:=I4 h
 unfold dZ upK at h
 rw [List.mem_filter,decide_eq_true_eq] at h
 unfold upB maskB
 rw [Bool.and_eq_true,decide_eq_true_eq,decide_eq_true_eq,Int.toNat_natCast]
 exact ⟨by omega,h.2⟩
abbrev vV (vals:List Nat):Nat → Nat:=fun v=>vals.getD v 0
theorem vV_ok {f:Fr} (hp:Po f) {vals:List Nat} (h:∀ x ∈ vals,x ∈ dZ f):ValOk f (vV vals):=fun v=>by
 show vals.getD v 0 ∈ _
 rcases Nat.lt_or_ge v vals.length with h1 | h1
 ·exact h _ (aCN h1)
 ·rw [List.getD_eq_getElem?_getD,List.getElem?_eq_none h1];exact KZ hp
theorem N7 {f:Fr} (hf:f.ok) {v:Value} {w:World} (hs:SlN w v f.a) (x:Int):Ret Tryz.prog i7 #[.agg #[.int .i64 (f.n:Int),v],.int .i64 x] w (.bool (upB f x)):=by
 by_cases h:maskB f.n x = true
 ·have h':=h
  unfold maskB at h'
  rw [decide_eq_true_eq] at h'
  have:=Nat.two_pow_pos f.n
  obtain ⟨m,rfl⟩:=Int.eq_ofNat_of_zero_le h'.1
  have:=DH hf hs m (by omega)
  unfold upB
  rw [h,Bool.true_and,Int.toNat_natCast]
  exact this
 ·have h:=Bool.eq_false_iff.2 h
  have hf8:=hf.1
  unfold upB
  rw [h,Bool.false_and]
  apply pB;unfold jC
  refine iNew fun b w1 hb1 x1 hB=>?_
  have hB:Blk _ w1 b [.int .i64 (f.n:Int),v]:=hB
  refine iJnB false w1 (fun J hJ=>?_) (fun w3 h3=>fun _=>⟨rfl,x1.trans h3⟩)
  refine iFa (iLdB hB (i:=0) (v:=.int .i64 (f.n:Int)) rfl ?_)
  refine iRet (rD f.n x (by omega) w1) fun w4 x4=>?_
  rw [h,Bool.and_false]
  exact iCndF rfl (hJ _ x4)
theorem HI {v vv:Value} {w:World} {n:Int} {l vs:List Int} (hs:SlI w v l) (hv:SlI w vv vs):Ret Tryz.prog tX #[.agg #[.int .i64 n,v],vv] w (.bool (valB n l vs)):=by
 apply JY;unfold sN
 refine iNew fun b w1 hb1 x1 hB=>?_
 have hB:Blk _ w1 b [.int .i64 n,v]:=hB
 have hv1:=hv.ext x1
 refine iJnB (valB n l vs) w1 (fun J hJ=>?_) (fun w3 h3=>fun _=>⟨rfl,x1.trans h3⟩)
 refine iLdA hB rfl ?_
 refine iRet (Q2 (hs.ext x1) n) fun w4 x4=>?_
 unfold valB at hJ
 cases hp:iM n l
 ·rw [hp,Bool.false_and] at hJ
  exact iCndF rfl (hJ _ x4)
 ·rw [hp,Bool.true_and] at hJ
  obtain ⟨hP,hn0,hl0⟩:=aAE hp
  refine iCndT rfl ?_
  refine iLenI hv1 ?_
  refine iEq (iCndP (fun h6=>?_) (fun h6=>?_))
  ·rw [decide_eq_true (by omega),Bool.true_and] at hJ
   refine iRet (gD (hv1.ext x4) (fun x=>!upB (frOf n l) x) (fun w' x' x hx=>iClo rfl ?_)) fun w5 x5=>?_
   ·refine FN ?_;unfold pM
    refine iLdA ((hB.ext x4).ext x') rfl ?_
    have hsn:SlN w' v (frOf n l).a:=by
     have:=((hs.ext x1).ext x4).ext x'
     unfold SlN
     rw [← hl0];exact this
    have:=N7 hP.ok hsn x
    rw [← hn0] at this
    exact iRet this fun w6 x6=>iNot ⟨rfl,x6⟩
   ·refine iNot ?_
    rw [show (!vs.any fun x=>!upB (frOf n l) x) = vs.all (upB (frOf n l)) by rw [List.not_any_eq_all_not];simp]
    exact hJ _ (x4.trans x5)
  ·rw [decide_eq_false (by omega),Bool.false_and] at hJ
   exact hJ _ x4
/-! ### Forcing in the reference -/
/-! ### IsForcedAt, where all is well -/
end Go.Proofs.YteifjhpddhppcaaGreatDoor

namespace Go.Proofs.YteifjhpddhppcaaGreatDoor
open Go.Vc
theorem pl_of:∀ {a:Fm},a.good → a.plain = true → Fm.pl a
 | .var _,h,_=>h
 | .fls,_,_=>trivial
 | .and _ _,hg,hp=>⟨pl_of hg.1 (cC hp).1,pl_of hg.2 (cC hp).2⟩
 | .or _ _,hg,hp=>⟨pl_of hg.1 (e6 hp).1,pl_of hg.2 (e6 hp).2⟩
 | .imp _ _,hg,hp=>⟨pl_of hg.1 (aQ hp).1,pl_of hg.2 (aQ hp).2⟩
 | .box _,_,h=>by cases h
 | .dia _,_,h=>by cases h
structure CmOk (r:Str) (W:List Nd) (vals:List Nat):Prop where
 po:Po (fW W)
 pos:0 < W.length
 le:W.length ≤ 8
 l6:vals.length = 6
 up:∀ x ∈ vals,x ∈ dZ (fW W)
 no:(frc (fW W) (vV vals) (fT r)).testBit 0 = false
theorem cm_of {r:Str} (hr:SmT r) {W:List Nd} {vals:List Nat} (hB:Built (fT r) [] W ([],r)) (hv:ValW W vals) (h8:W.length ≤ 8):CmOk r W vals:=by
 obtain ⟨hg,hp,-⟩:=hr.gt.at
 have hW:∀ x,x < W.length → jF (fT r) W W.length x:=fun x hx=>hB.ok x (Nat.zero_le _) hx
 have hpos:0 < W.length:=hB.len
 have h6:=hv.1
 refine ⟨fW_po h8 hW,hpos,h8,h6,fun x hx=>?_,?_⟩
 ·obtain ⟨v,hvl,rfl⟩:=List.getElem_of_mem hx
  rw [← gt_eq hvl]
  exact aFF h8 hW (hv.2 v (by omega))
 ·refine aCS h8 hpos hW (V:=vV vals) (fun v hv6 x hx=>?_) hg hp hB.ref
  have e:vV vals v = gt vals v:=by
   show vals.getD v 0 = _
   rw [gt_eq (by omega),List.getD_eq_getElem?_getD,List.getElem?_eq_getElem (by omega)];rfl
  rw [e,hv.2 v hv6 x]
  exact ⟨fun h=>h.2,fun h=>⟨hx,h⟩⟩
theorem NW {lo:Nat} {v:Value} {w:World} {l:List Nat} (hs:Ow lo t_i64 w v (ints (nats l))):Cal Tryz.prog B5 #[v] w fun r w'=>Ext w w' ∧ r = .agg #[.int .i64 (l.length:Int),v]:=by
 apply SI;unfold E3
 refine iNew2 fun b w1 hb h1 hB=>?_
 have ho1:=hs.ext h1
 refine iRet (jA ho1.sl) fun w2 h2=>?_
 rw [bV,bU]
 refine dD rfl hs.cell ?_
 refine iSt2 (hB.ext h2) rfl rfl hs.cell fun w3 hB3 hc3=>?_
 refine iLd2 hB3 ?_
 exact ⟨(h1.trans h2).thenCh hc3 fun c hc=>by have hc:c = b:=hc;omega,rfl⟩
def FcQ (r:Str) (w':World):Value → Prop:=fun u=>(∃ z z',u = .tuple #[.agg #[z,z'],.slice none 0 0,.int .i64 3] ∧ aC z = true ∧ aC z' = true) ∨ ∃ va vv W vals,u = .tuple #[.agg #[.int .i64 ((W.length:Nat):Int),va],vv,.int .i64 0] ∧ CmOk r W vals ∧ Ow 0 t_i64 w' va (ints (nats (W.map Nd.m))) ∧ Ow 0 t_i64 w' vv (ints (nats vals))
theorem wH {r:Str} (hr:SmT r) (hn:¬ VT [] r) {db mb:Nat} {w:World} {v:Value} (hD:Dec w db mb) (hv:TxW 0 w v []):Cal Tryz.prog kI #[dp db,.agg #[v,sv r]] w fun u w'=>Ch (fun c=>c = mb) w w' ∧ FcQ r w' u:=by
 obtain ⟨hg,hp,-⟩:=hr.gt.at
 have hsz:=hr.size
 apply xX;unfold lC
 refine iNew2 fun q3 w1 hq3 x1 hB3=>?_
 refine iNew2 fun q4 w2 hq4 x2 hB4=>?_
 refine iMk (n:=6) (by decide) (by decide) rfl fun b0 w3 hb0 x3 hB0=>?_
 refine bB (cs:=#[dp db,.slice none 0 0,.slice (some ⟨b0,0,none⟩) 6 6]) (by simp [Instr.fill,Value.cells,dp]) ?_
 refine iNew fun b w4 hb x4 hB=>?_
 have hB:Blk 126 w4 b [dp db,.slice none 0 0,.slice (some ⟨b0,0,none⟩) 6 6]:=hB
 have X4:=((x1.trans x2).trans x3).trans x4
 have hlo:w.heap.size ≤ b0:=by have:=x1.size;have:=x2.size;omega
 have hvv:Ow w.heap.size t_i64 w4 (.slice (some ⟨b0,0,none⟩) 6 6) (ints (nats [0,0,0,0,0,0])):=Ow.ofBlk (hB0.ext x4) hlo rfl (by decide)
 have hMW:MW w.heap.size w4 b db mb [] [0,0,0,0,0,0]:=⟨by have:=X4.size;have:=x3.size;omega,hD.ext X4,.slice none 0 0,_,hB,Ow.nil _ _ _,hvv,fun c hc=>by cases hc⟩
 have hVW:ValW [] [0,0,0,0,0,0]:=⟨rfl,fun v hv x=>by
  have:gt ([0,0,0,0,0,0]:List Nat) v = 0:=by
   have:v = 0 ∨ v = 1 ∨ v = 2 ∨ v = 3 ∨ v = 4 ∨ v = 5:=by omega
   rcases this with rfl | rfl | rfl | rfl | rfl | rfl <;> rfl
  rw [this,Nat.zero_testBit]
  exact ⟨fun h=>(by cases h),fun h=>absurd h.1 (Nat.not_lt_zero _)⟩⟩
 have hNI:NI (fT r) [] r:=⟨⟨List.Pairwise.nil,fun t ht=>by cases ht⟩,⟨hr.gt,lF _⟩,hn⟩
 refine iLd2 (hB3.ext ((x2.trans x3).trans x4)) ?_
 refine iCall ((jG hp hsz (cnt (fT r) [] + 1) hNI (Nat.lt_succ_self _) w4 v [] [0,0,0,0,0,0] hMW hVW (by simp) (hv.ext X4)).mono ?_)
 rintro _ w5 ⟨m,ok,rfl,bc5,hok⟩
 have hc5:Ch (fun c=>c = mb) w w5:=Ch.trans (X4.ch (S:=fun c=>c = mb)) bc5 fun c hc=>by
  rcases hc with rfl | rfl | ⟨h0,-⟩
  ·exact .inl rfl
  ·exact .inr (by have:=x1.size;have:=x2.size;have:=x3.size;omega)
  ·exact .inr h0
 have hm4:MapB KnQ w4 mb:=hMW.dec.map
 have hq4b:¬ q4 = b:=by have:=x2.size;have:=x3.size;omega
 have hB45:Blk _ w5 q4 [.int .i64 0,.slice none 0 0]:=Blk.mch ((hB4.ext (x3.trans x4))) bc5 hm4 hB (by decide) (by decide)
 have lo4:w.heap.size ≤ q4:=by have:=x1.size;omega
 refine iEx rfl (iEx rfl (iNot (iCnd (fun hb'=>?_) (fun hb'=>?_))))
 ·refine bB (cs:=#[.int .i64 0,.slice none 0 0]) (by simp [Instr.fill]) ?_
  refine iSt2 hB45 rfl rfl rfl fun w6 hB6 hc6=>?_
  refine iLd2 hB6 ?_
  exact ⟨hc5.trans hc6 fun c hc=>.inr (by have hc:c = q4:=hc;omega),.inl ⟨_,_,rfl,rfl,rfl⟩⟩
 have hok1:ok = true:=by simpa using hb'
 obtain ⟨V,vals',hMV,hVV,hV8,hBt,rfl⟩:=hok hok1
 obtain ⟨va5,vv5,hB5,hva5,hvv5,-⟩:=hMV.ex
 have hbq:¬ b = q4:=fun e=>hq4b e.symm
 refine ⟨fun c=>c = q4,?_⟩
 refine iNil (iFa (iLdB hB5 (i:=1) (v:=va5) rfl ⟨fun w9 h9=>iLdB (hB5.ch h9 hbq) (i:=1) (v:=va5) rfl rfl,?_⟩))
 refine iNil (iFa (iLdB hB5 (i:=2) (v:=vv5) rfl ⟨fun w9 h9=>iLdB (hB5.ch h9 hbq) (i:=2) (v:=vv5) rfl rfl,?_⟩))
 intro w11 x11
 refine iCall ((NW (hva5.ext x11)).mono ?_)
 rintro _ w12 ⟨x12,rfl⟩
 refine ⟨x12.ch,fun w13 x13=>?_⟩
 have x513:=(x11.trans x12).trans x13
 have hB413:=hB45.ext x513
 refine iSt2 hB413 rfl rfl hva5.cell fun w14 hB14 hc14=>⟨hc14,fun w15 x15=>?_⟩
 refine iLd2 (hB14.ext x15) ?_
 have keep:∀ {lo:Nat} {u:Value} {xs:List Value},Ow lo t_i64 w5 u xs → Ow 0 t_i64 w15 u xs:=fun h=>(((h.ext x513).ch hc14 fun c hc hS=>(h.ext x513).ne_blk hB413 (by decide) (by have hS:c = q4:=hS;rw [hc,hS])).ext x15).mono (Nat.zero_le _)
 refine ⟨?_,.inr ⟨va5,vv5,V,vals',by rw [List.length_map],cm_of hr hBt hVV hV8,keep hva5,keep hvv5⟩⟩
 exact ((hc5.trans (x513.ch (S:=fun c=>c = mb)) fun _ e=>.inl e).trans hc14 fun c hc=>.inr (by have hc:c = q4:=hc;omega)).trans (x15.ch (S:=fun c=>c = mb)) fun _ e=>.inl e
theorem y0 {v:Value} {r:Str} {w:World} (hs:TxW 0 w v []) (hr:SmT r) (hn:¬ VT [] r):Cal Tryz.prog n7 #[v,sv r] w fun u w'=>Ext w w' ∧ FcQ r w' u:=by
 apply ER;unfold nM
 refine iNew2 fun q4 w1 hq4 x1 hB4=>?_
 refine iRet (LP (hs.ext x1).sl hr) fun w2 x2=>?_
 refine iNe (iCndF (decide_eq_false fun h=>h rfl) ?_)
 refine iCall ((sO w2).mono ?_)
 rintro _ w5 ⟨x5,db,mb,rfl,hD,hmb⟩
 have h:SqT (setT []) r:=⟨fun t ht=>(by cases ht),hr.gt,by
  have:=w2_20 hr.gt.at.2.1 hr.size
  show 0 + (fT r).w2 ≤ _
  omega⟩
 have X5:=(x1.trans x2).trans x5
 refine iCall ((kM (L:=[]) hD (hs.ext X5) h (by simp)).mono ?_)
 rintro _ w6 ⟨rfl,hm6,hc6⟩
 rw [nH.2 hn]
 refine iCndF rfl ?_
 refine dD hs.cell rfl ?_
 refine iCall ((wH hr hn (hD.tr hm6 hc6) (TxW.tr (hs.ext X5) hD.map hc6)).mono ?_)
 rintro u w9 ⟨hc9,hF⟩
 have hc59:Ch (fun c=>c = mb) w5 w9:=hc6.trans hc9 fun _ e=>.inl e
 have hqm:¬ q4 = mb:=by have:=hB4.lt;have:=x2.size;omega
 have hB9:=(hB4.ext (x2.trans x5)).ch hc59 hqm
 have lo4:w.heap.size ≤ q4:=by omega
 have X9:Ext w w9:=X5.thenCh hc59 fun c hc=>by have hc:c = mb:=hc;have:=x1.size;have:=x2.size;omega
 rcases hF with ⟨z,z',rfl,hz,hz'⟩ | ⟨va,vv,W,vals,rfl,hcm,hva,hvv⟩
 ·refine iEx rfl (iEx rfl (iEx rfl ?_))
  refine iSt2 hB9 rfl hz hz' fun w10 hB10 hc10=>?_
  refine iLd2 hB10 ⟨X9.thenCh hc10 fun c hc=>by have hc:c = q4:=hc;omega,.inl ⟨_,_,rfl,hz,hz'⟩⟩
 ·refine iEx rfl (iEx rfl (iEx rfl ?_))
  refine iSt2 hB9 rfl rfl hva.cell fun w10 hB10 hc10=>?_
  have keep:∀ {u:Value} {xs:List Value},Ow 0 t_i64 w9 u xs → Ow 0 t_i64 w10 u xs:=fun h=>h.ch hc10 fun c hc hS=>h.ne_blk hB9 (by decide) (by have hS:c = q4:=hS;rw [hc,hS])
  refine iLd2 hB10 ⟨X9.thenCh hc10 fun c hc=>by have hc:c = q4:=hc;omega,.inr ⟨va,vv,W,vals,rfl,hcm,keep hva,keep hvv⟩⟩
theorem HU {v:Value} {w:World} (hs:SlT w v []):Ret Tryz.prog uY #[v] w (.slice none 0 0):=by
 apply LX;unfold vC
 refine bO hs ?_
 refine iLp (fun _:Unit=>[.slice none 0 0,.int .i64 0]) (fun _ w'=>Ext w w') (fun _=>0) () rfl (Ext.refl _) ?_
 rintro _ w2 Kn x2 hKn
 intro _
 simp only [gx]
 exact iLt (iCndF (decide_eq_false (by simp)) ⟨by first | trivial | rfl,x2⟩)
theorem M8 {r:Str} (hr:SmT r) {W:List Nd} {vals:List Nat} (hc:CmOk r W vals) {va vv vl:Value} {w:World} (hs:SlN w va (W.map Nd.m)) (hv:SlN w vv vals) (hl:SlT w vl []):
  Ret Tryz.prog o7 #[.agg #[.int .i64 ((W.length:Nat):Int),va],vv,vl,sv r] w (.int .i64 ((sdiff (2 ^ W.length - 1) (frc (fW W) (vV vals) (fT r)):Nat):Int)):=by
 obtain ⟨hg,hp,-⟩:=hr.gt.at
 have hpl:=pl_of hg hp
 have hlt:∀ y ∈ vals,y < 2 ^ (fW W).n:=fun y hy=>I4 (hc.up y hy)
 have h8:=hc.le
 have hp8:2 ^ W.length ≤ 2 ^ 8:=Nat.pow_le_pow_right (by omega) h8
 have hfl:frc (fW W) (vV vals) (fT r) < 2 ^ W.length:=aEM hc.po (vV_ok hc.po hc.up) (fT r)
 have hsz:=hr.size
 apply F2;unfold oJ
 refine iNew2 fun q w1 _ x1 hB1=>?_
 refine iLd2 hB1 ?_
 refine iRetQ (fun w' _=>vH W.length h8 va w') ?_
 refine iLd2 hB1 ?_
 intro w2 x2
 refine iCall ((bH r w2).mono ?_)
 rintro vn w3 ⟨x3,hvn,-⟩
 have hvn:FmW w2.heap.size w3 vn (fT r):=hvn hr.code
 have X3:=(x1.trans x2).trans x3
 refine ⟨x3,?_⟩
 refine iRetQ (fun w' x'=>R8 (f:=fW W) hc.po.ok (Sl.ext hs (X3.trans x')) (Sl.ext hv (X3.trans x')) hc.l6 hlt (SlK.ext hvn.sl x') hpl (by omega)) ?_
 refine OT (by have:=Nat.two_pow_pos W.length;omega) (by show frc (fW W) (vV vals) (fT r) < 2 ^ 63;omega) ?_
 intro w4 x4
 refine iRet (HU (hl.ext (X3.trans x4))) fun w5 x5=>?_
 refine iLenK (k:=1) (n:=0) (OwK.nil 1 0 0 w5).sl ?_
 refine iLp (fun _:Unit=>[.int .i64 ((sdiff (2 ^ W.length - 1) (frc (fW W) (vV vals) (fT r)):Nat):Int),.int .i64 0]) (fun _ w'=>Ext w5 w') (fun _=>0) () rfl (Ext.refl _) ?_
 rintro _ w7 Kn x7 hKn
 intro _
 simp only [gx]
 exact iLt (iCndF (decide_eq_false (by simp)) ⟨by first | trivial | rfl,((X3.trans x4).trans x5).trans x7⟩)
theorem y5 {r:Str} (hr:SmT r) {W:List Nd} {vals:List Nat} (hc:CmOk r W vals) {va vv vl:Value} {w:World} (hs:SlN w va (W.map Nd.m)) (hv:SlN w vv vals) (hl:SlT w vl []):
  Ret Tryz.prog nV #[.agg #[.int .i64 ((W.length:Nat):Int),va],vv,.int .i64 0,vl,sv r] w (.tuple #[.bool true,.int .i64 0]):=by
 have h8:=hc.le
 have hpos:=hc.pos
 have hvb:valB (W.length:Int) (nats (W.map Nd.m)) (nats vals) = true:=by
  have h1:=XQ hc.po
  have h2:=RM (g:=fW W)
  unfold valB
  rw [show iM (W.length:Int) (nats (W.map Nd.m)) = true from h1,show frOf (W.length:Int) (nats (W.map Nd.m)) = fW W from h2,bU,decide_eq_true hc.l6,Bool.true_and,Bool.true_and,List.all_eq_true]
  intro y hy
  obtain ⟨m,hm,rfl⟩:=List.mem_map.1 hy
  exact aET (hc.up m hm)
 apply EC;unfold nZ
 refine iNew2 fun q w1 _ x1 hB1=>?_
 refine iJnB false w1 (fun J hJ=>?_) (fun w3 x3=>?_)
 ·refine iLd2 hB1 ?_
  refine iRet (HI (n:=(W.length:Int)) (Sl.ext hs x1) (Sl.ext hv x1)) fun w4 x4=>iNot ?_
  rw [hvb]
  refine iCndF rfl ?_
  refine iRet (vI (hl.ext (x1.trans x4)) List.Pairwise.nil (fun t ht=>by cases ht) (by simp) hr) fun w5 x5=>iNot ?_
  exact hJ _ (x4.trans x5)
 intro _
 simp only [gx]
 have X3:=x1.trans x3
 refine iCndF rfl (iLd2 (hB1.ext x3) ?_)
 refine iRet (IG (W.length:Int) 0 (by omega) w3) fun w6 x6=>iNot ?_
 rw [decide_eq_true (by omega)]
 refine iCndF rfl (iLd2 ((hB1.ext x3).ext x6) ?_)
 have X6:=X3.trans x6
 refine iRet (M8 hr hc (Sl.ext hs X6) (Sl.ext hv X6) (hl.ext X6)) fun w7 x7=>?_
 have hp8:2 ^ W.length ≤ 2 ^ 8:=Nat.pow_le_pow_right (by omega) h8
 have hbit:(sdiff (2 ^ W.length - 1) (frc (fW W) (vV vals) (fT r))).testBit 0 = true:=by
  rw [e8,hc.no,Nat.testBit_two_pow_sub_one,decide_eq_true hpos];rfl
 have hsl:sdiff (2 ^ W.length - 1) (frc (fW W) (vV vals) (fT r)) < 2 ^ 63:=Nat.lt_of_lt_of_le (pE (n:=W.length) fun j hj=>by
  rw [e8,Bool.and_eq_true,Nat.testBit_two_pow_sub_one,decide_eq_true_eq] at hj
  exact hj.1) (Nat.pow_le_pow_right (by omega) (by omega))
 refine iRet (sC _ 0 hsl (by omega) w7) fun w8 x8=>⟨?_,(X6.trans x7).trans x8⟩
 rw [hbit]
theorem OP {v:Value} {f:Fm} {w:World} (hs:FmS w v f) (hg:f.good) (hn:f.size ≤ 40):Ret Tryz.prog DM #[v] w (.tuple #[.bool f.plain,.int .i64 0]):=by
 apply SX;unfold DD
 refine iRet (t7 (FmS.raw hs) (by rw [bM];omega)) fun w1 x1=>iNot ?_
 rw [ZL hg hn]
 refine iCndF rfl ?_
 exact iRet (pQ (SlK.ext hs x1)) fun w2 x2=>⟨rfl,x1.trans x2⟩
theorem CT {v:Value} {f:Fm} {w:World} (hs:FmS w v f) (hg:f.good) (hp:f.plain = true) (hn:f.size ≤ 20):Ret Tryz.prog qD #[v] w (.tuple #[.bool (vF [] f),.int .i64 0]):=by
 have hpl:=yS.1 (pl_of hg hp)
 apply H2;unfold qF
 refine iBs1 rfl (SlK.cellOk hs) fun b w1 _ x1 hB=>?_
 have hone:Sl w1 (.slice (some ⟨b,0,none⟩) 1 1) [v]:=Sl.ofBlk (n:=1) hB rfl (by decide)
 have hR:RwN w1 (.slice (some ⟨b,0,none⟩) 1 1) [(v,rawF f)]:=RwN.one hone (FmS.raw (SlK.ext hs x1))
 refine iRet (v:=.int .i64 0) ?_ fun w2 x2=>?_
 ·apply xB;unfold kL
  refine iRet (v:=.int .i64 0) ?_ fun w2 x2=>?_
  ·apply N5;unfold yJ
   refine iRet (FR hR (fun p hp=>by rw [List.mem_singleton.1 hp];show (rawF f).length ≤ _;rw [bM];omega)) fun w2 x2=>iNot ?_
   rw [show ([(v,rawF f)]:List VN).all (fun q=>isN q.2) = true by simp [ZL hg (show f.size ≤ 40 by omega)]]
   refine iCndF rfl ?_
   refine iRet (tP (hR.ext x2) (fun N=>!fK N) fun q hq w' x'=>?_) fun w3 x3=>?_
   ·refine iRet (v:=.bool (!fK q.2)) ?_ fun w5 x5=>⟨rfl,x5⟩
    apply I2;unfold tF
    exact iRet (NP (SlK.ext ((hR.ext x2).raw q hq) x')) fun w4 x4=>iNot ⟨rfl,x4⟩
   rw [show ([(v,rawF f)]:List VN).any (fun q=>!fK q.2) = false by simp [hpl.2]]
   exact iCndF rfl ⟨rfl,x2.trans x3⟩
  refine iNe (iCndF rfl ?_)
  refine iCall ((dM (vs:=[v]) (ps:=[(f.size,f.cells)]) (hone.ext x2) rfl (fun i h1 h2=>?_) (fun p hp u hu=>?_) (by simp;omega)).mono ?_)
  ·have:i = 0:=by simpa using h1
   subst this
   exact SlK.ext hs (x1.trans x2)
  ·rw [List.mem_singleton.1 hp] at hu
   exact f.cells_cell u hu
  rintro u w3 ⟨x3,ho⟩
  have ho:OwK 2 w2.heap.size aE w3 u f.size (f.cells ++ []):=ho
  refine iLenK ho.sl (iLt (iCndF (decide_eq_false (by omega)) ⟨rfl,x2.trans x3⟩))
 refine iNe (iCndF rfl ?_)
 refine iRet (bD (SlK.ext hs (x1.trans x2)) hg (by omega)) fun w3 x3=>?_
 have h:SqT (setT []) f.body:=⟨fun t ht=>by simp [setT] at ht,GT.of hg hp,by
  have:=M5 hp hn
  rw [cL hg]
  show 0 + _ ≤ _
  omega⟩
 refine iRet (xU (L:=[]) (Ow.nil _ _ _) h (by simp)) fun w4 x4=>⟨?_,((x1.trans x2).trans x3).trans x4⟩
 rw [show setT [] = [] from rfl,vB_vF hg]
end Go.Proofs.YteifjhpddhppcaaGreatDoor

namespace Go.Vc
def Rx (e:TypeId) (w:World) (g cap:Nat) (cur:List Value):Prop:=Blk e w g cur ∧ cur.length = cap * 2 ∧ cap ≤ 9223372036854775807
theorem OwK.rx {lo n:Nat} {e:TypeId} {w:World} {v:Value} {xs:List Value} (h:OwK 2 lo e w v n xs) (hn:0 < n):
  ∃ g cap cur,v = .slice (some ⟨g,0,none⟩) n cap ∧ lo ≤ g ∧ n ≤ cap ∧ Rx e w g cap cur ∧ cur.take (n * 2) = xs:=by
 obtain ⟨_,⟨_,h0⟩ | ⟨g,cap,cur,hv,hg,hh,h1,h2,h3,h4⟩⟩:=h
 ·omega
 ·exact ⟨g,cap,cur.toList,hv,hg,h1,⟨by unfold Blk;rw [Array.toArray_toList];exact hh,by simpa using h3,h2⟩,h4⟩
section
variable {P:Program} {w:World} {e:TypeId} {g cap:Nat} {cur:List Value}
theorem Rx.own {lo n:Nat} {xs:List Value} (h:Rx e w g cap cur) (hl:lo ≤ g) (hn:n ≤ cap) (hx:cur.take (n * 2) = xs):OwK 2 lo e w (.slice (some ⟨g,0,none⟩) n cap) n xs:=
 ⟨by rw [← hx,List.length_take,h.2.1];omega,.inr ⟨g,cap,cur.toArray,rfl,hl,h.1,hn,h.2.2,by simpa using h.2.1,by simpa using hx⟩⟩
theorem Rx.ext {w':World} (h:Rx e w g cap cur) (x:Ext w w'):Rx e w' g cap cur:=⟨h.1.ext x,h.2⟩
def putX (cur:List Value) (o:Nat) (ys:List Value):List Value:=cur.take o ++ ys ++ cur.drop (o + ys.length)
theorem aC9 {cur:List Value} {o:Nat} {ys:List Value} (h:o + ys.length ≤ cur.length):(putX cur o ys).length = cur.length:=by
 unfold putX;rw [List.length_append,List.length_append,List.length_take,List.length_drop];omega
theorem aB5 {cur:List Value} {o n:Nat} {ys:List Value} (h:o + ys.length ≤ cur.length) (hn:n = o + ys.length):(putX cur o ys).take n = cur.take o ++ ys:=by
 unfold putX
 have hl:(cur.take o ++ ys).length = n:=by rw [List.length_append,List.length_take];omega
 rw [List.take_append_of_le_length (by omega),List.take_of_length_le (by omega)]
theorem Rx.set (h:Rx e w g cap cur) {cur':List Value} (hl:cur'.length = cur.length):Rx e (w.setRow g cur'.toArray) g cap cur' ∧ Ch (fun c=>c = g) w (w.setRow g cur'.toArray):=
 ⟨⟨setRow_heap w g cur.toArray _ e (0,0) h.1,by rw [hl];exact h.2.1,h.2.2⟩,⟨rfl,rfl,rfl,by rw [setRow_size];exact Nat.le_refl _,fun c _ hc=>setRow_other w g c _ hc⟩⟩
theorem SlK.srcX {k m:Nat} {x:Value} {ys:List Value} (hs:SlK k w x m ys):∃ a c,x = .slice a m c ∧ ys.length = m * k ∧ ((a = none ∧ m = 0) ∨ ∃ ad,a = some ad ∧ ∀ j u,ys[j]? = some u → w.cell? (ad.add j) = some u):=by
 obtain ⟨hyl,a,c,rfl,hlc,hcm,hcells⟩:=hs
 refine ⟨a,c,rfl,hyl,?_⟩
 rcases hcells with rfl | ⟨b,o,rfl,hc⟩
 ·cases a with
  | none=>exact .inl ⟨rfl,rfl⟩
  | some ad=>
   refine .inr ⟨ad,rfl,fun j u hu=>?_⟩
   have:ys = []:=List.length_eq_zero_iff.1 (by omega)
   rw [this] at hu;simp at hu
 ·refine .inr ⟨_,rfl,fun j u hu=>?_⟩
  have hj:j < ys.length:=(List.getElem?_eq_some_iff.1 hu).1
  rw [bE,hc j (by omega),hu]
theorem aFA {t ty:TypeId} {i m bytes:Nat} {x z:Value} {ys:List Value} {K:Value → World → Prop} (ht:P.underlying t = some (.slice e)) (hi:(P.info? e).map (fun i=>(i.zero,i.size,i.bytes)) = some (some z,2,bytes))
  (hR:Rx e w g cap cur) (hs:SlK 2 w x m ys) (hy:∀ u ∈ ys,aC u = true) (hroom:i + m ≤ cap)
  (h:∀ w',Rx e w' g cap (putX cur (i * 2) ys) → Ch (fun c=>c = g) w w' → K (.slice (some ⟨g,0,none⟩) (i + m) cap) w'):
  xOp P (Builtin.append_ #[t,t] ty #[.slice (some ⟨g,0,none⟩) i cap,x]) w K:=by
 obtain ⟨inf,hi,h3⟩:=Option.map_eq_some_iff.1 hi
 simp only [Prod.mk.injEq] at h3
 obtain ⟨-,hsz,-⟩:=h3
 obtain ⟨a,c,rfl,hyl,⟨rfl,rfl⟩ | ⟨ad,rfl,hsrc⟩⟩:=hs.srcX
 ·have:ys = []:=List.length_eq_zero_iff.1 (by omega)
  subst this
  refine ⟨_,w,?_,h w (by simpa [putX] using hR) ⟨rfl,rfl,rfl,Nat.le_refl _,fun _ _ _=>rfl⟩⟩
  have:i ≤ cap:=by omega
  simp [Builtin.append_,run_underlying ht,sizeOf,typeInfo,hi,Builtin.lenOf,Builtin.firstCells,this,storeCells]
 ·have hl3:=hR.2.1
  have hr:=run_append_room (P:=P) w t ty e inf ht hi g i cap cur.toArray hR.1 ad m c ys (by rw [hsz];exact hyl) hsrc (fun u hu=>eF (hy u hu)) hroom (by simp [hsz];omega)
  rw [hsz] at hr
  obtain ⟨h1,h2⟩:=hR.set (cur':=putX cur (i * 2) ys) (aC9 (by omega))
  exact ⟨_,_,hr,h _ h1 h2⟩
end
/-! ### Parts of slices of elements of two cells -/
theorem iHX {g o n c k:Nat} {ki:IntKind} {K:Value → Prop} (hk:k ≤ c) (h:K (.slice (some ⟨g,o,none⟩) k c)):xSl 2 (.slice (some ⟨g,o,none⟩) n c) none (some (.int ki (k:Int))) K:=by
 refine ⟨_,_,_,0,k,rfl,⟨ki,rfl⟩,rfl,Nat.zero_le _,hk,?_⟩
 have e:(if c = 0 then some (⟨g,o,none⟩:Addr) else (some (⟨g,o,none⟩:Addr)).map (·.add (0 * 2))) = some ⟨g,o,none⟩:=by
  split
  ·rfl
  ·rw [Option.map_some,bE,Nat.zero_mul,Nat.add_zero]
 rw [e,Nat.sub_zero,Nat.sub_zero]
 exact h
/-! ### Rows of a count and a slice -/
section
variable {P:Program} {w:World}
theorem iStFX {lo:Nat} {e:TypeId} {w:World} {v x:Value} {n:Nat} {xs:List Value} {z:Int} {j f:Nat} {k:IntKind} {K:World → Prop} (hs:OwK 2 lo e w v n xs) (hz:z = (j:Int)) (hj:j < n) (hf:f < 2) (hx:aC x = true)
  (h:∀ w',OwK 2 lo e w' v n (xs.set (j * 2 + f) x) → Ch (fun c=>v.ownBlock = some c) w w' → K w'):xIa 2 v (.int k z) fun p=>xFa f p fun q=>xSt w q x K:=by
 subst hz
 obtain ⟨hl,⟨-,h0⟩ | ⟨g,cap,cur,hv,hg,hh,h1,h2,h3,h4⟩⟩:=hs
 ·omega
 ·subst hv
  have hs:w.ownsRow lo e 2 (.slice (some ⟨g,0,none⟩) n cap) n xs:=⟨hl,.inr ⟨g,cap,cur,rfl,hg,hh,h1,h2,h3,h4⟩⟩
  refine ⟨_,_,_,_,_,rfl,rfl,by omega,by omega,?_⟩
  rw [Int.toNat_natCast,bE]
  refine ⟨_,rfl,?_⟩
  rw [bE,Nat.zero_add]
  have hjf:j * 2 + f < xs.length:=by omega
  refine iSt ((hs.cellAt (j * 2 + f) (by omega)).trans (List.getElem?_eq_getElem hjf)) (hs.frozenAt _) hx ?_
  exact h _ (hs.stored (j * 2 + f) x).1 ((Upd.setCell w g _ x).ch rfl)
theorem iTY {k n i:Nat} {ki:IntKind} {w:World} {v:Value} {xs:List Value} {z:Int} {K:Value → Prop} (hs:SlK k w v n xs) (hz:z = (i:Int)) (hi:i ≤ n) (h:∀ v',SlK k w v' (n - i) (xs.drop (i * k)) → K v'):xSl k v (some (.int ki z)) none K:=by
 subst hz
 obtain ⟨h0,a,c,rfl,h2,h3,h4⟩:=hs
 have hle:i * k ≤ n * k:=Nat.mul_le_mul_right _ hi
 have hsub:(n - i) * k = n * k - i * k:=Nat.sub_mul ..
 refine ⟨_,_,_,i,n,rfl,rfl,⟨ki,rfl⟩,hi,h2,?_⟩
 refine h _ ⟨by rw [List.length_drop];omega,_,_,rfl,by omega,by omega,?_⟩
 rcases Nat.eq_zero_or_pos (n - i) with hz | hz
 ·exact .inl hz
 ·rcases h4 with h4 | ⟨b,o,rfl,hc⟩
  ·omega
  ·refine .inr ⟨b,o + i * k,?_,fun j hj=>?_⟩
   ·rw [if_neg (by omega),Option.map_some,bE]
   ·rw [Nat.add_assoc,hc _ (by omega),List.getElem?_drop]
end
end Go.Vc

namespace Go.Vc
abbrev RawW (lo:Nat) (e:TypeId) (w:World) (v:Value) (N:List RN):Prop:=OwK 2 lo e w v N.length (aW N)
theorem OwK.ne_src {k lo n:Nat} {e e':TypeId} {w0 w:World} {vc v:Value} {b:Nat} {xs:List Value} (h:OwK k lo e' w v n xs) (hS:Vc.Src e w0 vc b w) (hne:e' ≠ e):v.ownBlock ≠ some b:=by
 intro hc
 obtain ⟨cur,h1⟩:=h.ty hc
 obtain ⟨_,_,_,_,h3,_⟩:=hS
 unfold Blk at h3
 rw [h1] at h3
 injection h3 with h3
 injection h3 with _ he _
 exact hne he
theorem OwK.src {k lo n:Nat} {e e':TypeId} {w0 w w':World} {vc v:Value} {b:Nat} {xs:List Value} (h:OwK k lo e' w v n xs) (hS:Vc.Src e w0 vc b w) (hne:e' ≠ e) (hch:Ch (fun c=>c = b) w w'):OwK k lo e' w' v n xs:=
 h.ch hch fun c hc hb=>h.ne_src hS hne (by rw [hc,hb])
def preF (y:Nat) (a:Fm):Fm:=if y = 0 then .box a else .dia a
theorem Z8 {y:Nat} (hy:y < 2) (a:Fm):(preF y a).cells = nd (5 + y) 0 ++ a.cells:=by
 have:y = 0 ∨ y = 1:=by omega
 rcases this with rfl | rfl <;> rfl
theorem JN (y:Nat) (a:Fm):(preF y a).size = 1 + a.size:=by unfold preF;split <;> rfl
theorem aBJ (y:Nat) {a:Fm} (h:a.good):(preF y a).good:=by unfold preF;split <;> exact h
def binF (z:Nat) (a b:Fm):Fm:=if z = 0 then .and a b else if z = 1 then .or a b else .imp a b
theorem PM {z:Nat} (hz:z < 3) (a b:Fm):(binF z a b).cells = nd (2 + z) 0 ++ a.cells ++ b.cells:=by
 have:z = 0 ∨ z = 1 ∨ z = 2:=by omega
 rcases this with rfl | rfl | rfl <;> rfl
theorem nR (z:Nat) (a b:Fm):(binF z a b).size = 1 + a.size + b.size:=by unfold binF;split;rfl;split <;> rfl
theorem TP (z:Nat) {a b:Fm} (h:a.good) (k:b.good):(binF z a b).good:=by unfold binF;split;exact ⟨h,k⟩;split <;> exact ⟨h,k⟩
theorem XR (N:List RN) (k:Nat) (hk:k < N.length) (x:Int):(aW N).set (k * 2 + 0) (.int .i64 x) = aW (N.set k (x,N[k].2)):=by
 induction N generalizing k with
 | nil=>simp at hk
 | cons q N ih=>
  cases k with
  | zero=>rfl
  | succ k=>
   have ih:=ih k (by simpa using hk)
   show (Value.int .i64 q.1 :: Value.int .i64 q.2 :: aW N).set ((k + 1) * 2 + 0) _ = Value.int .i64 q.1 :: Value.int .i64 q.2 :: aW (N.set k _)
   rw [Nat.add_zero] at ih
   rw [show (k + 1) * 2 + 0 = k * 2 + 1 + 1 by omega,List.set_cons_succ,List.set_cons_succ,ih]
   rfl
theorem XW (N:List RN) (k:Nat) (hk:k < N.length) (x:Int):(aW N).set (k * 2 + 1) (.int .i64 x) = aW (N.set k (N[k].1,x)):=by
 induction N generalizing k with
 | nil=>simp at hk
 | cons q N ih=>
  cases k with
  | zero=>rfl
  | succ k=>
   have ih:=ih k (by simpa using hk)
   show (Value.int .i64 q.1 :: Value.int .i64 q.2 :: aW N).set ((k + 1) * 2 + 1) _ = Value.int .i64 q.1 :: Value.int .i64 q.2 :: aW (N.set k _)
   rw [show (k + 1) * 2 + 1 = (k * 2 + 1) + 1 + 1 by omega,List.set_cons_succ,List.set_cons_succ,ih]
   rfl
theorem MN (N:List RN) (k:Nat):(aW N).take (k * 2) = aW (N.take k):=by
 induction N generalizing k with
 | nil=>simp [aW]
 | cons q N ih=>
  cases k with
  | zero=>simp [aW]
  | succ k=>
   rw [dG,List.take_succ_cons,dG,← ih k,show (k + 1) * 2 = (rcell q).length + k * 2 by show _ = 2 + k * 2;omega,List.take_length_add_append]
theorem XU (N:List RN) (k:Nat):(aW N).drop (k * 2) = aW (N.drop k):=by
 induction N generalizing k with
 | nil=>simp [aW]
 | cons q N ih=>
  cases k with
  | zero=>simp
  | succ k=>
   rw [dG,List.drop_succ_cons,← ih k,show (k + 1) * 2 = (rcell q).length + k * 2 by show _ = 2 + k * 2;omega,List.drop_length_add_append]
theorem M1 (N:List RN):∀ u ∈ aW N,aC u = true:=fun u hu=>by
 obtain ⟨q,_,hq⟩:=List.mem_flatMap.1 hu
 simp only [rcell,List.mem_cons,List.not_mem_nil,or_false] at hq
 rcases hq with rfl | rfl <;> rfl
theorem iBs5D {w:World} {e:TypeId} {a b c d f:Int} {K:Value → World → Prop} (h:∀ bb w',bb = w.heap.size ∧ w'.heap.size = bb + 1 → Ext w w' → Blk e w' bb (ints [a,b,c,d,f]) → K (.slice (some ⟨bb,0,none⟩) 5 5) w'):
  xBs e (Value.cells (.int .i64 0)) 1 5 [(0,.int .i64 a),(1,.int .i64 b),(2,.int .i64 c),(3,.int .i64 d),(4,.int .i64 f)] w K:=by
 refine ⟨#[.int .i64 a,.int .i64 b,.int .i64 c,.int .i64 d,.int .i64 f],?_,h _ _ ⟨rfl,by simp⟩ (Ext.alloc w _) (Blk.new w #[.int .i64 a,.int .i64 b,.int .i64 c,.int .i64 d,.int .i64 f] e)⟩
 simp [Instr.fill,Value.cells,show Array.range 5 = #[0,1,2,3,4] from rfl]
end Go.Vc
namespace Go.Proofs.YteifjhpddhppcaaGreatDoor
open Go.Vc
theorem oK {e:TypeId} (hneN:aE ≠ e) {w0:World} {vc:Value} {bs:List Nat} (hc:SlB w0 vc bs) {b k:Nat} (hk:1 ≤ k ∧ k ≤ 6) (m:Bool):∀ (n:Nat) {w:World},Vc.Src e w0 vc b w → 1 ≤ n → n ≤ 1000 →
  Drw Tryz.prog B6 #[.pointer (some ⟨b,0,none⟩),.int .i64 (n:Int),.int .i64 (k:Int),.bool m] e w0 vc b w fun r w'=>∃ f:Fm,f.good ∧ f.size ≤ n ∧ FmW w.heap.size w' r f:=by
 intro n
 induction n using Nat.strongRecOn with
 | _ n ih=>
 intro w hS hn1 hn2
 apply TI;unfold CB
 refine iJnX (fun xs w'=>(∃ t,xs = [.bool t] ∧ (t = false → 3 ≤ n)) ∧ Vc.Src e w0 vc b w' ∧ Ch (fun c=>c = b) w w') (fun J hJ=>?_) ?_
 ·refine iLe (iCndP (fun h=>?_) (fun h=>?_))
  ·exact hJ _ _ ⟨⟨true,rfl,fun h=>by cases h⟩,hS,(Ext.refl w).ch⟩
  ·refine iCall ((aD hc hS 9).mono ?_)
   rintro _ w3 ⟨⟨x,rfl,_,_⟩,hS3,hch3⟩
   refine iEq ?_
   exact hJ _ _ ⟨⟨_,rfl,fun _=>by omega⟩,hS3,hch3⟩
 rintro _ w2 ⟨⟨t,rfl,ht⟩,hS2,hC2⟩
 intro _
 cases t with
 | true=>
  refine iCndT rfl ?_
  refine iCall ((aD hc hS2 8).mono ?_)
  rintro _ w4 ⟨⟨x,rfl,_,_⟩,hS4,hch4⟩
  have hC4:=aA hC2 hch4
  refine iEq (iCndP (fun _=>?_) (fun _=>?_))
  ·refine iCall ((eA w4).mono ?_)
   rintro u w5 ⟨x5,h5⟩
   exact ⟨⟨.fls,trivial,hn1,OwK.mono h5 hC4.size⟩,hS4.later x5,aM hC4 x5⟩
  ·refine iCall ((aD hc hS4 k).mono ?_)
   rintro _ w6 ⟨⟨y,rfl,hy,_⟩,hS6,hch6⟩
   have hy:=hy (by omega)
   refine iCall ((qZ y w6).mono ?_)
   rintro u w7 ⟨x7,h7⟩
   have hC6:=aA hC4 hch6
   exact ⟨⟨.var y,show y < 6 by omega,hn1,OwK.mono h7 hC6.size⟩,hS6.later x7,aM hC6 x7⟩
 | false=>
  refine iCndF rfl ?_
  have h3:=ht rfl
  refine iJnX (fun xs w'=>(∃ t,xs = [.bool t]) ∧ Vc.Src e w0 vc b w' ∧ Ch (fun c=>c = b) w w') (fun J hJ=>?_) ?_
  ·cases m with
   | true=>
    refine iCndT rfl ?_
    refine iCall ((aD hc hS2 3).mono ?_)
    rintro _ w10 ⟨⟨x,rfl,_,_⟩,hS10,hch10⟩
    refine iEq ?_
    exact hJ _ _ ⟨⟨_,rfl⟩,hS10,aA hC2 hch10⟩
   | false=>exact iCndF rfl (hJ _ _ ⟨⟨_,rfl⟩,hS2,hC2⟩)
  rintro _ w9 ⟨⟨t,rfl⟩,hS9,hC9⟩
  intro _
  cases t with
  | true=>
   refine iCndT rfl ?_
   refine iCall ((aD hc hS9 2).mono ?_)
   rintro _ w11 ⟨⟨y,rfl,hy,_⟩,hS11,hch11⟩
   have hy:=hy (by omega)
   have hC11:=aA hC9 hch11
   refine iAdd (by omega) (iSub (by omega) ?_)
   rw [show (5:Int) + (y:Int) = ((5 + y:Nat):Int) by omega,show (n:Int) - 1 = ((n - 1:Nat):Int) by omega]
   refine iCall ((ih (n - 1) (by omega) hS11 (by omega) (by omega)).mono ?_)
   rintro u w12 ⟨⟨a,ga,sa,ha⟩,hS12,hch12⟩
   have hC12:=aA hC11 hch12
   refine iCall ((r9 (c:=preF y a) (Z8 (by omega) a) (JN y a) ha.sl (by rw [JN];omega)).mono ?_)
   rintro r w13 ⟨x13,hr⟩
   exact ⟨⟨preF y a,aBJ y ga,by rw [JN];omega,OwK.mono hr hC12.size⟩,hS12.later x13,aM hC12 x13⟩
  | false=>
   refine iCndF rfl ?_
   refine iCall ((aD hc hS9 6).mono ?_)
   rintro _ w14 ⟨⟨y,rfl,_,_⟩,hS14,hch14⟩
   have hC14:=aA hC9 hch14
   refine iEq (iCndP (fun _=>?_) (fun _=>?_))
   ·refine iSub (by omega) ?_
    rw [show (n:Int) - 2 = ((n - 2:Nat):Int) by omega]
    refine iCall ((ih (n - 2) (by omega) hS14 (by omega) (by omega)).mono ?_)
    rintro u w15 ⟨⟨a,ga,sa,ha⟩,hS15,hch15⟩
    have hC15:=aA hC14 hch15
    refine iCall ((rO ha.sl (by omega)).mono ?_)
    rintro r w16 ⟨x16,hr⟩
    exact ⟨⟨.imp a .fls,⟨ga,trivial⟩,by show 1 + a.size + 1 ≤ n;omega,OwK.mono hr hC15.size⟩,hS15.later x16,aM hC15 x16⟩
   ·refine iSub (by omega) ?_
    refine iCall ((aD hc hS14 _).mono ?_)
    rintro _ w17 ⟨⟨z,rfl,hz,_⟩,hS17,hch17⟩
    have hz:=hz (by omega)
    have hC17:=aA hC14 hch17
    refine iAdd (by omega) ?_
    rw [show (1:Int) + (z:Int) = ((1 + z:Nat):Int) by omega]
    refine iCall ((ih (1 + z) (by omega) hS17 (by omega) (by omega)).mono ?_)
    rintro u w18 ⟨⟨a,ga,sa,ha⟩,hS18,hch18⟩
    have hC18:=aA hC17 hch18
    refine iCall ((aD hc hS18 3).mono ?_)
    rintro _ w19 ⟨⟨q,rfl,hq,_⟩,hS19,hch19⟩
    have hq:=hq (by omega)
    have hC19:=aA hC18 hch19
    have ha19:=OwK.src ha hS18 hneN hch19
    refine iAdd (by omega) (iSub (by omega) (iSub (by omega) ?_))
    rw [show (2:Int) + (q:Int) = ((2 + q:Nat):Int) by omega,show (n:Int) - 1 - ((1 + z:Nat):Int) = ((n - 1 - (1 + z):Nat):Int) by omega]
    refine iCall ((ih (n - 1 - (1 + z)) (by omega) hS19 (by omega) (by omega)).mono ?_)
    rintro u2 w20 ⟨⟨a2,ga2,sa2,ha2⟩,hS20,hch20⟩
    have hC20:=aA hC19 hch20
    have ha20:=OwK.src ha19 hS19 hneN hch20
    refine iCall ((bL (c:=binF q a a2) (PM (by omega) a a2) (nR q a a2) ha20.sl ha2.sl (by rw [nR];omega)).mono ?_)
    rintro r w21 ⟨x21,hr⟩
    exact ⟨⟨binF q a a2,TP q ga ga2,by rw [nR];omega,OwK.mono hr hC20.size⟩,hS20.later x21,aM hC20 x21⟩
theorem QV {va:Value} {w:World} {N:List RN} (ha:RawS w va N) (hsz:N.length ≤ 1000000):Cal Tryz.prog HF #[va] w fun r w'=>Ext w w' ∧ RawW w.heap.size aE w' r N:=by
 apply UL;unfold F7
 refine iBsA0 fun u w1 _ x1 ho=>?_
 refine iAppK eN eR rfl (by omega) ho (SlK.ext ha x1) (M1 N) (by omega) (by omega) x1.size fun v2 w2 ho2 hg2 _=>?_
 refine ⟨x1.grown hg2 fun c hc=>(ho.blk c hc).1,?_⟩
 show OwK 2 _ _ w2 v2 _ _
 rw [Nat.zero_add,List.nil_append] at ho2
 exact ho2
theorem RH {e:TypeId} (hneN:aE ≠ e) {w0:World} {vc:Value} {bs:List Nat} (hc:SlB w0 vc bs) {b:Nat} {w:World} (hS:Vc.Src e w0 vc b w) {va:Value} {N:List RN} (ha:RawS w va N) (hN:1 ≤ N.length ∧ N.length ≤ 1000):
  Drw Tryz.prog DR #[.pointer (some ⟨b,0,none⟩),va] e w0 vc b w fun r w'=>∃ M:List RN,M.length ≤ N.length + 1 ∧ RawW w.heap.size aE w' r M:=by
 apply SO;unfold DC
 have hlow:=hS.ext.size
 refine iCall ((QV ha (by omega)).mono ?_)
 rintro v w1 ⟨x1,ho1⟩
 have hS1:=hS.later x1
 have hC1:Ch (fun c=>c = b) w w1:=x1.ch (S:=fun c=>c = b)
 refine iLenK ho1.sl ?_
 refine iCall ((aD hc hS1 _).mono ?_)
 rintro _ w2 ⟨⟨k,rfl,hk,_⟩,hS2,hch2⟩
 have hk:=hk (by omega)
 have hkN:k < N.length:=by omega
 have ho2:=OwK.src ho1 hS1 hneN hch2
 have hC2:=aA hC1 hch2
 refine iCall ((aD hc hS2 5).mono ?_)
 rintro _ w3 ⟨⟨x,rfl,_,_⟩,hS3,hch3⟩
 have ho3:=OwK.src ho2 hS2 hneN hch3
 have hC3:=aA hC2 hch3
 have turn:∀ {w' w'':World} {xs:List Value},OwK 2 w.heap.size aE w' v N.length xs → Vc.Src e w0 vc b w' → Ch (fun c=>c = b) w w' → Ch (fun c=>v.ownBlock = some c) w' w'' → Vc.Src e w0 vc b w'' ∧ Ch (fun c=>c = b) w w'':=fun ho gS gC k=>
  ⟨gS.ch k (fun h=>ho.ne_src gS hneN h) fun c hc=>by have:=(ho.blk c hc).1;omega,gC.trans k fun c hc=>.inr (ho.blk c hc).1⟩
 refine iEq (iCndP (fun _=>?_) (fun _=>?_))
 ·refine iCall ((aD hc hS3 9).mono ?_)
  rintro _ w4 ⟨⟨y,rfl,hy,_⟩,hS4,hch4⟩
  have hy:=hy (by omega)
  have ho4:=OwK.src ho3 hS3 hneN hch4
  have hC4:=aA hC3 hch4
  refine iSub (by omega) ?_
  refine iStFX (f:=0) ho4 rfl hkN (by decide) rfl fun w5 ho5 hch5=>?_
  rw [XR N k hkN] at ho5
  obtain ⟨gS,gC⟩:=turn ho4 hS4 hC4 hch5
  exact ⟨⟨N.set k (_,N[k].2),by rw [List.length_set];omega,by show OwK 2 _ _ _ _ (N.set k _).length _;rw [List.length_set];exact ho5⟩,gS,gC⟩
 refine iEq (iCndP (fun _=>?_) (fun _=>?_))
 ·refine iBs5D fun q w6 hq x6 hB=>?_
  have hS6:=hS3.later x6
  refine iCall ((QX hc hS6 (l:=[-1,0,1,5,6]) rfl hB (by have:=hS3.lt;omega) (by decide) (by decide)).mono ?_)
  rintro _ w7 ⟨⟨y,rfl,_⟩,hS7,hch7⟩
  have ho7:=OwK.src (ho3.ext x6) hS6 hneN hch7
  have hC7:=aA (aM hC3 x6) hch7
  refine iStFX (f:=1) ho7 rfl hkN (by decide) rfl fun w8 ho8 hch8=>?_
  rw [XW N k hkN] at ho8
  obtain ⟨gS,gC⟩:=turn ho7 hS7 hC7 hch8
  exact ⟨⟨N.set k (N[k].1,_),by rw [List.length_set];omega,by show OwK 2 _ _ _ _ (N.set k _).length _;rw [List.length_set];exact ho8⟩,gS,gC⟩
 refine iEq (iCndP (fun _=>?_) (fun _=>?_))
 ·refine iCall ((aD hc hS3 7).mono ?_)
  rintro _ w9 ⟨⟨y,rfl,_,_⟩,hS9,hch9⟩
  have ho9:=OwK.src ho3 hS3 hneN hch9
  have hC9:=aA hC3 hch9
  refine LC rfl ?_
  refine iBsA fun q w10 hq x10 hB=>?_
  have ho10:=ho9.ext x10
  have hC10:=aM hC9 x10
  refine iAppK eN eR rfl (by omega) ho10 (f6 hq hB).sl (fun u hu=>?_) (by omega) (by omega) hC10.size fun v11 w11 ho11 hg11 _=>?_
  ·simp only [List.mem_cons,List.not_mem_nil,or_false] at hu
   rcases hu with rfl | rfl <;> rfl
  obtain ⟨gS,gC⟩:=turn ho10 (hS9.later x10) hC10 (d9 (S:=fun c=>v.ownBlock = some c) hg11 fun c hc=>hc)
  refine ⟨⟨N ++ [((y:Int),0)],by simp,?_⟩,gS,gC⟩
  show OwK 2 _ _ _ _ (N ++ [_]).length _
  rw [List.length_append,o8]
  exact ho11
 have hpos:0 < N.length:=by omega
 refine iEq (iCndP (fun _=>?_) (fun _=>?_))
 ·obtain ⟨g,cap,cur,rfl,hg,hcap,hR,hcur⟩:=ho3.rx hpos
  refine iHX (by omega) ?_
  refine ⟨⟨N.take k,by rw [List.length_take];omega,?_⟩,hS3,hC3⟩
  have hlt:(N.take k).length = k:=by rw [List.length_take];omega
  show OwK 2 _ _ _ _ (N.take k).length _
  rw [hlt]
  refine hR.own hg (by omega) ?_
  rw [← MN,← hcur,List.take_take,Nat.min_eq_left (by omega)]
 refine iEq (iCndP (fun _=>?_) (fun _=>?_))
 ·obtain ⟨g,cap,cur,rfl,hg,hcap,hR,hcur⟩:=ho3.rx hpos
  refine iHX (by omega) ?_
  refine iAdd (by omega) ?_
  have hsl:=ho3.sl
  refine iTY (i:=k + 1) hsl (by omega) (by omega) fun v' hv'=>?_
  rw [XU] at hv'
  intro w12 x12
  refine aFA (i:=k) (m:=N.length - (k + 1)) eN eR (hR.ext x12) (hv'.ext x12) (M1 _) (by omega) fun w13 hR13 hch13=>?_
  intro w14 x14
  have hR14:=hR13.ext x14
  have ho12:=ho3.ext x12
  obtain ⟨gS,gC⟩:=turn ho12 (hS3.later x12) (aM hC3 x12) (w'':=w13) (hch13.mono fun c hc=>by rw [hc];rfl)
  have hld:(N.drop (k + 1)).length = N.length - (k + 1):=List.length_drop
  have hlt:(N.take k ++ N.drop (k + 1)).length = k + (N.length - (k + 1)):=by rw [List.length_append,List.length_take,hld];omega
  refine ⟨⟨N.take k ++ N.drop (k + 1),by rw [hlt];omega,?_⟩,gS.later x14,aM gC x14⟩
  show OwK 2 _ _ _ _ (N.take k ++ N.drop (k + 1)).length _
  rw [hlt]
  refine hR14.own hg (by omega) ?_
  have hcl:=hR.2.1
  have hdl:(aW (N.drop (k + 1))).length = (N.length - (k + 1)) * 2:=by rw [aAH,hld]
  rw [aB5 (by rw [hdl];omega) (by rw [hdl];omega),o8,← MN,← hcur,List.take_take,Nat.min_eq_left (by omega)]
 ·exact ⟨⟨N,by omega,ho3⟩,hS3,hC3⟩
end Go.Proofs.YteifjhpddhppcaaGreatDoor

namespace Go.Vc
theorem iBsC {w:World} {e:TypeId} {z:Value} {n:Nat} {ps:List (Nat × Value)} {K:Value → World → Prop} (L:List Str) (hf:Instr.fill (fun i=>some (i * 1,1)) ((Array.range (n * 1)).map (fun i=>(Value.cells z)[i % (Value.cells z).size]!)) ps = some (strs L).toArray) 
  (h:∀ b w',b = w.heap.size → Ext w w' → Blk e w' b (strs L) → K (.slice (some ⟨b,0,none⟩) n n) w'):xBs e (Value.cells z) 1 n ps w K:=
 ⟨_,hf,h _ _ rfl (Ext.alloc w _) (Blk.new w (strs L).toArray e)⟩
theorem Blk.slt {w:World} {e:TypeId} {b n:Nat} {L:List Str} (h:Blk e w b (strs L)) (hn:L.length = n) (hm:n ≤ 1000):SlT w (.slice (some ⟨b,0,none⟩) n n) L:=Sl.ofBlk (n:=n) h (by rw [bG,hn]) (by omega)
end Go.Vc
namespace Go.Proofs.YteifjhpddhppcaaGreatDoor
open Go.Vc
theorem FmW.raw {lo:Nat} {w:World} {v:Value} {f:Fm} (h:FmW lo w v f):RawW lo aE w v (rawF f):=by
 show OwK 2 _ _ _ _ (rawF f).length (aW (rawF f))
 rw [bM,dP];exact h
theorem FmW.ofRaw {lo:Nat} {w:World} {v:Value} {f:Fm} (h:RawW lo aE w v (rawF f)):FmW lo w v f:=by
 have h:OwK 2 _ _ _ _ (rawF f).length (aW (rawF f)):=h
 rwa [bM,dP] at h
theorem SF {e:TypeId} (hneN:aE ≠ e) {w0:World} {vc:Value} {bs:List Nat} (hc:SlB w0 vc bs) {b k:Nat} (hk:1 ≤ k ∧ k ≤ 6) (m:Bool) {n:Nat} (hn:1 ≤ n ∧ n ≤ 100) {w:World} (hS:Vc.Src e w0 vc b w):
  Drw Tryz.prog GO #[.pointer (some ⟨b,0,none⟩),.int .i64 (n:Int),.int .i64 (k:Int),.bool m] e w0 vc b w fun r w'=>∃ N:List RN,N.length ≤ 200 ∧ RawW w.heap.size aE w' r N:=by
 apply VD;unfold GV
 refine iCall ((oK hneN hc hk m n hS hn.1 (by omega)).mono ?_)
 rintro v w1 ⟨⟨f,gf,sf,hf⟩,hS1,hch1⟩
 refine iCall ((aD hc hS1 40).mono ?_)
 rintro _ w2 ⟨⟨x,rfl,_,_⟩,hS2,hch2⟩
 have hf2:=OwK.src hf hS1 hneN hch2
 have hC2:=aA hch1 hch2
 refine iEq (iCndP (fun _=>?_) (fun _=>?_))
 ·have hr:=FmW.raw hf2
  have hpos:1 ≤ f.size:=by have:=f.size_kids;omega
  refine iCall ((RH hneN hc hS2 hr.sl ⟨by rw [bM];exact hpos,by rw [bM];omega⟩).mono ?_)
  rintro u w3 ⟨⟨M,hM,hu⟩,hS3,hch3⟩
  rw [bM] at hM
  exact ⟨⟨M,by omega,OwK.mono hu hC2.size⟩,hS3,aA hC2 hch3⟩
 refine iEq (iCndP (fun _=>?_) (fun _=>?_))
 ·refine iLp (fun s:Value × Nat=>[s.1]) (fun s w'=>Vc.Src e w0 vc b w' ∧ Ch (fun c=>c = b) w w' ∧ s.2 ≤ 200 ∧ ∃ f:Fm,f.good ∧ f.size = s.2 ∧ FmW w.heap.size w' s.1 f) (fun s=>200 - s.2) (v,f.size) rfl ⟨hS2,hC2,by show f.size ≤ 200;omega,f,gf,rfl,hf2⟩ ?_
  rintro ⟨u,z⟩ w5 Kn ⟨hS5,hC5,hz,a,ga,sa,ha⟩ hKn
  have sa:a.size = z:=sa
  have hz:z ≤ 200:=hz
  have ha:FmW w.heap.size w5 u a:=ha
  intro _
  refine iJnX (fun xs w'=>(∃ t,xs = [.bool t] ∧ (t = true → z ≤ 40)) ∧ Vc.Src e w0 vc b w' ∧ Ch (fun c=>c = b) w w' ∧ FmW w.heap.size w' u a) (fun J hJ=>?_) ?_
  ·refine iLenK ha.sl ?_
   refine iLe (iCndP (fun h=>?_) (fun h=>?_))
   ·refine iCall ((aD hc hS5 60).mono ?_)
    rintro _ w8 ⟨⟨y,rfl,_,_⟩,hS8,hch8⟩
    refine iLt ?_
    exact hJ _ _ ⟨⟨_,rfl,fun _=>by omega⟩,hS8,aA hC5 hch8,OwK.src ha hS5 hneN hch8⟩
   ·exact hJ _ _ ⟨⟨false,rfl,fun h=>by cases h⟩,hS5,hC5,ha⟩
  rintro _ w7 ⟨⟨t,rfl,ht⟩,hS7,hC7,ha7⟩
  intro _
  cases t with
  | false=>exact iCndF rfl ⟨⟨rawF a,by rw [bM];omega,FmW.raw ha7⟩,hS7,hC7⟩
  | true=>
   have ht:=ht rfl
   refine iCndT rfl ?_
   refine iCall ((aD hc hS7 3).mono ?_)
   rintro _ w9 ⟨⟨q,rfl,hq,_⟩,hS9,hch9⟩
   have hq:=hq (by omega)
   have hC9:=aA hC7 hch9
   have ha9:=OwK.src ha7 hS7 hneN hch9
   refine iAdd (by omega) ?_
   rw [show (2:Int) + (q:Int) = ((2 + q:Nat):Int) by omega]
   refine iCall ((oK hneN hc hk m 6 hS9 (by omega) (by omega)).mono ?_)
   rintro u2 w10 ⟨⟨a2,ga2,sa2,ha2⟩,hS10,hch10⟩
   have hC10:=aA hC9 hch10
   have ha10:=OwK.src ha9 hS9 hneN hch10
   refine iCall ((bL (c:=binF q a a2) (PM (by omega) a a2) (nR q a a2) ha10.sl ha2.sl (by rw [nR];omega)).mono ?_)
   rintro r w11 ⟨x11,hr⟩
   have hsz:=nR q a a2
   exact hKn (r,(binF q a a2).size) _ ⟨hS10.later x11,aM hC10 x11,by show (binF q a a2).size ≤ 200;omega,binF q a a2,TP q ga ga2,rfl,OwK.mono hr hC10.size⟩ (by show 200 - (binF q a a2).size < 200 - z;omega)
 ·exact ⟨⟨rawF f,by rw [bM];omega,FmW.raw hf2⟩,hS2,hC2⟩
theorem NO {e:TypeId} (hneN:aE ≠ e) {w0:World} {vc:Value} {bs:List Nat} (hc:SlB w0 vc bs) {b k:Nat} (hk:1 ≤ k ∧ k ≤ 6) {n:Nat} (hn:1 ≤ n ∧ n ≤ 100) {w:World} (hS:Vc.Src e w0 vc b w):
  Drw Tryz.prog AJ #[.pointer (some ⟨b,0,none⟩),.int .i64 (n:Int),.int .i64 (k:Int)] e w0 vc b w fun r w'=>∃ N:List RN,N.length ≤ 200 ∧ RawW w.heap.size aE w' r N:=by
 apply QW;unfold zK
 refine iCall ((aD hc hS 30).mono ?_)
 rintro _ w1 ⟨⟨x,rfl,_,_⟩,hS1,hch1⟩
 refine iEq ?_
 refine iCall ((SF hneN hc hk _ hn hS1).mono ?_)
 rintro u w2 ⟨⟨N,hN,hu⟩,hS2,hch2⟩
 exact ⟨⟨N,hN,OwK.mono hu hch1.size⟩,hS2,aA hch1 hch2⟩
def kN:List Str:=[[112,124,126,112],[126,126,112,62,112],[40,40,112,62,113,41,62,112,41,62,112],[126,126,40,112,124,126,112,41],[40,112,62,113,41,124,40,113,62,112,41],[126,40,112,38,113,41,62,126,112,124,126,113],[126,112,124,126,126,112],[112,62,126,126,112],[40,112,62,113,41,62,126,113,62,126,112],[126,126,40,112,62,113,41,62,126,126,112,62,126,126,113],[40,126,112,62,113,124,114,41,62,40,126,112,62,113,41,124,40,126,112,62,114,41],[112,38,40,113,124,114,41,62,112,38,113,124,112,38,114]]
theorem OU {e:TypeId} (hneN:aE ≠ e) {w0:World} {vc:Value} {bs:List Nat} (hc:SlB w0 vc bs) {b:Nat} {n:Nat} (hn:1 ≤ n ∧ n ≤ 100) {w:World} (hS:Vc.Src e w0 vc b w):
  Drw Tryz.prog AO #[.pointer (some ⟨b,0,none⟩),.int .i64 (n:Int)] e w0 vc b w fun r w'=>∃ N:List RN,N.length ≤ 1000 ∧ RawW w.heap.size aE w' r N:=by
 apply QD;unfold A3
 refine iBsC kN (by kernel_rfl) fun q w1 hq x1 hT=>?_
 have hS1:=hS.later x1
 have hC1:Ch (fun c=>c = b) w w1:=x1.ch (S:=fun c=>c = b)
 have hqb:¬ q = b:=by have:=hS.lt;omega
 refine iCall ((aD hc hS1 4).mono ?_)
 rintro _ w2 ⟨⟨x,rfl,_,_⟩,hS2,hch2⟩
 have hC2:=aA hC1 hch2
 refine iEq (iCndP (fun _=>?_) (fun _=>?_))
 ·have hT2:=hT.ch hch2 hqb
  refine bO (hT2.slt (n:=12) rfl (by decide)) ?_
  refine iCall ((aD hc hS2 _).mono ?_)
  rintro _ w3 ⟨⟨y,rfl,hy,_⟩,hS3,hch3⟩
  have hy:=hy (by decide)
  have hyl:y < kN.length:=by omega
  have hC3:=aA hC2 hch3
  refine iIaT ((hT2.ch hch3 hqb).slt (n:=12) rfl (by decide)) hyl fun p hp=>?_
  refine iLd hp ?_
  have hlen:(kN[y]).length ≤ 100:=(show ∀ t ∈ kN,t.length ≤ 100 by decide) _ (List.getElem_mem hyl)
  refine iCall ((zG (t:=kN[y]) (by omega) w3).mono ?_)
  rintro _ w4 ⟨x4,v,rfl,hv1,hv2⟩
  refine iE20 (iE21 ?_)
  refine ⟨?_,hS3.later x4,aM hC3 x4⟩
  cases hr:rdOk kN[y] with
  | true=>
   have:=aD8 kN[y]
   exact ⟨rawF (rd kN[y]).1,by rw [bM];omega,FmW.raw (OwK.mono (hv1 hr) hC3.size)⟩
  | false=>
   rw [hv2 hr]
   exact ⟨[],by decide,OwK.nil _ _ _ _⟩
 ·refine iCall ((NO hneN hc (k:=3) (by decide) hn hS2).mono ?_)
  rintro u w5 ⟨⟨N,hN,hu⟩,hS5,hch5⟩
  exact ⟨⟨N,by omega,OwK.mono hu hC2.size⟩,hS5,aA hC2 hch5⟩
end Go.Proofs.YteifjhpddhppcaaGreatDoor

namespace Go.Vc
def aG (c:UInt8):Str → List Str
 | []=>[[]]
 | x :: t=>if x = c then [] :: aG c t else (x :: (aG c t).head!) :: (aG c t).tail
theorem bW {c:UInt8}:∀ {t:Str},(∀ x ∈ t,x ≠ c) → aG c t = [t]
 | [],_=>rfl
 | x :: t,h=>by
  rw [aG,if_neg (h x (by simp)),bW (fun y hy=>h y (by simp [hy]))];rfl
theorem cN {c:UInt8} {r:Str}:∀ {a:Str},(∀ x ∈ a,x ≠ c) → aG c (a ++ c :: r) = a :: aG c r
 | [],_=>by rw [List.nil_append,aG,if_pos rfl]
 | x :: a,h=>by
  rw [List.cons_append,aG,if_neg (h x (by simp)),cN (fun y hy=>h y (by simp [hy]))];rfl
theorem PO {c:UInt8} {t:Str} (h:∀ x ∈ t,x ≠ c):t.count c = 0:=List.count_eq_zero.2 fun hm=>h c hm rfl
theorem aBH {c:UInt8} {a r:Str} (h:∀ x ∈ a,x ≠ c):(a ++ c :: r).count c = r.count c + 1:=by
 rw [List.count_append,PO h,List.count_cons_self];omega
theorem zZ (c:UInt8) {Q:Str → Prop} (h0:∀ t,(∀ x ∈ t,x ≠ c) → Q t) (h1:∀ a r,(∀ x ∈ a,x ≠ c) → Q r → Q (a ++ c :: r)):∀ t,Q t:=by
 suffices H:∀ n,∀ t:Str,t.length ≤ n → Q t from fun t=>H t.length t (Nat.le_refl _)
 intro n
 induction n with
 | zero=>intro t ht;exact h0 t (by have:t = []:=List.length_eq_zero_iff.1 (by omega);subst this;simp)
 | succ n ih=>
  intro t ht
  rcases j8 t c with ⟨h,_⟩ | ⟨a,r,rfl,h,_⟩
  ·exact h0 t h
  ·refine h1 a r h (ih r ?_)
   rw [List.length_append,List.length_cons] at ht
   omega
theorem wE (c:UInt8) (t:Str):(aG c t).length = t.count c + 1:=by
 induction t using zZ c with
 | h0 t h=>rw [bW h,PO h];rfl
 | h1 a r h ih=>rw [cN h,aBH h,List.length_cons,ih]
theorem O5 (c:UInt8) (t:Str):∀ s ∈ aG c t,s.length ≤ t.length:=by
 induction t using zZ c with
 | h0 t h=>rw [bW h];intro s hs;rw [List.mem_singleton.1 hs];exact Nat.le_refl _
 | h1 a r h ih=>
  rw [cN h]
  intro s hs
  rw [List.length_append,List.length_cons]
  rcases List.mem_cons.1 hs with rfl | hs
  ·omega
  ·have:=ih s hs;omega
theorem aCV {c:UInt8} {t:Str} {p i:Nat} (hp:p ≤ i) (hi:i < t.length) (hc:t.getD i 0 = c):t.drop p = (t.drop p).take (i - p) ++ c :: t.drop (i + 1):=by
 have h1:=List.take_append_drop (i - p) (t.drop p)
 rw [List.drop_drop,show p + (i - p) = i by omega,List.drop_eq_getElem_cons hi] at h1
 have:t[i] = c:=by rw [← hc];simp [List.getD_eq_getElem?_getD,hi]
 rw [this] at h1
 exact h1.symm
theorem WA {t:Str} {p i:Nat} {Q:UInt8 → Prop} (h:∀ j,p ≤ j → j < i → Q (t.getD j 0)):∀ x ∈ (t.drop p).take (i - p),Q x:=by
 intro x hx
 obtain ⟨j,hj,rfl⟩:=List.getElem_of_mem hx
 rw [List.length_take,List.length_drop] at hj
 have:=h (p + j) (by omega) (by omega)
 rw [List.getElem_take,List.getElem_drop]
 rwa [List.getD_eq_getElem?_getD,List.getElem?_eq_getElem (by omega),Option.getD_some] at this
end Go.Vc
namespace Go.Proofs.YteifjhpddhppcaaGreatDoor
open Go.Vc
theorem NQ {t:Str} (c:UInt8) {z:Int} (hz:z = ((c.toNat:Nat):Int)) (ht:t.length ≤ 4194304) (w:World):Cal Tryz.prog AG #[sv t,.int .u8 z] w fun r w'=>Ext w w' ∧ Ow w.heap.size aB w' r (strs (aG c t)):=by
 subst hz
 apply P9;unfold AX
 refine iBs0 fun v0 w1 hw1 x1 ho1=>?_
 refine iLp (fun s:Value × Nat × Nat=>[s.1,.int .i64 (s.2.1:Int),.int .i64 (s.2.2:Int)]) (fun s w'=>s.2.1 ≤ s.2.2 ∧ s.2.2 ≤ t.length ∧ Ext w w' ∧ ∃ L,Ow w.heap.size aB w' s.1 (strs L) ∧ L.length ≤ s.2.1 ∧ aG c t = L ++ aG c (t.drop s.2.1) ∧ ∀ j,s.2.1 ≤ j → j < s.2.2 → t.getD j 0 ≠ c) (fun s=>t.length - s.2.2) (v0,0,0) rfl
  ⟨Nat.le_refl _,Nat.zero_le _,x1,[],ho1,Nat.le_refl _,rfl,fun j h1 h2=>absurd h2 (Nat.not_lt_zero j)⟩ ?_
 rintro ⟨u,p,i⟩ w2 Kn ⟨hpi,hi,x2,L,ho,hL,hsp,hno⟩ hKn
 have hpi:p ≤ i:=hpi
 have hi:i ≤ t.length:=hi
 have ho:Ow w.heap.size aB w2 u (strs L):=ho
 have hL:L.length ≤ p:=hL
 have hsp:aG c t = L ++ aG c (t.drop p):=hsp
 have hno:∀ j,p ≤ j → j < i → t.getD j 0 ≠ c:=hno
 have hll:=bG L
 intro _
 simp only [gx]
 refine iLenT (iLt ?_)
 refine iCndP (fun h=>?_) (fun h=>?_)
 ·have hil:i < t.length:=by omega
  refine iIs hil ?_
  refine iEq (iCndP (fun hc=>?_) (fun hc=>?_))
  ·have hc:t.getD i 0 = c:=UInt8.toNat_inj.1 (by exact_mod_cast hc)
   refine CW hpi (by omega) ?_
   refine iApp1 kZ kT rfl ho rfl (by omega) (by omega) x2.size fun u' w3 ho3 hg3=>?_
   refine iAdd (by omega) ?_
   refine iAdd (by omega) ?_
   rw [IE] at ho3
   refine hKn (u',i + 1,i + 1) _ ⟨Nat.le_refl _,hil,x2.grown hg3 fun b hb=>(ho.blk b hb).1,_,ho3,?_,?_,fun j h1 h2=>?_⟩ (by show t.length - (i + 1) < t.length - i;omega)
   ·show (L ++ [(t.drop p).take (i - p)]).length ≤ i + 1
    rw [List.length_append,List.length_singleton];omega
   ·show aG c t = L ++ [(t.drop p).take (i - p)] ++ aG c (t.drop (i + 1))
    have e:=cN (r:=t.drop (i + 1)) (WA (Q:=fun x=>x ≠ c) hno)
    rw [← aCV hpi hil hc] at e
    rw [hsp,e]
    simp
   ·have h1:i + 1 ≤ j:=h1
    have h2:j < i + 1:=h2
    omega
  ·refine iAdd (by omega) ?_
   refine hKn (u,p,i + 1) _ ⟨by show p ≤ i + 1;omega,hil,x2,L,ho,hL,hsp,fun j h1 h2=>?_⟩ (by show t.length - (i + 1) < t.length - i;omega)
   have h2:j < i + 1:=h2
   by_cases e:j = i
   ·subst e
    intro e2
    exact hc (by rw [e2])
   ·exact hno j h1 (by omega)
 ·have hil:i = t.length:=by omega
  refine wN (by omega) ?_
  refine iApp1 kZ kT rfl ho rfl (by omega) (by omega) x2.size fun u' w3 ho3 hg3=>?_
  rw [IE] at ho3
  refine ⟨x2.grown hg3 fun b hb=>(ho.blk b hb).1,?_⟩
  have hm:=WA (Q:=fun x=>x ≠ c) hno
  rw [List.take_of_length_le (by rw [List.length_drop];omega)] at hm
  rw [hsp,bW hm]
  exact ho3
theorem MK (t:Str) (c:UInt8) (w:World):Ret Tryz.prog QM #[sv t,sv [c]] w (.int .i64 ((t.count c:Nat):Int)):=by
 refine ⟨⟨_,Tryz.func213,by kernel_rfl,by kernel_rfl⟩,?_⟩
 refine (Any.strings_Count_one aD5 ⟨t.toArray⟩ c w).mono ?_
 rintro e w' ⟨rfl,rfl⟩
 exact ⟨_,rfl,rfl,Ext.refl _⟩
theorem UO (l:Str) (c:UInt8) (w:World):Ret Tryz.prog (211) #[sv l,sv [c]] w (.int .i64 (Lib.indexByte l c)):=by
 refine ⟨⟨_,Tryz.func211,by kernel_rfl,by kernel_rfl⟩,?_⟩
 refine (Any.stringslite_Index_one ZD ⟨l.toArray⟩ c w).mono ?_
 rintro e w' ⟨rfl,rfl⟩
 exact ⟨_,rfl,rfl,Ext.refl _⟩
theorem LW (t:Str) (c:UInt8) (w:World):Ret Tryz.prog A8 #[sv t,sv [c]] w (.int .i64 (Lib.indexByte t c)):=by
 apply QF;unfold A6
 exact iRet (UO t c w) fun w1 x1=>⟨by first | trivial | rfl,x1⟩
theorem iMinI {a b:Int} {K:Value → Prop} (h:K (.int .i64 (min a b))):xMin (.int .i64 a) (.int .i64 b) K:=by
 refine ⟨_,_,_,_,rfl,rfl,?_⟩
 have e:(if b < a then b else a) = min a b:=by split <;> omega
 rw [e];exact h
theorem MI {t:Str} (c:UInt8) (ht:t.length ≤ 4194304) (w:World):Cal Tryz.prog AU #[sv t,sv [c]] w fun r w'=>Ext w w' ∧ Ow w.heap.size aB w' r (strs (aG c t)):=by
 apply PD;unfold BE
 refine iCall (Cal.mono (R:=fun r w'=>Ext w w' ∧ Ow w.heap.size aB w' r (strs (aG c t))) ?_ fun r w' h=>h)
 apply KR;unfold tY
 have hsl:=wE c t
 have hcl:=List.count_le_length (a:=c) (l:=t)
 refine iEq (iCndF rfl ?_)
 refine iEqT (b:=[]) (iCndF (by simp) ?_)
 refine iLt ?_
 refine iJnX (fun xs w'=>xs = [.int .i64 ((t.count c + 1:Nat):Int)] ∧ Ext w w') (fun J hJ=>?_) ?_
 ·refine iCndT rfl ?_
  refine iRet (MK t c w) fun w1 x1=>?_
  refine iAdd (by omega) (hJ _ _ ⟨?_,x1⟩)
  simp
 rintro xs w3 ⟨rfl,x3⟩
 intro _
 simp only [gx]
 refine iLenT (iAdd (by omega) (iMinI ?_))
 rw [show min ((t.count c + 1:Nat):Int) ((t.length:Int) + 1) = ((t.count c + 1:Nat):Int) by omega]
 refine iMk (z:=sv []) (by omega) (by omega) rfl fun g w5 hg x5 hB=>?_
 refine iSub (by omega) ?_
 have X5:=x3.trans x5
 have s5:=x3.size
 have ho5:Ow w.heap.size aB w5 (.slice (some ⟨g,0,none⟩) (t.count c + 1) (t.count c + 1)) (strs (List.replicate (t.count c + 1) [])):=by
  refine Ow.ofBlk (n:=t.count c + 1) ?_ (by omega) (by simp [strs]) (by omega)
  simpa [strs] using hB
 refine iLp (fun s:Str × Nat=>[sv s.1,.int .i64 (s.2:Int)]) (fun s w'=>s.2 ≤ t.count c ∧ s.1.length ≤ t.length ∧ ∃ M,Turn w.heap.size aB sv (.slice (some ⟨g,0,none⟩) (t.count c + 1) (t.count c + 1)) w5 w' M ∧ M.length = t.count c + 1 ∧ aG c t = M.take s.2 ++ aG c s.1) (fun s=>s.1.length) (t,0) rfl
  ⟨Nat.zero_le _,Nat.le_refl _,List.replicate (t.count c + 1) [],Turn.refl ho5,by simp,by simp⟩ ?_
 rintro ⟨r,i⟩ w7 Kn ⟨hi,hr,M,hT,hM,hsp⟩ hKn
 have hi:i ≤ t.count c:=hi
 have hr:r.length ≤ t.length:=hr
 have hsp:aG c t = M.take i ++ aG c r:=hsp
 have X7:Ext w w7:=X5.thenCh hT.ch fun b hb=>by cases hb;exact (show w.heap.size ≤ g by omega)
 intro _
 simp only [gx]
 -- what both ends do: the rest goes into the row, whose first i + 1 places are handed back
 have fin:∀ w8,Ext w7 w8 → (∀ x ∈ r,x ≠ c) → xIa 1 (.slice (some ⟨g,0,none⟩) (t.count c + 1) (t.count c + 1)) (.int .i64 (i:Int)) fun v61=>xSt w8 v61 (sv r) fun w9=>xAdd .i64 (.int .i64 (i:Int)) (.int .i64 1) fun v64=>xSl 1 (.slice (some ⟨g,0,none⟩) (t.count c + 1) (t.count c + 1)) none (some v64) fun v65=>
   Ext w w9 ∧ Ow w.heap.size aB w9 v65 (strs (aG c t)):=fun w8 x8 hno=>by
  have hT8:=hT.ext x8
  refine iIaOw hT8.ow (by omega) (by rw [List.length_map];omega) fun b o hb _ _ hc hf hset=>?_
  refine iSt (hc.trans (List.getElem?_eq_getElem (by rw [List.length_map];omega))) hf rfl ?_
  have hset:=hset (sv r)
  rw [Int.toNat_natCast,← List.map_set] at hset
  refine iAdd (by omega) ?_
  rw [show (i:Int) + 1 = ((i + 1:Nat):Int) by omega]
  refine LD (k:=i + 1) (by omega) (Nat.le_refl _) ?_
  have hl:(aG c t).length = i + 1:=by rw [hsp,bW hno,List.length_append,List.length_take,List.length_singleton];omega
  have hi2:i = t.count c:=by omega
  refine ⟨(X7.trans x8).thenCh ((Upd.setCell w8 b o _).ch (S:=fun q=>Value.ownBlock (.slice (some ⟨g,0,none⟩) (t.count c + 1) (t.count c + 1)) = some q) hb) fun b hb=>by cases hb;exact (show w.heap.size ≤ g by omega),?_⟩
  have e2:M.set i r = aG c t:=by
   rw [hsp,bW hno]
   apply List.ext_getElem
   ·rw [List.length_set,List.length_append,List.length_take,List.length_singleton];omega
   ·intro j h1 h2
    rw [List.getElem_set]
    split
    ·rename_i e;subst e
     rw [List.getElem_append_right (by rw [List.length_take];omega)]
     simp
    ·rw [List.getElem_append_left (by rw [List.length_take];rw [List.length_set] at h1;omega),List.getElem_take]
  rw [← e2]
  have:i + 1 = t.count c + 1:=by omega
  rw [this]
  exact hset
 refine iLt (iCndP (fun h=>?_) (fun h=>?_))
 ·refine iRet (LW r c w7) fun w8 x8=>?_
  refine iLt ?_
  rcases j8 r c with ⟨hno,e⟩ | ⟨a,q,rfl,hno,e⟩
  ·rw [e]
   exact iCndT rfl (fin w8 x8 hno)
  ·rw [e]
   refine iCndF (by simp) ?_
   have hal:a.length ≤ (a ++ c :: q).length:=by simp
   rw [List.length_append,List.length_cons] at hr
   refine iAdd (by omega) ?_
   rw [Int.add_zero]
   refine iTxTo hal ?_
   rw [List.take_left]
   have hT8:=hT.ext x8
   refine iIaOw hT8.ow (by omega) (by rw [List.length_map];omega) fun b o hb _ _ hc hf hset=>?_
   refine iSt (hc.trans (List.getElem?_eq_getElem (by rw [List.length_map];omega))) hf rfl ?_
   have hset:=hset (sv a)
   rw [Int.toNat_natCast,← List.map_set] at hset
   refine iLenT ?_
   refine iAdd (by simp;omega) ?_
   rw [show (a.length:Int) + (([c]:Str).length:Nat) = ((a.length + 1:Nat):Int) by simp]
   refine wN (by simp) ?_
   refine iAdd (by omega) ?_
   have e3:(a ++ c :: q).drop (a.length + 1) = q:=by rw [List.drop_append];simp
   rw [e3]
   refine hKn (q,i + 1) _ ⟨by show i + 1 ≤ t.count c;omega,by show q.length ≤ t.length;omega,M.set i a,⟨hset,hT8.ch.trans ((Upd.setCell w8 b o _).ch (S:=fun q=>Value.ownBlock (.slice (some ⟨g,0,none⟩) (t.count c + 1) (t.count c + 1)) = some q) hb) fun _ e=>.inl e⟩,by rw [List.length_set];exact hM,?_⟩ (by show q.length < (a ++ c :: q).length;simp;omega)
   show aG c t = (M.set i a).take (i + 1) ++ aG c q
   rw [hsp,cN hno,List.take_succ_eq_append_getElem (by rw [List.length_set];omega),List.getElem_set_self,List.take_set_of_le (Nat.le_refl _)]
   simp
 ·have hi2:i = t.count c:=by omega
  have hno:∀ x ∈ r,x ≠ c:=by
   have hl:=congrArg List.length hsp
   rw [hsl,List.length_append,List.length_take,wE] at hl
   have:r.count c = 0:=by omega
   intro x hx e
   subst e
   exact List.count_eq_zero.1 this hx
  exact fin w7 (Ext.refl _) hno
end Go.Proofs.YteifjhpddhppcaaGreatDoor

namespace Go.Vc
abbrev decT (n:Nat):Str:=Lib.decDigits n
theorem OI {n:Nat} (h:¬ n < 10):decT n = decT (n / 10) ++ [UInt8.ofNat (48 + n % 10)]:=by unfold decT;conv=>lhs;rw [Lib.decDigits,dif_neg h]
end Go.Vc
namespace Go.Proofs.YteifjhpddhppcaaGreatDoor
open Go.Vc
def TabOk (w : World) : Prop := Lib.TabIs Tryz.prog w "internal/strconv.uint64pow10" .u64 Lib.pow10Tab
theorem TabOk.ext {w w':World} (h:TabOk w) (x:Ext w w'):TabOk w':=by
 unfold TabOk Lib.TabIs World.var? at h ⊢
 cases hg : Tryz.prog.globalNamed "internal/strconv.uint64pow10" with
 | none=>rw [hg] at h;exact h
 | some g=>
  rw [hg] at h
  simp only [Option.bind_some] at h ⊢
  have hlt:g < w.heap.size:=by
   rcases Nat.lt_or_ge g w.heap.size with h' | h'
   ·exact h'
   ·rw [Array.getElem?_eq_none h'] at h;cases h
  rw [Go.RowKit.Below.block x g hlt]
  exact h
theorem QP {n:Nat} (hn:n ≤ 1099511627776) {w:World} (hT:TabOk w):Ret Tryz.prog C9 #[.int .i64 (n:Int)] w (sv (decT n)):=by
 apply TJ;unfold E0
 refine iRet (v:=sv (decT n)) ?_ fun w' x=>⟨rfl,x⟩
 apply HR;unfold qU
 refine iCall (Cal.mono (R:=fun v w'=>v = sv (decT n) ∧ Ext w w') ⟨⟨_,W9.f246,by kernel_rfl,by kernel_rfl⟩,?_⟩ fun v w' h=>h)
 refine (Go.Proofs.Any.internal_strconv_FormatInt_10 W9 (n:Int) (by omega) (by omega) w hT).mono ?_
 rintro e w' ⟨rfl,k,os,rfl⟩
 refine ⟨_,rfl,?_,Lib.below_grow _ _ (Nat.le_refl _) _ _⟩
 have:Lib.itoa (n:Int) = decT n:=by
  unfold Lib.itoa
  rw [if_neg (by omega),Int.toNat_natCast]
 rw [this]
end Go.Proofs.YteifjhpddhppcaaGreatDoor

namespace Go.Vc
structure Ent where
 kd:Int
 nm:Str
 fm:Str
def entB (e:Ent):Bool:=if e.kd = 1 then dI e.nm && goodT e.fm else if e.kd = 2 ∨ e.kd = 3 then dI e.nm && decide (e.fm = []) else false
def posI (L:List Itm) (n:Str):Nat:=(L.takeWhile fun x=>ltS x.nm n).length
noncomputable def stepI (L:List Itm) (e:Ent):Option (List Itm):=
 if e.kd = 1 then (if hasI L e.nm then some (L.set (posI L e.nm) ⟨e.nm,e.fm,0⟩) else if 12 ≤ L.length then none else some (L.take (posI L e.nm) ++ ⟨e.nm,e.fm,0⟩ :: L.drop (posI L e.nm)))
 else if hasI L e.nm = false then none
 else if e.kd = 2 then some (L.take (posI L e.nm) ++ L.drop (posI L e.nm + 1))
 else if fE (gt L (posI L e.nm)).fm then some (L.set (posI L e.nm) ⟨(gt L (posI L e.nm)).nm,(gt L (posI L e.nm)).fm,1⟩) else none
structure JI (L:List Itm):Prop where
 len:L.length ≤ 12
 inc:L.Pairwise fun x y=>ltS x.nm y.nm = true
 ok:∀ x ∈ L,dI x.nm = true ∧ goodT x.fm = true ∧ (x.cl = 0 ∨ x.cl = 1) ∧ (x.cl = 1 → fE x.fm = true)
theorem JI.nil:JI []:=⟨by simp,List.Pairwise.nil,by simp⟩
theorem JI.incI {L:List Itm} (h:JI L):IncI L:=fun i j hij hj=>by
 have:=List.pairwise_iff_getElem.1 h.inc i j (by omega) hj hij
 rwa [gt_eq (show i < L.length by omega),gt_eq hj]
theorem sT {L:List Itm} {n:Str} {i:Nat} (hi:i ≤ L.length) (h1:∀ k,k < i → ltS (gt L k).nm n = true) (h2:i < L.length → ltS (gt L i).nm n = false):posI L n = i:=by
 unfold posI
 induction L generalizing i with
 | nil=>simp at hi;simp [hi]
 | cons x L ih=>
  cases i with
  | zero=>
   have h:=h2 (by simp)
   have h:ltS x.nm n = false:=h
   rw [List.takeWhile_cons,h];rfl
  | succ i=>
   have h:=h1 0 (by omega)
   have h:ltS x.nm n = true:=h
   rw [List.takeWhile_cons,h,if_pos rfl,List.length_cons,ih (i:=i) (by simpa using hi) (fun k hk=>h1 (k + 1) (by omega)) (fun hk=>h2 (by simpa using hk))]
theorem WO (L:List Itm) (n:Str):posI L n ≤ L.length:=(List.takeWhile_sublist _).length_le
theorem aFD {L:List Itm} {n:Str} {k:Nat} (hk:k < posI L n):ltS (gt L k).nm n = true:=by
 have hl:=WO L n
 unfold posI at hk
 have hm:(L.takeWhile fun x=>ltS x.nm n)[k] ∈ L.takeWhile fun x=>ltS x.nm n:=List.getElem_mem hk
 have:=(List.all_takeWhile (p:=fun x:Itm=>ltS x.nm n) (l:=L))
 rw [List.all_eq_true] at this
 have h1:=this _ hm
 have e:(L.takeWhile fun x=>ltS x.nm n)[k] = L[k]'(by unfold posI at hl;omega):=(List.takeWhile_prefix _).getElem hk
 rw [e] at h1
 rw [gt_eq (by unfold posI at hl;omega)]
 exact h1
theorem aB9:∀ {L:List Itm} {n:Str},(h:posI L n < L.length) → ltS (gt L (posI L n)).nm n = false
 | [],_,h=>by simp [posI] at h
 | x :: L,n,h=>by
  unfold posI at h ⊢
  rw [List.takeWhile_cons] at h ⊢
  split
  ·rename_i hx
   rw [if_pos hx] at h
   exact aB9 (L:=L) (n:=n) (by unfold posI;simpa using h)
  ·rename_i hx
   simpa [gt] using hx
theorem KX {L:List Itm} {n:Str} (hI:IncI L) (h:hasI L n = true):posI L n < L.length ∧ (gt L (posI L n)).nm = n:=by
 obtain ⟨i,hi,e⟩:=aDQ h
 have:posI L n = i:=sT (by omega) (fun k hk=>by rw [← e];exact hI k i hk hi) (fun _=>by rw [e,cV])
 rw [this]
 exact ⟨hi,e⟩
theorem aCC {L:List Itm} {n:Str} (hI:IncI L) (h:hasI L n = false):∀ k,posI L n ≤ k → k < L.length → ltS n (gt L k).nm = true:=by
 intro k hk hkl
 have hp:posI L n < L.length:=by omega
 have h1:ltS n (gt L (posI L n)).nm = true:=by
  rcases tW (gt L (posI L n)).nm n with h2 | h2 | h2
  ·rw [aB9 hp] at h2;cases h2
  ·rw [RV hp h2] at h;cases h
  ·exact h2
 by_cases e:k = posI L n
 ·rw [e];exact h1
 ·exact nU h1 (hI _ _ (by omega) hkl)
theorem JI.set {L:List Itm} (h:JI L) {i:Nat} {x:Itm} (hi:i < L.length) (hn:x.nm = (gt L i).nm) (hx:dI x.nm = true ∧ goodT x.fm = true ∧ (x.cl = 0 ∨ x.cl = 1) ∧ (x.cl = 1 → fE x.fm = true)):JI (L.set i x):=by
 refine ⟨by rw [List.length_set];exact h.len,?_,fun y hy=>?_⟩
 ·rw [List.pairwise_iff_getElem]
  intro a b ha hb hab
  rw [List.length_set] at ha hb
  have h0:=List.pairwise_iff_getElem.1 h.inc a b ha hb hab
  rw [gt_eq hi] at hn
  rw [List.getElem_set,List.getElem_set]
  split
  ·rename_i e;subst e
   rw [if_neg (by omega),hn];exact h0
  ·split
   ·rename_i e;subst e
    rw [hn];exact h0
   ·exact h0
 ·rcases List.mem_or_eq_of_mem_set hy with hy | rfl
  ·exact h.ok y hy
  ·exact hx
theorem wQ {L L':List Itm} {e:Ent} (h:JI L) (he:entB e = true) (hs:stepI L e = some L'):JI L':=by
 unfold stepI at hs
 unfold entB at he
 split at hs
 ·rename_i h1
  rw [if_pos h1,Bool.and_eq_true] at he
  split at hs
  ·rename_i h2
   cases hs
   obtain ⟨p1,p2⟩:=KX h.incI h2
   exact h.set p1 p2.symm ⟨he.1,he.2,.inl rfl,fun e=>by cases e⟩
  ·rename_i h2
   split at hs
   ·cases hs
   ·rename_i h3
    cases hs
    have h2:hasI L e.nm = false:=by simpa using h2
    have hpl:=WO L e.nm
    refine ⟨?_,?_,fun x hx=>?_⟩
    ·rw [List.length_append,List.length_cons,List.length_take,List.length_drop];omega
    ·refine List.pairwise_append.2 ⟨h.inc.sublist (List.take_sublist _ _),List.pairwise_cons.2 ⟨fun y hy=>?_,h.inc.sublist (List.drop_sublist _ _)⟩,fun x hx y hy=>?_⟩
     ·obtain ⟨j,hj,rfl⟩:=List.getElem_of_mem hy
      rw [List.length_drop] at hj
      rw [List.getElem_drop]
      have:=aCC h.incI h2 (posI L e.nm + j) (by omega) (by omega)
      rwa [gt_eq (by omega)] at this
     ·obtain ⟨i,hi,rfl⟩:=List.getElem_of_mem hx
      rw [List.length_take] at hi
      rw [List.getElem_take]
      have hlt:=aFD (L:=L) (n:=e.nm) (k:=i) (by omega)
      rw [gt_eq (by omega)] at hlt
      rcases List.mem_cons.1 hy with rfl | hy
      ·exact hlt
      ·obtain ⟨j,hj,rfl⟩:=List.getElem_of_mem hy
       rw [List.length_drop] at hj
       rw [List.getElem_drop]
       exact List.pairwise_iff_getElem.1 h.inc i (posI L e.nm + j) (by omega) (by omega) (by omega)
    ·rcases List.mem_append.1 hx with hx | hx
     ·exact h.ok x (List.mem_of_mem_take hx)
     ·rcases List.mem_cons.1 hx with rfl | hx
      ·exact ⟨he.1,he.2,.inl rfl,fun e=>by cases e⟩
      ·exact h.ok x (List.mem_of_mem_drop hx)
 ·rename_i h1
  split at hs
  ·cases hs
  ·rename_i h2
   have h2:hasI L e.nm = true:=by simpa using h2
   obtain ⟨p1,p2⟩:=KX h.incI h2
   split at hs
   ·cases hs
    have hsub:(L.take (posI L e.nm) ++ L.drop (posI L e.nm + 1)).Sublist L:=by
     conv=>rhs;rw [← List.take_append_drop (posI L e.nm) L]
     refine List.Sublist.append (List.Sublist.refl _) ?_
     rw [← List.drop_drop]
     exact List.drop_sublist _ _
    exact ⟨Nat.le_trans hsub.length_le h.len,h.inc.sublist hsub,fun x hx=>h.ok x (hsub.subset hx)⟩
   ·split at hs
    ·rename_i h4
     cases hs
     have:=h.ok (gt L (posI L e.nm)) (by rw [gt_eq p1];exact List.getElem_mem _)
     exact h.set p1 rfl ⟨this.1,this.2.1,.inr rfl,fun _=>h4⟩
    ·cases hs
/-! ### Lines -/
def kLet:Str:=[108,101,116]
def kDrop:Str:=[100,114,111,112]
def eP:Str:=[99,108,97,105,109]
def lineT (e:Ent):Str:=if e.kd = 1 then kLet ++ 32 :: (e.nm ++ 32 :: e.fm) else if e.kd = 2 then kDrop ++ 32 :: e.nm else eP ++ 32 :: e.nm
def chkT (c:Nat) (t:Str):Nat:=t.foldl (fun c b=>(37 * c + b.toNat) % 999983) c
theorem FT (c:Nat) (a b:Str):chkT c (a ++ b) = chkT (chkT c a) b:=List.foldl_append ..
theorem lN {c:Nat} (hc:c < 999983) (t:Str):chkT c t < 999983:=by
 unfold chkT
 induction t generalizing c with
 | nil=>exact hc
 | cons b t ih=>exact ih (Nat.mod_lt _ (by omega))
def lineC (c:Nat) (e:Ent):Str:=lineT e ++ 32 :: (decT (chkT c (lineT e)) ++ [10])
def entOf:List Str → Ent
 | [k,a,b]=>if k = kLet then ⟨1,a,b⟩ else ⟨0,[],[]⟩
 | [k,a]=>if k = kDrop then ⟨2,a,[]⟩ else if k = eP then ⟨3,a,[]⟩ else ⟨0,[],[]⟩
 | _=>⟨0,[],[]⟩
def joinT:List Str → Str
 | []=>[]
 | [a]=>a
 | a :: b :: r=>a ++ 32 :: joinT (b :: r)
theorem XL (t:Str):joinT (aG 32 t) = t:=by
 induction t using zZ 32 with
 | h0 t h=>rw [bW h];rfl
 | h1 a r h ih=>
  rw [cN h]
  obtain ⟨b,s,e⟩:∃ b s,aG 32 r = b :: s:=by
   cases hh:aG 32 r with
   | nil=>have:=wE 32 r;rw [hh] at this;simp at this
   | cons b s=>exact ⟨b,s,rfl⟩
  rw [e] at ih ⊢
  rw [joinT,ih]
theorem aCR {W:List Str} (h:entB (entOf W) = true):lineT (entOf W) = joinT W:=by
 unfold entOf at h ⊢
 split at h
 ·split at h
  ·rename_i k;subst k;simp [lineT,joinT]
  ·simp [entB] at h
 ·split at h
  ·rename_i k;subst k;simp [lineT,joinT]
  ·split at h
   ·rename_i k;subst k;simp [lineT,joinT,kDrop,eP]
   ·simp [entB] at h
 ·simp [entB] at h
theorem QZ {c:UInt8} {b:Str} (hb:∀ x ∈ b,x ≠ c) (a:Str):aG c (a ++ c :: b) = aG c a ++ [b]:=by
 induction a using zZ c with
 | h0 t h=>rw [cN h,bW h,bW hb];rfl
 | h1 a r h ih=>rw [List.append_assoc,List.cons_append,cN h,ih,cN h];rfl
def endP (l:Str):Nat → Nat
 | 0=>0
 | k + 1=>if l.getD (k + 1) 0 = 32 then k + 1 else endP l k
theorem S6 (l:Str):∀ k,endP l k ≤ k
 | 0=>Nat.le_refl _
 | k + 1=>by rw [endP];split;exact Nat.le_refl _;have:=S6 l k;omega
theorem ZO (l:Str):∀ k,endP l k = 0 ∨ l.getD (endP l k) 0 = 32
 | 0=>.inl rfl
 | k + 1=>by
  rw [endP]
  split
  ·exact .inr ‹_›
  ·exact ZO l k
theorem ZN (l:Str):∀ k q,endP l k < q → q ≤ k → l.getD q 0 ≠ 32
 | 0,q,h,h2=>by omega
 | k + 1,q,h,h2=>by
  rw [endP] at h
  split at h
  ·omega
  ·rename_i hk
   by_cases e:q = k + 1
   ·subst e;exact hk
   ·exact ZN l k q h (by omega)
def lastP (l:Str):Nat:=endP l l.length
structure Jn where
 items:List Itm
 ents:List Ent
 text:Str
 hist:List (List Itm)
def jn0:Jn:=⟨[],[],[],[[]]⟩
def Jn.chk (j:Jn):Nat:=chkT 11 j.text
noncomputable def addJ (j:Jn) (e:Ent):Option Jn:=(stepI j.items e).map fun L=>⟨L,j.ents ++ [e],j.text ++ lineC j.chk e,j.hist ++ [L]⟩
noncomputable def pStep (j:Jn) (l:Str):Option Jn:=
 if entB (entOf (aG 32 l).dropLast) && decide (lineC j.chk (entOf (aG 32 l).dropLast) = l ++ [10]) then addJ j (entOf (aG 32 l).dropLast) else none
noncomputable def sStep (j:Jn) (l:Str):Option Jn:=
 if entB (entOf (aG 32 (l.take (lastP l)))) && decide (l.drop (lastP l) = 32 :: decT (chkT 11 (j.text ++ l.take (lastP l)))) then (stepI j.items (entOf (aG 32 (l.take (lastP l))))).map fun L=>⟨L,j.ents ++ [entOf (aG 32 (l.take (lastP l)))],j.text ++ (l ++ [10]),j.hist ++ [L]⟩ else none
theorem KA {l:Str} {p:Nat} (hp:p < l.length):l.drop p = l.getD p 0 :: l.drop (p + 1):=by
 rw [List.drop_eq_getElem_cons hp];simp [List.getD_eq_getElem?_getD,hp]
theorem YC (j:Jn) (l:Str):pStep j l = sStep j l:=by
 have hle:=S6 l l.length
 have hgt:=ZN l l.length
 have hbno:∀ x ∈ l.drop (lastP l + 1),x ≠ 32:=by
  intro x hx
  obtain ⟨k,hk,rfl⟩:=List.getElem_of_mem hx
  rw [List.length_drop] at hk
  rw [List.getElem_drop]
  have:=hgt (lastP l + 1 + k) (show endP l l.length < _ by unfold lastP;omega) (by omega)
  simpa [List.getD_eq_getElem?_getD,show lastP l + 1 + k < l.length by omega] using this
 by_cases h0:lastP l = 0
 ·have hs:sStep j l = none:=by
   unfold sStep
   rw [h0,List.take_zero]
   simp [aG,entOf,entB]
  rw [hs]
  unfold pStep
  have hd:entOf (aG 32 l).dropLast = ⟨0,[],[]⟩:=by
   cases l with
   | nil=>simp [aG,entOf]
   | cons x r=>
    rw [h0] at hbno
    have hbr:∀ y ∈ r,y ≠ 32:=by simpa using hbno
    by_cases hx:x = 32
    ·subst hx
     rw [aG,if_pos rfl,bW hbr]
     simp [entOf]
    ·rw [bW (t:=x :: r) (fun y hy=>by
      rcases List.mem_cons.1 hy with rfl | hy
      ·exact hx
      ·exact hbr y hy)]
     simp [entOf]
  rw [hd]
  simp [entB]
 ·have hat:=(ZO l l.length).resolve_left h0
  have hpl:lastP l < l.length:=by
   rcases Nat.lt_or_ge (lastP l) l.length with h | h
   ·exact h
   ·have hat:l.getD (lastP l) 0 = 32:=hat
    rw [List.getD_eq_getElem?_getD,List.getElem?_eq_none h] at hat
    cases hat
  have hl:l = l.take (lastP l) ++ 32 :: l.drop (lastP l + 1):=by
   have h1:=List.take_append_drop (lastP l) l
   rw [KA hpl,show l.getD (lastP l) 0 = 32 from hat] at h1
   exact h1.symm
  have hd:l.drop (lastP l) = 32 :: l.drop (lastP l + 1):=by rw [KA hpl,show l.getD (lastP l) 0 = 32 from hat]
  have hw:(aG 32 l).dropLast = aG 32 (l.take (lastP l)):=by
   conv=>lhs;rw [hl]
   rw [QZ hbno,List.dropLast_concat]
  unfold pStep sStep
  rw [hw,hd]
  cases he:entB (entOf (aG 32 (l.take (lastP l))))
  ·simp
  ·have hlt:=aCR he
   rw [XL] at hlt
   have key:lineC j.chk (entOf (aG 32 (l.take (lastP l)))) = l ++ [10] ↔ 32 :: l.drop (lastP l + 1) = 32 :: decT (chkT 11 (j.text ++ l.take (lastP l))):=by
    unfold lineC Jn.chk
    rw [hlt,← FT]
    conv=>lhs;rhs;rw [hl]
    rw [List.append_assoc,List.append_cancel_left_eq]
    simp only [List.cons_append,List.cons.injEq,true_and,List.append_cancel_right_eq]
    exact eq_comm
   rw [Bool.true_and,Bool.true_and]
   by_cases hk:lineC j.chk (entOf (aG 32 (l.take (lastP l)))) = l ++ [10]
   ·rw [decide_eq_true hk,decide_eq_true (key.1 hk),if_pos rfl,if_pos rfl]
    unfold addJ
    rw [hk]
   ·rw [decide_eq_false hk,decide_eq_false (fun h=>hk (key.2 h))]
    rfl
noncomputable def readJ:Nat → Str → Jn → Jn
 | 0,_,j=>j
 | m + 1,t,j=>if 10 ∈ t then (match pStep j (t.takeWhile fun c=>c != 10) with
  | none=>j
  | some j'=>readJ m (t.dropWhile fun c=>c != 10).tail j') else j
theorem wD {m:Nat} {t:Str} {j:Jn} (h:∀ x ∈ t,x ≠ 10):readJ m t j = j:=by
 cases m with
 | zero=>rfl
 | succ m=>rw [readJ,if_neg (fun hm=>h 10 hm rfl)]
theorem zW {m:Nat} {l r:Str} {j:Jn} (h:∀ x ∈ l,x ≠ 10):readJ (m + 1) (l ++ 10 :: r) j = match pStep j l with | none=>j | some j'=>readJ m r j':=by
 have e1:(l ++ 10 :: r).takeWhile (fun c=>c != 10) = l:=by
  rw [List.takeWhile_append_of_pos (fun x hx=>by simpa using h x hx)];simp
 have e2:(l ++ 10 :: r).dropWhile (fun c=>c != 10) = 10 :: r:=by
  rw [List.dropWhile_append_of_pos (fun x hx=>by simpa using h x hx)];simp
 rw [readJ,if_pos (by simp),e1,e2]
 rfl
noncomputable def openJ (t:Str):Jn:=readJ 60 t jn0
end Go.Vc

namespace Go.Vc
def Rw (e:TypeId) (w:World) (g cap:Nat) (cur:List Value):Prop:=Blk e w g cur ∧ cur.length = cap * 3 ∧ cap ≤ 9223372036854775807
theorem OwK.rw {lo n:Nat} {e:TypeId} {w:World} {v:Value} {xs:List Value} (h:OwK 3 lo e w v n xs) (hn:0 < n):
  ∃ g cap cur,v = .slice (some ⟨g,0,none⟩) n cap ∧ lo ≤ g ∧ n ≤ cap ∧ Rw e w g cap cur ∧ cur.take (n * 3) = xs:=by
 obtain ⟨_,⟨_,h0⟩ | ⟨g,cap,cur,hv,hg,hh,h1,h2,h3,h4⟩⟩:=h
 ·omega
 ·exact ⟨g,cap,cur.toList,hv,hg,h1,⟨by unfold Blk;rw [Array.toArray_toList];exact hh,by simpa using h3,h2⟩,h4⟩
section
variable {P:Program} {w:World} {e:TypeId} {g cap:Nat} {cur:List Value}
theorem Rw.own {lo n:Nat} {xs:List Value} (h:Rw e w g cap cur) (hl:lo ≤ g) (hn:n ≤ cap) (hx:cur.take (n * 3) = xs):OwK 3 lo e w (.slice (some ⟨g,0,none⟩) n cap) n xs:=
 ⟨by rw [← hx,List.length_take,h.2.1];omega,.inr ⟨g,cap,cur.toArray,rfl,hl,h.1,hn,h.2.2,by simpa using h.2.1,by simpa using hx⟩⟩
theorem Rw.ext {w':World} (h:Rw e w g cap cur) (x:Ext w w'):Rw e w' g cap cur:=⟨h.1.ext x,h.2⟩
theorem Rw.lt (h:Rw e w g cap cur):g < w.heap.size:=cP h.1
theorem Rw.ch {w':World} {S:Nat → Prop} (h:Rw e w g cap cur) (hc:Ch S w w') (hn:¬ S g):Rw e w' g cap cur:=⟨by unfold Blk;rw [hc.block g h.lt hn];exact h.1,h.2⟩
theorem Rw.cell (h:Rw e w g cap cur) (i:Nat):w.cell? ⟨g,i,none⟩ = cur[i]?:=by
 have:=h.1
 unfold Blk at this
 simp [World.cell?,this]
theorem Rw.sl (h:Rw e w g cap cur) {l m c o:Nat} (ho:0 < m → o = l * 3) (hm:l + m ≤ cap) (hc:m ≤ c) (hcm:c ≤ 9223372036854775807):SlK 3 w (.slice (some ⟨g,o,none⟩) m c) m ((cur.drop (l * 3)).take (m * 3)):=by
 rcases Nat.eq_zero_or_pos m with rfl | h0
 ·exact ⟨by simp,_,c,rfl,hc,hcm,.inl rfl⟩
 ·have ho:=ho h0
  subst ho
  refine ⟨by rw [List.length_take,List.length_drop,h.2.1];omega,_,c,rfl,hc,hcm,.inr ⟨g,l * 3,rfl,fun i hi=>?_⟩⟩
  rw [h.cell (l * 3 + i),List.getElem?_take,if_pos hi,List.getElem?_drop]
def putL (cur:List Value) (o:Nat) (ys:List Value):List Value:=cur.take o ++ ys ++ cur.drop (o + ys.length)
theorem nF {cur:List Value} {o:Nat} {ys:List Value} (h:o + ys.length ≤ cur.length):(putL cur o ys).length = cur.length:=by
 unfold putL;rw [List.length_append,List.length_append,List.length_take,List.length_drop];omega
theorem JW {cur:List Value} {o n:Nat} {ys:List Value} (h:o + ys.length ≤ cur.length) (hn:n = o + ys.length):(putL cur o ys).take n = cur.take o ++ ys:=by
 unfold putL
 have hl:(cur.take o ++ ys).length = n:=by rw [List.length_append,List.length_take];omega
 rw [List.take_append_of_le_length (by omega),List.take_of_length_le (by omega)]
theorem NY {cur:List Value} {o n:Nat} {ys:List Value} (h:o + ys.length ≤ cur.length) (hn:n ≤ o):(putL cur o ys).take n = cur.take n:=by
 unfold putL
 rw [List.append_assoc,List.take_append_of_le_length (by rw [List.length_take];omega),List.take_take,Nat.min_eq_left hn]
theorem T6 {cur:List Value} {o n:Nat} {ys:List Value} (h:o + ys.length ≤ cur.length) (hn:o + ys.length ≤ n):(putL cur o ys).take n = cur.take o ++ ys ++ (cur.drop (o + ys.length)).take (n - (o + ys.length)):=by
 unfold putL
 have hl:(cur.take o ++ ys).length = o + ys.length:=by rw [List.length_append,List.length_take];omega
 rw [List.take_append,List.take_of_length_le (by omega),hl]
theorem aCG {cur:List Value} {o:Nat} {ys:List Value} (h:o ≤ cur.length):(putL cur o ys).drop o = ys ++ cur.drop (o + ys.length):=by
 unfold putL
 have hl:(cur.take o).length = o:=by rw [List.length_take];omega
 rw [List.append_assoc,List.drop_append,List.drop_of_length_le (by omega),List.nil_append,hl,Nat.sub_self,List.drop_zero]
theorem Rw.set (h:Rw e w g cap cur) {cur':List Value} (hl:cur'.length = cur.length):Rw e (w.setRow g cur'.toArray) g cap cur' ∧ Ch (fun c=>c = g) w (w.setRow g cur'.toArray):=
 ⟨⟨setRow_heap w g cur.toArray _ e (0,0) h.1,by rw [hl];exact h.2.1,h.2.2⟩,⟨rfl,rfl,rfl,by rw [setRow_size];exact Nat.le_refl _,fun c _ hc=>setRow_other w g c _ hc⟩⟩
theorem SlK.src {k m:Nat} {x:Value} {ys:List Value} (hs:SlK k w x m ys):∃ a c,x = .slice a m c ∧ ys.length = m * k ∧ ((a = none ∧ m = 0) ∨ ∃ ad,a = some ad ∧ ∀ j u,ys[j]? = some u → w.cell? (ad.add j) = some u):=by
 obtain ⟨hyl,a,c,rfl,hlc,hcm,hcells⟩:=hs
 refine ⟨a,c,rfl,hyl,?_⟩
 rcases hcells with rfl | ⟨b,o,rfl,hc⟩
 ·cases a with
  | none=>exact .inl ⟨rfl,rfl⟩
  | some ad=>
   refine .inr ⟨ad,rfl,fun j u hu=>?_⟩
   have:ys = []:=List.length_eq_zero_iff.1 (by omega)
   rw [this] at hu;simp at hu
 ·refine .inr ⟨_,rfl,fun j u hu=>?_⟩
  have hj:j < ys.length:=(List.getElem?_eq_some_iff.1 hu).1
  rw [bE,hc j (by omega),hu]
theorem aFK {t ty:TypeId} {i m bytes:Nat} {x z:Value} {ys:List Value} {K:Value → World → Prop} (ht:P.underlying t = some (.slice e)) (hi:(P.info? e).map (fun i=>(i.zero,i.size,i.bytes)) = some (some z,3,bytes))
  (hR:Rw e w g cap cur) (hs:SlK 3 w x m ys) (hy:∀ u ∈ ys,aC u = true) (hroom:i + m ≤ cap)
  (h:∀ w',Rw e w' g cap (putL cur (i * 3) ys) → Ch (fun c=>c = g) w w' → K (.slice (some ⟨g,0,none⟩) (i + m) cap) w'):
  xOp P (Builtin.append_ #[t,t] ty #[.slice (some ⟨g,0,none⟩) i cap,x]) w K:=by
 obtain ⟨inf,hi,h3⟩:=Option.map_eq_some_iff.1 hi
 simp only [Prod.mk.injEq] at h3
 obtain ⟨-,hsz,-⟩:=h3
 obtain ⟨a,c,rfl,hyl,⟨rfl,rfl⟩ | ⟨ad,rfl,hsrc⟩⟩:=hs.src
 ·have:ys = []:=List.length_eq_zero_iff.1 (by omega)
  subst this
  refine ⟨_,w,?_,h w (by simpa [putL] using hR) ⟨rfl,rfl,rfl,Nat.le_refl _,fun _ _ _=>rfl⟩⟩
  have:i ≤ cap:=by omega
  simp [Builtin.append_,run_underlying ht,sizeOf,typeInfo,hi,Builtin.lenOf,Builtin.firstCells,this,storeCells]
 ·have hl3:=hR.2.1
  have hr:=run_append_room (P:=P) w t ty e inf ht hi g i cap cur.toArray hR.1 ad m c ys (by rw [hsz];exact hyl) hsrc (fun u hu=>eF (hy u hu)) hroom (by simp [hsz];omega)
  rw [hsz] at hr
  obtain ⟨h1,h2⟩:=hR.set (cur':=putL cur (i * 3) ys) (nF (by omega))
  exact ⟨_,_,hr,h _ h1 h2⟩
theorem aFM {t tn ty:TypeId} {i k bytes:Nat} {kq kn:IntKind} {z:Value} {K:Value → World → Prop} (ht:P.underlying t = some (.slice e)) (htn:P.underlying tn = some (.int kn)) (hi:(P.info? e).map (fun i=>(i.zero,i.size,i.bytes)) = some (some z,3,bytes)) (hz:z.cells.size = 3)
  (hR:Rw e w g cap cur) (hic:i ≤ cap) (hk:cap < i + k) (hm:(i + k) * bytes ≤ 140737488355328) (hm2:i + k ≤ 1099511627776)
  (h:∀ w' cap' cur',Rw e w' w.heap.size cap' cur' → Ext w w' → i + k ≤ cap' → cur'.take (i * 3) = cur.take (i * 3) → K (.slice (some ⟨w.heap.size,0,none⟩) (i + k) cap') w'):
  xOp P (Builtin.append_ #[t,tn] ty #[.slice (some ⟨g,0,none⟩) i cap,.int kq (k:Int)]) w K:=by
 obtain ⟨inf,hi,h3⟩:=Option.map_eq_some_iff.1 hi
 simp only [Prod.mk.injEq] at h3
 obtain ⟨hz0,hsz,hby⟩:=h3
 have hl3:=hR.2.1
 have hold:(Builtin.firstCells inf.size i (.slice (some ⟨g,0,none⟩) i cap)).run P w.drew = .ok (cur.take (i * 3)).toArray w.drew:=by
  refine run_firstCells_some _ _ _ _ _ _ _ (by rw [hsz,List.length_take];omega) fun j u hu=>?_
  rw [bE,Nat.zero_add]
  have hj:j < i * 3:=by
   have:=(List.getElem?_eq_some_iff.1 hu).1
   rw [List.length_take] at this;omega
  rw [List.getElem?_take,if_pos hj] at hu
  have:=hR.cell j
  rw [hu] at this
  exact this
 have hnc:Builtin.nextslicecap (i + k) cap * inf.bytes ≤ 281474976710656:=growslice_fits hk (by rw [hby];exact hm)
 have hkb:k * inf.bytes ≤ 281474976710656:=by
  have:=Nat.mul_le_mul_right inf.bytes (show k ≤ i + k by omega)
  rw [hby] at this ⊢;omega
 have hr:=Lib.run_append_grow_zeros (P:=P) w t tn ty e inf z kq kn ht htn hi hz0 (some ⟨g,0,none⟩) i cap (cur.take (i * 3)) hold k (by omega) (by omega) hk (by omega) hkb hnc
 have hge:=grownCap_ge w (i + k) cap e
 have hcm:=grownCap_le_maxLen w (i + k) cap e (by simp only [maxLen];omega)
 have hB:=Blk.new w.drew ((cur.take (i * 3)).toArray ++ Builtin.zeroCells z.cells k ++ Builtin.zeroCells z.cells (grownCap w (i + k) cap e - (i + k))) e
 have hlt:(cur.take (i * 3)).length = i * 3:=by rw [List.length_take];omega
 refine ⟨_,_,hr,h _ (grownCap w (i + k) cap e) _ ⟨hB,?_,by simpa [maxLen] using hcm⟩ ((Ext.drew w).trans (Ext.alloc _ _)) hge ?_⟩
 ·rw [Array.length_toList,Array.size_append,Array.size_append,size_zeroCells,size_zeroCells,hz,List.size_toArray,hlt]
  omega
 ·rw [Array.toList_append,Array.toList_append,List.append_assoc,List.take_append_of_le_length (by rw [List.toList_toArray,hlt];exact Nat.le_refl _),List.toList_toArray,List.take_take,Nat.min_self]
theorem iCp {tD tS ty:TypeId} {o l dl dc m bytes n:Nat} {x z:Value} {ys:List Value} {K:Value → World → Prop} (ht:P.underlying tD = some (.slice e)) (hi:(P.info? e).map (fun i=>(i.zero,i.size,i.bytes)) = some (some z,3,bytes))
  (hR:Rw e w g cap cur) (hs:SlK 3 w x m ys) (hy:∀ u ∈ ys.take (n * 3),aC u = true) (hn:n = Nat.min m dl) (ho:o = l * 3) (hfit:l + n ≤ cap)
  (h:∀ v w',Rw e w' g cap (putL cur (l * 3) (ys.take (n * 3))) → Ch (fun c=>c = g) w w' → K v w'):
  xOp P (Builtin.copy_ #[tD,tS] ty #[.slice (some ⟨g,o,none⟩) dl dc,x]) w K:=by
 subst ho
 obtain ⟨inf,hi,h3⟩:=Option.map_eq_some_iff.1 hi
 simp only [Prod.mk.injEq] at h3
 obtain ⟨-,hsz,-⟩:=h3
 have hl3:=hR.2.1
 have hnm:n ≤ m:=by rw [hn];exact Nat.min_le_left _ _
 obtain ⟨a,c,rfl,hyl,ha⟩:=hs.src
 have hyt:(ys.take (n * 3)).length = n * 3:=by rw [List.length_take];omega
 have hf:(Builtin.firstCells 3 n (.slice a m c)).run P w = .ok (ys.take (n * 3)).toArray w:=by
  rcases ha with ⟨rfl,h0⟩ | ⟨ad,rfl,hsrc⟩
  ·have:n = 0:=by omega
   subst this
   rw [run_firstCells_none];simp
  ·refine run_firstCells_some _ _ _ _ _ _ _ hyt fun j u hu=>hsrc j u ?_
   have hj:j < n * 3:=by
    have:=(List.getElem?_eq_some_iff.1 hu).1
    omega
   rwa [List.getElem?_take,if_pos hj] at hu
 have hst:=run_storeCells_at P g (l * 3) e (ys.take (n * 3)) 0 cur.toArray w hR.1 (by simp only [List.size_toArray];omega) (fun u hu=>eF (hy u hu))
 obtain ⟨h1,h2⟩:=hR.set (cur':=putL cur (l * 3) (ys.take (n * 3))) (nF (by omega))
 have hn':m.min dl = n:=hn.symm
 refine ⟨goInt n,_,?_,h _ _ h1 h2⟩
 simp only [Nat.add_zero] at hst
 simp [Builtin.copy_,run_underlying ht,Builtin.lenOf,sizeOf,typeInfo,hi,hsz,hn',hf,hst,putL]
theorem iClr3 {t ty:TypeId} {o l n c bytes:Nat} {z:Value} {K:Value → World → Prop} (ht:P.underlying t = some (.slice e)) (hi:(P.info? e).map (fun i=>(i.zero,i.size,i.bytes)) = some (some z,3,bytes)) (hz:z.cells.size = 3) (hzc:∀ u ∈ z.cells.toList,aC u = true)
  (hR:Rw e w g cap cur) (ho:o = l * 3) (hn:0 < n) (hfit:l + n ≤ cap)
  (h:∀ ys w',ys.length = n * 3 → Rw e w' g cap (putL cur (l * 3) ys) → Ch (fun c=>c = g) w w' → K (.tuple #[]) w'):
  xOp P (Builtin.clear_ #[t] ty #[.slice (some ⟨g,o,none⟩) n c]) w K:=by
 subst ho
 obtain ⟨inf,hi,h3⟩:=Option.map_eq_some_iff.1 hi
 simp only [Prod.mk.injEq] at h3
 obtain ⟨hz0,hsz,-⟩:=h3
 have hl3:=hR.2.1
 have hzl:(Builtin.zeroCells z.cells n).toList.length = n * 3:=by rw [Array.length_toList,size_zeroCells,hz]
 have hst:=run_storeCells_at P g (l * 3) e (Builtin.zeroCells z.cells n).toList 0 cur.toArray w hR.1 (by simp only [List.size_toArray];omega) (fun u hu=>eF (by
  obtain ⟨i,hi,rfl⟩:=List.getElem_of_mem hu
  rw [hzl] at hi
  simp only [Builtin.zeroCells,Array.getElem_toList,Array.getElem_map]
  refine hzc _ ?_
  have hlt:(Array.range (n * z.cells.size))[i]'(by rw [Array.size_range,hz];exact hi) % z.cells.size < z.cells.size:=Nat.mod_lt _ (by omega)
  rw [getElem!_pos z.cells _ hlt]
  simp))
 obtain ⟨h1,h2⟩:=hR.set (cur':=putL cur (l * 3) (Builtin.zeroCells z.cells n).toList) (nF (by omega))
 simp only [Nat.add_zero] at hst
 refine ⟨_,_,?_,h _ _ hzl h1 h2⟩
 obtain ⟨m,rfl⟩:∃ m,n = m + 1:=⟨n - 1,by omega⟩
 simp [Builtin.clear_,run_underlying ht,zeroValue,iZ hi,hz0,hst,putL]
end
/-! ### Parts of slices of elements of three cells -/
theorem iT3 {g o n c l:Nat} {ki:IntKind} {K:Value → Prop} (hl:l ≤ n) (hc:n ≤ c) (h:∀ o',(l < c → o' = o + l * 3) → K (.slice (some ⟨g,o',none⟩) (n - l) (c - l))):xSl 3 (.slice (some ⟨g,o,none⟩) n c) (some (.int ki (l:Int))) none K:=by
 refine ⟨_,_,_,l,n,rfl,rfl,⟨ki,rfl⟩,hl,hc,?_⟩
 split
 ·rename_i e
  exact h o (fun hlt=>by omega)
 ·rw [Option.map_some,bE]
  exact h _ fun _=>rfl
theorem iH3 {g o n c k:Nat} {ki:IntKind} {K:Value → Prop} (hk:k ≤ c) (h:K (.slice (some ⟨g,o,none⟩) k c)):xSl 3 (.slice (some ⟨g,o,none⟩) n c) none (some (.int ki (k:Int))) K:=by
 refine ⟨_,_,_,0,k,rfl,⟨ki,rfl⟩,rfl,Nat.zero_le _,hk,?_⟩
 have e:(if c = 0 then some (⟨g,o,none⟩:Addr) else (some (⟨g,o,none⟩:Addr)).map (·.add (0 * 3))) = some ⟨g,o,none⟩:=by
  split
  ·rfl
  ·rw [Option.map_some,bE,Nat.zero_mul,Nat.add_zero]
 rw [e,Nat.sub_zero,Nat.sub_zero]
 exact h
theorem iM3 {g o n c l k:Nat} {ki kj:IntKind} {K:Value → Prop} (hl:l ≤ k) (hk:k ≤ c) (hlc:l < c) (h:K (.slice (some ⟨g,o + l * 3,none⟩) (k - l) (c - l))):xSl 3 (.slice (some ⟨g,o,none⟩) n c) (some (.int ki (l:Int))) (some (.int kj (k:Int))) K:=by
 refine ⟨_,_,_,l,k,rfl,⟨kj,rfl⟩,⟨ki,rfl⟩,hl,hk,?_⟩
 rw [if_neg (by omega),Option.map_some,bE]
 exact h
theorem mZ (L:List Itm) (k:Nat):(aJ L).take (k * 3) = aJ (L.take k):=by
 rcases Nat.lt_or_ge L.length k with h | h
 ·rw [List.take_of_length_le (by rw [fM];omega),List.take_of_length_le (by omega)]
 ·conv=>lhs;rw [← List.take_append_drop k L,pN]
  rw [List.take_append_of_le_length (by rw [fM,List.length_take];omega),List.take_of_length_le (by rw [fM,List.length_take];omega)]
theorem gW (L:List Itm) (k:Nat):(aJ L).drop (k * 3) = aJ (L.drop k):=by
 rcases Nat.lt_or_ge L.length k with h | h
 ·rw [List.drop_of_length_le (by rw [fM];omega),List.drop_of_length_le (by omega)];rfl
 ·conv=>lhs;rw [← List.take_append_drop k L,pN]
  rw [List.drop_append,List.drop_of_length_le (by rw [fM,List.length_take];omega),List.nil_append,fM,List.length_take,Nat.min_eq_left h,Nat.sub_self,List.drop_zero]
end Go.Vc
namespace Go.Proofs.YteifjhpddhppcaaGreatDoor
open Go.Vc
theorem iChk {k n i:Nat} {w:World} {v:Value} {xs:List Value} {ki:IntKind} {G:Prop} (hs:SlK k w v n xs) (hi:i ≤ n) (h:G):xSl k v (some (.int ki (i:Int))) none fun _=>G:=by
 obtain ⟨_,a,c,rfl,h2,_,_⟩:=hs
 exact ⟨_,_,_,i,n,rfl,rfl,⟨ki,rfl⟩,hi,h2,h⟩
theorem ItmS {q:Nat} {x:Itm} {w:World} (hq:Blk bF w q x.cs):SlK 3 w (.slice (some ⟨q,0,none⟩) 1 1) 1 x.cs:=(OwK.ofBlk (k:=3) (lo:=0) (n:=1) hq (Nat.zero_le _) rfl (by omega)).sl
theorem FZ (x:Itm):∀ u ∈ x.cs,aC u = true:=fun u hu=>m5 [x] u (by simpa [aJ] using hu)
theorem aCJ {w:World} {q g o n c cap:Nat} {x:Itm} {cur:List Value} (hq:Blk bF w q x.cs) (hR:Rw bF w g cap cur) (hne:g ≠ q) (h0:0 < cap):
  (callFunc 223 #[.slice (some ⟨q,0,none⟩) 1 1,.slice (some ⟨g,o,none⟩) n c]).run Tryz.prog w = .ok (.value (.bool false)) w:=by
 have h1:=hq
 have h2:=hR.1
 have h3:=hR.2.1
 unfold Blk at h1 h2
 rw [run_callFunc_extern Tryz.func223 (by kernel_rfl) (by kernel_rfl) (by kernel_rfl) (e:=Extern.SlicesOverlaps.overlaps #[bQ,bQ] #[4]) (by kernel_rfl),
  Lib.run_overlaps_apart w bQ 4 bF bJ 3 Tryz.sizeOf32 ⟨q,0,none⟩ ⟨g,o,none⟩ 1 1 n c (fun e=>hne e.symm) bF bF 3 cur.length (by simp [World.shape?,h1,Itm.cs]) (by simp [World.shape?,h2]) (by omega) (by simp [World.frozen?,h1]) (by simp [World.frozen?,h1])]
 rfl
theorem LH {lo q i:Nat} {v:Value} {L:List Itm} {x:Itm} {w:World} (hs:ItW lo w v L) (hlo:lo ≤ w.heap.size) (hL:L.length ≤ 1048576) (hi:i ≤ L.length) (hq:Blk bF w q x.cs) (hne:v.ownBlock ≠ some q):
  Cal Tryz.prog eM #[v,.int .i64 (i:Int),.slice (some ⟨q,0,none⟩) 1 1] w fun r w'=>
   ItW lo w' r (L.take i ++ x :: L.drop i) ∧ Ch (fun c=>v.ownBlock = some c) w w' ∧ (r.ownBlock = v.ownBlock ∨ ∃ c,r.ownBlock = some c ∧ w.heap.size ≤ c):=by
 apply kK;unfold eK
 have hlen:(L.take i ++ x :: L.drop i).length = L.length + 1:=by rw [List.length_append,List.length_cons,List.length_take,List.length_drop];omega
 have hres:aJ (L.take i ++ x :: L.drop i) = aJ (L.take i) ++ x.cs ++ aJ (L.drop i):=by simp [aJ]
 have hx3:x.cs.length = 3:=rfl
 have hxt:x.cs.take (1 * 3) = x.cs:=rfl
 refine iChk hs.sl hi ?_
 refine iLenL (iEq (iCndF (by simp) ?_))
 refine iLenK hs.sl (iEq (iCndP (fun he=>?_) (fun he=>?_)))
 ·have hiL:i = L.length:=by omega
  refine iAppK bJ cK rfl (by omega) hs (ItmS hq) (FZ x) (by omega) (by omega) hlo fun v' w' ho hg hb=>?_
  refine ⟨?_,d9 hg fun b hb=>hb,hb⟩
  show OwK 3 lo _ w' v' _ _
  rw [hlen,hres,hiL,List.take_length,List.drop_length]
  have e:aJ ([]:List Itm) = []:=rfl
  rw [e,List.append_nil]
  exact ho
 ·have hil:i < L.length:=by omega
  obtain ⟨g,cap,cur,rfl,hg,hcap,hR,hx⟩:=hs.rw (by omega)
  have hgq:g ≠ q:=fun e=>hne (by rw [e];rfl)
  have hgl:=hR.lt
  have hcl:=hR.2.1
  have hA:cur.take (i * 3) = aJ (L.take i):=by rw [← mZ,← hx,List.take_take,Nat.min_eq_left (by omega)]
  have hB:(cur.drop (i * 3)).take ((L.length - i) * 3) = aJ (L.drop i):=by rw [← gW,← hx,List.drop_take];congr 1;omega
  have hcm:=hR.2.2
  have hcell:∀ w',Rw bF w' g cap cur → ∀ u ∈ (cur.drop (i * 3)).take ((L.length - i) * 3),aC u = true:=fun _ _ u hu=>m5 (L.drop i) u (by rw [← hB];exact hu)
  refine iAdd (by omega) ?_
  refine iCapL (e:=bF) bJ ?_
  refine iLt (iCndP (fun hgrow=>?_) (fun hroom=>?_))
  ·refine iH3 (k:=i) (by omega) ?_
   refine iAdd (by omega) (iSub (by omega) ?_)
   rw [show ((L.length:Nat):Int) + ((1:Nat):Int) - (i:Int) = ((L.length + 1 - i:Nat):Int) by omega]
   refine aFM (k:=L.length + 1 - i) (kn:=.i64) bJ (by kernel_rfl) cK rfl hR (by omega) (by omega) (by omega) (by omega) fun w2 cap2 cur2 hR2 x2 hc2 ht2=>?_
   have hn2:i + (L.length + 1 - i) = L.length + 1:=by omega
   rw [hn2] at hc2 ⊢
   have hc2m:=hR2.2.2
   have hc2l:=hR2.2.1
   refine iT3 (l:=i) (by omega) hc2 fun o1 ho1=>?_
   have ho1:=ho1 (by omega)
   refine iCp (l:=i) (n:=1) bJ cK hR2 (ItmS (hq.ext x2)) (FZ x) (Nat.min_eq_left (by omega)).symm (by omega) (by omega) fun _ w3 hR3 hc3=>?_
   refine iAdd (by omega) ?_
   rw [show (i:Int) + ((1:Nat):Int) = ((i + 1:Nat):Int) by omega]
   refine iT3 (l:=i + 1) (by omega) hc2 fun o2 ho2=>?_
   have ho2:=ho2 (by omega)
   refine iT3 (l:=i) (by omega) hcap fun o3 ho3=>?_
   intro w4 x4
   have hRg:Rw bF w4 g cap cur:=((hR.ext x2).ch hc3 (by omega)).ext x4
   refine iCp (l:=i + 1) (n:=L.length - i) bJ cK (hR3.ext x4) (hRg.sl (l:=i) (m:=L.length - i) (fun _=>by rw [ho3 (by omega)];omega) (by omega) (by omega) (by omega)) (fun u hu=>hcell w4 hRg u (List.mem_of_mem_take hu)) (by rw [show L.length + 1 - (i + 1) = L.length - i by omega];exact (Nat.min_self _).symm) (by omega) (by omega) fun _ w5 hR5 hc5=>?_
   intro w6 x6
   have x36:Ext w w6:=((((x2.thenCh hc3 fun c hc=>by omega).trans x4).thenCh hc5 fun c hc=>by omega).trans x6)
   refine ⟨?_,x36.ch,.inr ⟨_,rfl,Nat.le_refl _⟩⟩
   show OwK 3 lo _ w6 _ _ _
   rw [hlen,hres]
   have hyl:(((cur.drop (i * 3)).take ((L.length - i) * 3)).take ((L.length - i) * 3)).length = (L.length - i) * 3:=by rw [List.length_take,List.length_take,List.length_drop];omega
   refine (hR5.ext x6).own hlo hc2 ?_
   rw [JW (by rw [nF (by rw [hxt,hx3];omega),hyl];omega) (by rw [hyl];omega),JW (by rw [hxt,hx3];omega) (by rw [hxt,hx3];omega),hxt,ht2,hA,List.take_take,Nat.min_self,hB]
  ·have hr2:L.length + 1 ≤ cap:=by omega
   refine iAdd (by omega) ?_
   rw [show ((L.length:Nat):Int) + ((1:Nat):Int) = ((L.length + 1:Nat):Int) by omega]
   refine iH3 (k:=L.length + 1) hr2 ?_
   refine iAdd (by omega) ?_
   rw [show (i:Int) + ((1:Nat):Int) = ((i + 1:Nat):Int) by omega]
   refine iT3 (l:=i + 1) (by omega) hr2 fun o1 ho1=>?_
   refine iExt (aCJ hq hR hgq (by omega)) ?_
   refine iNot (iCndT rfl ?_)
   refine iAdd (by omega) ?_
   rw [show (i:Int) + ((1:Nat):Int) = ((i + 1:Nat):Int) by omega]
   refine iT3 (l:=i + 1) (by omega) hr2 fun o2 ho2=>?_
   have ho2:=ho2 (by omega)
   refine iT3 (l:=i) (by omega) hr2 fun o3 ho3=>?_
   have ho3:=ho3 (by omega)
   intro w8 x8
   have hR8:=hR.ext x8
   have hyl:(((cur.drop (i * 3)).take ((L.length + 1 - i) * 3)).take ((L.length - i) * 3)) = aJ (L.drop i):=by rw [List.take_take,Nat.min_eq_left (by omega),hB]
   have hyl2:(aJ (L.drop i)).length = (L.length - i) * 3:=by rw [fM,List.length_drop]
   refine iCp (l:=i + 1) (n:=L.length - i) bJ cK hR8 (hR8.sl (l:=i) (m:=L.length + 1 - i) (fun _=>by omega) (by omega) (by omega) (by omega)) (by rw [hyl];exact m5 _) (by show L.length - i = min (L.length + 1 - i) (L.length + 1 - (i + 1));omega) (by omega) (by omega) fun _ w9 hR9 hc9=>?_
   intro w10 x10
   rw [hyl] at hR9
   refine iT3 (l:=i) (by omega) hr2 fun o4 ho4=>?_
   have ho4:=ho4 (by omega)
   refine iCp (l:=i) (n:=1) bJ cK (hR9.ext x10) (ItmS (((hq.ext x8).ch hc9 fun e=>hgq e.symm).ext x10)) (FZ x) (Nat.min_eq_left (by omega)).symm (by omega) (by omega) fun _ w11 hR11 hc11=>?_
   have hS:∀ c,c = g → (Value.slice (some ⟨g,0,none⟩) L.length cap).ownBlock = some c:=fun c e=>by rw [e];rfl
   refine ⟨?_,((x8.ch.trans (hc9.mono hS) fun _ h=>.inl h).trans (x10.ch (S:=fun _=>False)) (fun _ h=>h.elim)).trans (hc11.mono hS) fun _ h=>.inl h,.inl rfl⟩
   show OwK 3 lo _ w11 _ _ _
   rw [hlen,hres]
   refine hR11.own hg hr2 ?_
   have h9l:(putL cur ((i + 1) * 3) (aJ (L.drop i))).length = cap * 3:=by rw [nF (by omega),hcl]
   rw [hxt,T6 (by omega) (by omega),NY (by omega) (by omega),hA,hx3,show i * 3 + 3 = (i + 1) * 3 by omega,aCG (by omega),List.take_append_of_le_length (by omega),List.take_of_length_le (l:=aJ (L.drop i)) (by omega)]
theorem LQ {lo i:Nat} {v:Value} {L:List Itm} {w:World} (hs:ItW lo w v L) (hi:i < L.length) (hL:L.length ≤ 1048576):
  Cal Tryz.prog eL #[v,.int .i64 (i:Int),.int .i64 ((i + 1:Nat):Int)] w fun r w'=>ItW lo w' r (L.take i ++ L.drop (i + 1)) ∧ Ch (fun c=>v.ownBlock = some c) w w' ∧ r.ownBlock = v.ownBlock:=by
 apply kP;unfold eU
 obtain ⟨g,cap,cur,rfl,hg,hcap,hR,hx⟩:=hs.rw (by omega)
 have hcl:=hR.2.1
 have hcm:=hR.2.2
 have hA:cur.take (i * 3) = aJ (L.take i):=by rw [← mZ,← hx,List.take_take,Nat.min_eq_left (by omega)]
 have hB:(cur.drop ((i + 1) * 3)).take ((L.length - (i + 1)) * 3) = aJ (L.drop (i + 1)):=by rw [← gW,← hx,List.drop_take];congr 1;omega
 have hB2:(aJ (L.drop (i + 1))).length = (L.length - (i + 1)) * 3:=by rw [fM,List.length_drop]
 refine iLenL ?_
 refine ⟨.slice (if L.length = i then some ⟨g,0,none⟩ else (some (⟨g,0,none⟩:Addr)).map (·.add (i * 3))) (i + 1 - i) (L.length - i),fun w' _=>?_,?_⟩
 ·have h1:((i + 1:Nat):Int) ≤ (L.length:Int):=by omega
  have h2:(L.length:Int) ≤ (cap:Int):=by omega
  have h3:(i:Int) ≤ ((i + 1:Nat):Int):=by omega
  have hz:∀ w,(sizeOf bF).run Tryz.prog w = .ok 3 w:=Tryz.sizeOf32
  have b1:=run_sliceBound (P:=Tryz.prog) w' .i64 (L.length:Int) cap .slice3Acap (by omega) h2
  have b2:=run_sliceBound (P:=Tryz.prog) w' .i64 ((i + 1:Nat):Int) L.length .slice3B (by omega) h1
  have b3:=run_sliceBound (P:=Tryz.prog) w' .i64 (i:Int) (i + 1) .slice3C (by omega) h3
  rw [Int.toNat_natCast] at b1 b2 b3
  simp only [Instr.sliceAt,Instr.slice,Instr.sliceBounds,Sem.run_bind,Sem.run_pure,run_underlying bJ,Result.andThen_ok,b1,b2,b3,hz,if_true,Option.isSome_some]
 refine iEq (iCndF (decide_eq_false (by omega)) ?_)
 refine iLenL ?_
 refine iH3 (k:=i) (by omega) ?_
 refine iT3 (l:=i + 1) (by omega) hcap fun o2 ho2=>?_
 intro w1 x1
 have hR1:=hR.ext x1
 refine aFK (i:=i) (m:=L.length - (i + 1)) bJ cK hR1 (hR1.sl (l:=i + 1) (m:=L.length - (i + 1)) (fun _=>by have:=ho2 (by omega);omega) (by omega) (by omega) (by omega)) (by rw [hB];exact m5 _) (by omega) fun w2 hR2 hc2=>?_
 rw [hB] at hR2
 intro w3 x3
 have hR3:=hR2.ext x3
 have hn:i + (L.length - (i + 1)) = L.length - 1:=by omega
 rw [hn]
 refine iLenL ?_
 refine iM3 (l:=L.length - 1) (k:=L.length) (by omega) (by omega) (by omega) ?_
 refine iClr3 (l:=L.length - 1) bJ cK rfl (by simp [Value.cells,aC]) hR3 (by omega) (by omega) (by omega) fun ys w4 hys hR4 hc4=>?_
 have hS:∀ c,c = g → (Value.slice (some ⟨g,0,none⟩) L.length cap).ownBlock = some c:=fun c e=>by rw [e];rfl
 refine ⟨?_,((x1.ch.trans (hc2.mono hS) fun _ h=>.inl h).trans (x3.ch (S:=fun _=>False)) (fun _ h=>h.elim)).trans (hc4.mono hS) fun _ h=>.inl h,rfl⟩
 show OwK 3 lo _ w4 _ _ _
 have hlen:(L.take i ++ L.drop (i + 1)).length = L.length - 1:=by rw [List.length_append,List.length_take,List.length_drop];omega
 rw [hlen,pN]
 refine hR4.own hg (by omega) ?_
 have h2l:(putL cur (i * 3) (aJ (L.drop (i + 1)))).length = cap * 3:=by rw [nF (by omega),hcl]
 rw [NY (by omega) (by omega),JW (by omega) (by omega),hA]
end Go.Proofs.YteifjhpddhppcaaGreatDoor

namespace Go.Vc
def Ent.cs (e:Ent):List Value:=[.int .i64 e.kd,sv e.nm,sv e.fm]
def Ent.val (e:Ent):Value:=.agg #[.int .i64 e.kd,sv e.nm,sv e.fm]
section
variable {P:Program} {w:World}
theorem aEW {s d e:TypeId} {t:Str} {K:Value → World → Prop} (hs:P.underlying s = some .string) (hd:P.underlying d = some (.slice e)) (he:P.underlying e = some (.int .u8)) (ht:t.length ≤ 1099511627776)
  (h:∀ v w',Ext w w' → Sl w' v (t.map fun b=>.int .u8 (b.toNat:Int)) → K v w'):xOp P (convert s d (sv t)) w K:=by
 have hr:=Lib.run_convert_string_bytes (P:=P) w s d e ⟨t.toArray⟩ hs hd he
 have hsz:(⟨t.toArray⟩:ByteArray).size = t.length:=rfl
 have hge:=grownCap_ge w t.length 0 e
 have hcm:=grownCap_le_maxLen w t.length 0 e (by simp only [maxLen];omega)
 refine ⟨_,_,hr,h _ _ ⟨rfl,rfl,rfl,by rw [Lib.bytesWorld_size];omega,fun j hj=>Lib.bytesWorld_at_old w e _ j hj⟩ ⟨_,_,by rw [List.length_map,hsz],by rw [List.length_map];exact hge,by simpa [maxLen] using hcm,.inr ⟨w.heap.size,0,rfl,fun i hi=>?_⟩⟩⟩
 rw [List.length_map] at hi
 rw [Nat.zero_add,Lib.bytesWorld_cell w e ⟨t.toArray⟩ i hi]
 simp [hi]
theorem iIaBT {v:Value} {t:Str} {j:Nat} {k:IntKind} {K:Value → Prop} (hs:Sl w v (t.map fun b=>.int .u8 (b.toNat:Int))) (hj:j < t.length) (h:K (.int .u8 ((t.getD j 0).toNat:Int))):xIa 1 v (.int k (j:Int)) fun p=>xLd w p K:=by
 refine iIa hs (by omega) (by rw [List.length_map];omega) fun p hc=>?_
 exact iLd (hc.trans (by rw [Int.toNat_natCast];simp [List.getD_eq_getElem?_getD,hj])) h
theorem iChrE {s d e:TypeId} {c:UInt8} {z:Int} {K:Value → World → Prop} (hs:P.underlying s = some (.slice e)) (he:P.underlying e = some (.int .u8)) (hd:P.underlying d = some .string) (hz:z = (c.toNat:Int)) (h:∀ w',Ext w w' → K (sv [c]) w'):
  xBs e (Value.cells (.int .u8 0)) 1 1 [(0,.int .u8 z)] w fun v w3=>Ext w w3 ∧ xR P w3 (convert s d v) fun r=>K r w3:=by
 obtain ⟨cs,h1,v,h2,h3,h4⟩:=iChr (P:=P) (w:=w) (K:=fun r w3=>Ext w w3 ∧ K r w3) hs he hd hz fun w' x=>⟨x,h w' x⟩
 exact ⟨cs,h1,h3,v,h2,h4⟩
end
theorem TZ (c:Nat) (t:Str) (b:UInt8):chkT c (t ++ [b]) = (37 * chkT c t + b.toNat) % 999983:=by rw [FT];rfl
theorem TW {t:Str} {i:Nat} (h:i < t.length):t.take (i + 1) = t.take i ++ [t.getD i 0]:=by
 rw [List.take_succ_eq_append_getElem h];simp [List.getD_eq_getElem?_getD,h]
theorem WB (c:Nat) (b:UInt8):((37 * (c:Int) + (b.toNat:Int)) % 999983) = (((37 * c + b.toNat) % 999983:Nat):Int):=by omega
theorem yY (n:Nat):(decT n).length ≤ n + 1:=by
 induction n using Nat.strongRecOn with
 | _ n ih=>
  by_cases h:n < 10
  ·unfold decT;rw [Lib.decDigits,dif_pos h];simp
  ·rw [OI h,List.length_append]
   have:=ih (n / 10) (by omega)
   simp only [List.length_cons,List.length_nil];omega
end Go.Vc
namespace Go.Proofs.YteifjhpddhppcaaGreatDoor
open Go.Vc
theorem oU {c:Nat} {t:Str} (hc:c < 999983) (ht:t.length ≤ 1099511627776) (w:World):Ret Tryz.prog DN #[.int .i64 (c:Int),sv t] w (.int .i64 (chkT c t:Int)):=by
 apply S8;unfold DY
 refine aEW Tryz.underlying9 OR (by kernel_rfl) ht fun v w1 x1 hs=>?_
 refine iLenS hs ?_
 rw [List.length_map]
 refine iLp (fun s:Nat × Nat=>[.int .i64 (s.1:Int),.int .i64 (s.2:Int)]) (fun s w'=>s.2 ≤ t.length ∧ s.1 = chkT c (t.take s.2) ∧ Ext w1 w') (fun s=>t.length - s.2) (c,0) rfl ⟨Nat.zero_le _,rfl,Ext.refl _⟩ ?_
 rintro ⟨m,i⟩ w2 Kn ⟨hi,hm,x2⟩ hKn
 have hi:i ≤ t.length:=hi
 have hm:m = chkT c (t.take i):=hm
 have hml:m < 999983:=by rw [hm];exact lN hc _
 intro _
 simp only [gx]
 refine iLt (iCndP (fun h=>?_) (fun h=>?_))
 ·have hil:i < t.length:=by omega
  refine iIaBT (hs.ext x2) hil ?_
  have hb:=(t.getD i 0).toNat_lt
  refine iMul (by omega) (q8 (by omega) (iAdd (by omega) (iRem (by omega) ?_)))
  refine iAdd (by omega) ?_
  rw [WB]
  refine hKn ((37 * m + (t.getD i 0).toNat) % 999983,i + 1) _ ⟨hil,?_,x2⟩ (by show t.length - (i + 1) < t.length - i;omega)
  show _ = chkT c (t.take (i + 1))
  rw [TW hil,TZ,← hm]
 ·have e:i = t.length:=by omega
  subst e
  rw [List.take_length] at hm
  rw [hm]
  exact ⟨rfl,x1.trans x2⟩
theorem wR {t:Str} (ht:t.length ≤ 1099511627776) (w:World):Ret Tryz.prog AD #[sv t] w (.int .i64 (chkT 11 t:Int)):=by
 apply RF;unfold AF
 refine iLp (fun s:Nat × Nat=>[.int .i64 (s.1:Int),.int .i64 (s.2:Int)]) (fun s w'=>s.2 ≤ t.length ∧ s.1 = chkT 11 (t.take s.2) ∧ Ext w w') (fun s=>t.length - s.2) (11,0) rfl ⟨Nat.zero_le _,rfl,Ext.refl _⟩ ?_
 rintro ⟨m,i⟩ w2 Kn ⟨hi,hm,x2⟩ hKn
 have hi:i ≤ t.length:=hi
 have hm:m = chkT 11 (t.take i):=hm
 have hml:m < 999983:=by rw [hm];exact lN (by omega) _
 intro _
 simp only [gx]
 refine iLenT (iLt (iCndP (fun h=>?_) (fun h=>?_)))
 ·have hil:i < t.length:=by omega
  have hb:=(t.getD i 0).toNat_lt
  refine iMul (by omega) ?_
  refine iIs hil ?_
  refine q8 (by omega) (iAdd (by omega) (iRem (by omega) ?_))
  refine iAdd (by omega) ?_
  rw [WB]
  refine hKn ((37 * m + (t.getD i 0).toNat) % 999983,i + 1) _ ⟨hil,?_,x2⟩ (by show t.length - (i + 1) < t.length - i;omega)
  show _ = chkT 11 (t.take (i + 1))
  rw [TW hil,TZ,← hm]
 ·have e:i = t.length:=by omega
  subst e
  rw [List.take_length] at hm
  rw [hm]
  exact ⟨rfl,x2⟩
theorem EA:∀ {n:Nat},n ≤ 1099511627776 → ∀ w:World,Ret Tryz.prog G6 #[.int .i64 (n:Int)] w (sv (decT n)):=by
 intro n
 induction n using Nat.strongRecOn with
 | _ n ih=>
  intro hn w
  apply UR;unfold GM
  have hchr:∀ d:Nat,d < 10 → ((48:Int) + (d:Int)) = ((UInt8.ofNat (48 + d)).toNat:Int):=fun d hd=>by
   rw [UInt8.toNat_ofNat',Nat.mod_eq_of_lt (by omega)];omega
  have hcv:∀ {d:Nat} {K:Value → Prop},d < 10 → K (.int .u8 ((UInt8.ofNat (48 + d)).toNat:Int)) → xConv .u8 (.int .i64 ((48:Int) + (d:Int))) K:=fun {d K} hd h=>by
   refine ⟨_,_,rfl,?_⟩
   rw [show IntKind.u8.wrap ((48:Int) + (d:Int)) = ((UInt8.ofNat (48 + d)).toNat:Int) by
    rw [hchr d hd];simp [IntKind.wrap,IntKind.bits,IntKind.signed]]
   exact h
  refine iLt (iCndP (fun h=>?_) (fun h=>?_))
  ·refine iAdd (by omega) ?_
   refine hcv (by omega) ?_
   refine iChr OR (by kernel_rfl) Tryz.underlying9 rfl fun w1 x1=>⟨?_,x1⟩
   rw [show decT n = [UInt8.ofNat (48 + n)] from by unfold decT;rw [Lib.decDigits,dif_pos (by omega)]]
  ·refine iQuo (by omega) ?_
   rw [show (n:Int) / 10 = ((n / 10:Nat):Int) by omega]
   refine iRetQ (fun w' hw'=>ih (n / 10) (by omega) (by omega) w') ?_
   refine iRem (by omega) ?_
   rw [show (n:Int) % 10 = ((n % 10:Nat):Int) by omega]
   refine iAdd (by omega) ?_
   refine hcv (by omega) ?_
   intro w2 x2
   refine iChrE OR (by kernel_rfl) Tryz.underlying9 rfl fun w3 x3=>?_
   have hl:=yY (n / 10)
   refine iCat (by simp only [List.length_cons,List.length_nil];omega) ?_
   intro w4 x4
   exact ⟨by rw [OI (n:=n) (by omega)],(x2.trans x3).trans x4⟩
end Go.Proofs.YteifjhpddhppcaaGreatDoor

namespace Go.Vc
theorem T1 {W:List Str} (h:W.length = 3) (h0:gt W 0 = kLet):entOf W = ⟨1,gt W 1,gt W 2⟩:=by
 rcases W with _ | ⟨a,_ | ⟨b,_ | ⟨c,_ | ⟨d,r⟩⟩⟩⟩ <;> simp at h
 have h0:a = kLet:=h0
 subst h0;rfl
theorem RL {W:List Str} (h:W.length = 2) (h0:gt W 0 = kDrop):entOf W = ⟨2,gt W 1,[]⟩:=by
 rcases W with _ | ⟨a,_ | ⟨b,_ | ⟨c,r⟩⟩⟩ <;> simp at h
 have h0:a = kDrop:=h0
 subst h0;rfl
theorem MM {W:List Str} (h:W.length = 2) (h0:gt W 0 = eP):entOf W = ⟨3,gt W 1,[]⟩:=by
 rcases W with _ | ⟨a,_ | ⟨b,_ | ⟨c,r⟩⟩⟩ <;> simp at h
 have h0:a = eP:=h0
 subst h0;rfl
theorem W3 {W:List Str} (h1:¬ (W.length = 3 ∧ gt W 0 = kLet)) (h2:¬ (W.length = 2 ∧ gt W 0 = kDrop)) (h3:¬ (W.length = 2 ∧ gt W 0 = eP)):entOf W = ⟨0,[],[]⟩:=by
 unfold entOf
 split
 ·rename_i k a b
  rw [if_neg fun e:k = kLet=>h1 ⟨rfl,e⟩]
 ·rename_i k a
  rw [if_neg fun e:k = kDrop=>h2 ⟨rfl,e⟩,if_neg fun e:k = eP=>h3 ⟨rfl,e⟩]
 ·rfl
theorem aCA (t:Str) (e:Ent):t ++ lineC (chkT 11 t) e = (t ++ lineT e) ++ 32 :: (decT (chkT 11 (t ++ lineT e)) ++ [10]):=by
 unfold lineC
 rw [FT,List.append_assoc]
def Ent.sz (e:Ent):Nat:=e.nm.length + e.fm.length
theorem BH (e:Ent):(lineT e).length ≤ e.sz + 6:=by
 unfold lineT Ent.sz
 split
 ·simp [kLet] <;> omega
 ·split
  ·simp [kDrop] <;> omega
  ·simp [eP] <;> omega
end Go.Vc
namespace Go.Proofs.YteifjhpddhppcaaGreatDoor
open Go.Vc
theorem MD {e:Ent} (hl:e.sz ≤ 1099511627776) (w:World):Ret Tryz.prog wU #[e.val] w (sv (lineT e)):=by
 apply N8;unfold x0
 unfold Ent.sz at hl
 refine iNew3 fun q w1 hq x1 hB=>?_
 refine iFa (iLdB hB rfl ?_)
 refine iEq (iCndP (fun h=>?_) (fun h=>?_))
 ·refine iFa (iLdB hB rfl ?_)
  refine iCat (a:=[108,101,116,32]) (by simp only [List.length_cons,List.length_nil];omega) ?_
  refine iCat (b:=[32]) (by simp only [List.length_append,List.length_cons,List.length_nil];omega) ?_
  refine iFa (iLdB hB rfl ?_)
  refine iCat (by simp only [List.length_append,List.length_cons,List.length_nil];omega) ?_
  exact ⟨by unfold lineT;rw [if_pos h];simp [kLet],x1⟩
 ·refine iEq (iCndP (fun h2=>?_) (fun h2=>?_))
  ·refine iFa (iLdB hB rfl ?_)
   refine iCat (a:=[100,114,111,112,32]) (by simp only [List.length_cons,List.length_nil];omega) ?_
   exact ⟨by unfold lineT;rw [if_neg h,if_pos h2];simp [kDrop],x1⟩
  ·refine iFa (iLdB hB rfl ?_)
   refine iCat (a:=[99,108,97,105,109,32]) (by simp only [List.length_cons,List.length_nil];omega) ?_
   exact ⟨by unfold lineT;rw [if_neg h,if_neg h2];simp [eP],x1⟩
theorem O8 {e:Ent} (hl:e.sz ≤ 1099511627776) (w:World):Ret Tryz.prog CN #[e.val] w (sv (lineT e)):=by
 apply SC;unfold EU
 unfold Ent.sz at hl
 refine iNew3 fun q w1 hq x1 hB=>?_
 refine iFa (iLdB hB rfl ?_)
 refine iEq (iCndP (fun h=>?_) (fun h=>?_))
 ·refine iFa (iLdB hB rfl ?_)
  refine iCat (a:=[108,101,116,32]) (by simp only [List.length_cons,List.length_nil];omega) ?_
  refine iCat (b:=[32]) (by simp only [List.length_append,List.length_cons,List.length_nil];omega) ?_
  refine iFa (iLdB hB rfl ?_)
  refine iCat (by simp only [List.length_append,List.length_cons,List.length_nil];omega) ?_
  exact ⟨by unfold lineT;rw [if_pos h];simp [kLet],x1⟩
 ·refine iEq (iCndP (fun h2=>?_) (fun h2=>?_))
  ·refine iFa (iLdB hB rfl ?_)
   refine iCat (a:=[100,114,111,112,32]) (by simp only [List.length_cons,List.length_nil];omega) ?_
   exact ⟨by unfold lineT;rw [if_neg h,if_pos h2];simp [kDrop],x1⟩
  ·refine iFa (iLdB hB rfl ?_)
   refine iCat (a:=[99,108,97,105,109,32]) (by simp only [List.length_cons,List.length_nil];omega) ?_
   exact ⟨by unfold lineT;rw [if_neg h,if_neg h2];simp [eP],x1⟩
theorem dO {b c:Nat} {vi ve:Value} {tx:Str} {e:Ent} {w:World} (hB:Blk 58 w b [vi,ve,sv tx,.int .i64 (c:Int)]) (hc:c < 999983) (hl:e.sz ≤ 68719476736) (hT:TabOk w):
  Ret Tryz.prog qM #[.pointer (some ⟨b,0,none⟩),e.val] w (sv (lineC c e)):=by
 apply HV;unfold qQ
 have hll:=BH e
 refine iNew3 fun q w1 hq x1 hQ=>?_
 refine iLd3 hQ ?_
 refine iRet (MD (e:=e) (by omega) w1) fun w2 x2=>?_
 refine iCat (b:=[32]) (by simp only [List.length_cons,List.length_nil];omega) ?_
 refine iNil (iFa (iLdB ((hB.ext x1).ext x2) rfl ?_))
 refine iRet (oU hc (by omega) w2) fun w3 x3=>?_
 have hlt:=lN hc (lineT e)
 have hdl:=yY (chkT c (lineT e))
 refine iRet (QP (by omega) (((hT.ext x1).ext x2).ext x3)) fun w4 x4=>?_
 refine iCat (by simp only [List.length_append,List.length_cons,List.length_nil];omega) ?_
 refine iCat (b:=[10]) (by simp only [List.length_append,List.length_cons,List.length_nil];omega) ?_
 exact ⟨by unfold lineC;simp,((x1.trans x2).trans x3).trans x4⟩
theorem TB {tx:Str} {e:Ent} (ht:tx.length ≤ 68719476736) (hl:e.sz ≤ 68719476736) (w:World):Ret Tryz.prog GB #[sv tx,e.val] w (sv (tx ++ lineC (chkT 11 tx) e)):=by
 apply UP;unfold GE
 have hll:=BH e
 refine iNew3 fun q w1 hq x1 hQ=>?_
 refine iLd3 hQ ?_
 refine iRet (O8 (e:=e) (by omega) w1) fun w2 x2=>?_
 refine iCat (by omega) ?_
 refine iCat (b:=[32]) (by simp only [List.length_append,List.length_cons,List.length_nil];omega) ?_
 refine iRet (wR (by rw [List.length_append];omega) w2) fun w3 x3=>?_
 have hlt:=lN (show 11 < 999983 by omega) (tx ++ lineT e)
 have hdl:=yY (chkT 11 (tx ++ lineT e))
 refine iRet (EA (by omega) w3) fun w4 x4=>?_
 refine iCat (by simp only [List.length_append,List.length_cons,List.length_nil];omega) ?_
 refine iCat (b:=[10]) (by simp only [List.length_append,List.length_cons,List.length_nil];omega) ?_
 exact ⟨by rw [aCA];simp,((x1.trans x2).trans x3).trans x4⟩
theorem pJ {e:Ent} (hl:e.sz ≤ 1099511627776) (w:World):Ret Tryz.prog C0 #[e.val] w (.bool (entB e)):=by
 apply SH;unfold DX
 unfold Ent.sz at hl
 unfold entB
 refine iNew3 fun q w1 hq x1 hB=>?_
 refine iFa (iLdB hB rfl ?_)
 refine iEq (iCndP (fun h=>?_) (fun h=>?_))
 ·rw [if_pos h]
  refine iJnB (dI e.nm && goodT e.fm) w1 (fun J hJ=>?_) (fun w3 x3=>fun _=>⟨by first | trivial | rfl,x1.trans x3⟩)
  refine iFa (iLdB hB rfl ?_)
  refine iRet (EK (by omega) w1) fun w4 x4=>?_
  refine iCnd (fun h2=>?_) (fun h2=>?_)
  ·rw [h2,Bool.true_and] at hJ
   refine iFa (iLdB (hB.ext x4) rfl ?_)
   refine iRet (DF _ w4) fun w5 x5=>?_
   exact hJ _ (x4.trans x5)
  ·rw [h2,Bool.false_and] at hJ
   exact hJ _ x4
 ·rw [if_neg h]
  refine iEq ?_
  refine iJnB (decide (e.kd = 2) || decide (e.kd = 3)) w1 (fun J hJ=>?_) (fun w3 x3=>?_)
  ·refine iCndP (fun h2=>?_) (fun h2=>?_)
   ·rw [decide_eq_true h2,Bool.true_or] at hJ
    exact hJ _ (Ext.refl _)
   ·rw [decide_eq_false h2,Bool.false_or] at hJ
    exact iEq (hJ _ (Ext.refl _))
  intro _
  simp only [gx]
  have hB3:=hB.ext x3
  refine iCnd (fun h3=>?_) (fun h3=>?_)
  ·rw [Bool.or_eq_true,decide_eq_true_eq,decide_eq_true_eq] at h3
   rw [if_pos h3]
   refine iJnB (dI e.nm && decide (e.fm = [])) w3 (fun J hJ=>?_) (fun w5 x5=>fun _=>⟨by first | trivial | rfl,(x1.trans x3).trans x5⟩)
   refine iFa (iLdB hB3 rfl ?_)
   refine iRet (EK (by omega) w3) fun w4 x4=>?_
   refine iCnd (fun h2=>?_) (fun h2=>?_)
   ·rw [h2,Bool.true_and] at hJ
    refine iFa (iLdB (hB3.ext x4) rfl ?_)
    exact iEqT (b:=[]) (hJ _ x4)
   ·rw [h2,Bool.false_and] at hJ
    exact hJ _ x4
  ·rw [Bool.or_eq_false_iff,decide_eq_false_iff_not,decide_eq_false_iff_not] at h3
   rw [if_neg (by omega)]
   exact ⟨rfl,x1.trans x3⟩
theorem HA {e:Ent} (hl:e.sz ≤ 1099511627776) (w:World):Ret Tryz.prog KH #[e.val] w (.bool (entB e)):=by
 apply XF;unfold I8
 unfold Ent.sz at hl
 unfold entB
 refine iNew3 fun q w1 hq x1 hB=>?_
 refine iFa (iLdB hB rfl ?_)
 refine iRet (PZ (by omega) w1) fun w2 x2=>?_
 have hB2:=hB.ext x2
 refine iNot (iCnd (fun h0=>?_) (fun h0=>?_))
 ·rw [Bool.not_eq_true'] at h0
  refine ⟨?_,x1.trans x2⟩
  rw [h0,Bool.false_and,Bool.false_and];simp
 rw [Bool.not_eq_false'] at h0
 rw [h0,Bool.true_and,Bool.true_and]
 refine iFa (iLdB hB2 rfl ?_)
 refine iEq (iCndP (fun h=>?_) (fun h=>?_))
 ·rw [if_pos h]
  refine iFa (iLdB hB2 rfl ?_)
  refine iCall ((AC _ w2).mono ?_)
  rintro r w3 ⟨x3,v,rfl,-⟩
  exact iE20 (iE21 ⟨by first | trivial | rfl,(x1.trans x2).trans x3⟩)
 ·rw [if_neg h]
  refine iEq ?_
  refine iJnB (decide (e.kd = 2) || decide (e.kd = 3)) w2 (fun J hJ=>?_) (fun w3 x3=>?_)
  ·refine iCndP (fun h2=>?_) (fun h2=>?_)
   ·rw [decide_eq_true h2,Bool.true_or] at hJ
    exact hJ _ (Ext.refl _)
   ·rw [decide_eq_false h2,Bool.false_or] at hJ
    exact iEq (hJ _ (Ext.refl _))
  intro _
  simp only [gx]
  refine iCnd (fun h3=>?_) (fun h3=>?_)
  ·rw [Bool.or_eq_true,decide_eq_true_eq,decide_eq_true_eq] at h3
   rw [if_pos h3]
   refine iFa (iLdB (hB2.ext x3) rfl ?_)
   exact iEqT (b:=[]) ⟨by first | trivial | rfl,(x1.trans x2).trans x3⟩
  ·rw [Bool.or_eq_false_iff,decide_eq_false_iff_not,decide_eq_false_iff_not] at h3
   rw [if_neg (by omega)]
   exact ⟨rfl,(x1.trans x2).trans x3⟩
theorem PF {v:Value} {W:List Str} {w:World} (hs:SlT w v W):Ret Tryz.prog DW #[v] w (entOf W).val:=by
 apply TC;unfold DB
 refine iNew3 fun q w1 hq x1 hB=>?_
 have key:∀ (n:Nat) (k:Str) (w2:World) (J:List Value → World → Prop),SlT w2 v W → 0 < n → (∀ w4,Ext w2 w4 → J [.bool (decide (W.length = n) && decide (gt W 0 = k))] w4) →
   xLenS v fun u=>xEq .i64 u (.int .i64 (n:Int)) fun y=>cnd y (xIa 1 v (.int .i64 0) fun p=>xLd w2 p fun x=>xStr .eql x (sv k) fun z=>J [z] w2) (J [.bool false] w2):=fun n k w2 J hs2 hn hJ=>by
  refine bO hs2 (iEq (iCndP (fun h=>?_) (fun h=>?_)))
  ·rw [decide_eq_true (show W.length = n by omega),Bool.true_and] at hJ
   refine iIaG (L:=W) hs2 (j:=0) rfl (by omega) ?_
   exact iEqT (hJ _ (Ext.refl _))
  ·rw [decide_eq_false (show ¬ W.length = n by omega),Bool.false_and] at hJ
   exact hJ _ (Ext.refl _)
 refine iJnB (decide (W.length = 3) && decide (gt W 0 = kLet)) w1 (fun J hJ=>key 3 kLet w1 J (Sl.ext hs x1) (by omega) hJ) (fun w3 x3=>?_)
 intro _
 simp only [gx]
 have X3:=x1.trans x3
 have hs3:SlT w3 v W:=Sl.ext hs X3
 have hB3:=hB.ext x3
 have fin:∀ (kd:Int) (a b:Str) (w4:World),Ext w3 w4 → entOf W = ⟨kd,a,b⟩ → xStA Tryz.prog w4 3 (.pointer (some ⟨q,0,none⟩)) (.agg #[.int .i64 kd,sv a,sv b]) fun w5=>∀ w6,Ext w5 w6 → xLdA w6 3 (.pointer (some ⟨q,0,none⟩)) fun r=>r = (entOf W).val ∧ Ext w w6:=fun kd a b w4 x4 he=>by
  refine iSt3 (hB3.ext x4) rfl rfl rfl rfl fun w5 hB5 hc5=>?_
  intro w6 x6
  refine iLd3 (hB5.ext x6) ⟨?_,((X3.trans x4).thenCh hc5 fun c hc=>by omega).trans x6⟩
  rw [he];rfl
 refine iCnd (fun h=>?_) (fun h=>?_)
 ·rw [Bool.and_eq_true,decide_eq_true_eq,decide_eq_true_eq] at h
  refine iIaG (L:=W) hs3 (j:=1) rfl (by omega) ?_
  refine iIaG (L:=W) hs3 (j:=2) rfl (by omega) ?_
  refine bB (cs:=#[.int .i64 1,sv (gt W 1),sv (gt W 2)]) (by simp [Instr.fill,Value.cells]) ?_
  intro w4 x4
  exact fin _ _ _ w4 x4 (T1 h.1 h.2)
 have h1:¬ (W.length = 3 ∧ gt W 0 = kLet):=fun e=>by rw [decide_eq_true e.1,decide_eq_true e.2] at h;cases h
 have fin2:∀ (kd:Int) (a b:Str) (w4:World),Ext w3 w4 → entOf W = ⟨kd,a,b⟩ → xStA Tryz.prog w4 3 (.pointer (some ⟨q,0,none⟩)) (.agg #[.int .i64 kd,sv a,sv b]) fun w5=>xLdA w5 3 (.pointer (some ⟨q,0,none⟩)) fun r=>r = (entOf W).val ∧ Ext w w5:=fun kd a b w4 x4 he=>by
  refine iSt3 (hB3.ext x4) rfl rfl rfl rfl fun w5 hB5 hc5=>?_
  refine iLd3 hB5 ⟨?_,(X3.trans x4).thenCh hc5 fun c hc=>by omega⟩
  rw [he];rfl
 refine iJnB (decide (W.length = 2) && decide (gt W 0 = kDrop)) w3 (fun J hJ=>key 2 kDrop w3 J hs3 (by omega) hJ) (fun w9 x9=>?_)
 intro _
 simp only [gx]
 have hs9:SlT w9 v W:=Sl.ext hs3 x9
 refine iCnd (fun h=>?_) (fun h=>?_)
 ·rw [Bool.and_eq_true,decide_eq_true_eq,decide_eq_true_eq] at h
  refine iIaG (L:=W) hs9 (j:=1) rfl (by omega) ?_
  refine bB (cs:=#[.int .i64 2,sv (gt W 1),sv []]) (by simp [Instr.fill,Value.cells]) ?_
  exact fin2 _ _ _ w9 x9 (RL h.1 h.2)
 have h2:¬ (W.length = 2 ∧ gt W 0 = kDrop):=fun e=>by rw [decide_eq_true e.1,decide_eq_true e.2] at h;cases h
 refine iJnB (decide (W.length = 2) && decide (gt W 0 = eP)) w9 (fun J hJ=>key 2 eP w9 J hs9 (by omega) hJ) (fun w13 x13=>?_)
 intro _
 simp only [gx]
 have X13:=x9.trans x13
 refine iCnd (fun h=>?_) (fun h=>?_)
 ·rw [Bool.and_eq_true,decide_eq_true_eq,decide_eq_true_eq] at h
  refine iIaG (L:=W) (Sl.ext hs9 x13) (j:=1) rfl (by omega) ?_
  refine bB (cs:=#[.int .i64 3,sv (gt W 1),sv []]) (by simp [Instr.fill,Value.cells]) ?_
  exact fin2 _ _ _ w13 X13 (MM h.1 h.2)
 have h3:¬ (W.length = 2 ∧ gt W 0 = eP):=fun e=>by rw [decide_eq_true e.1,decide_eq_true e.2] at h;cases h
 refine bB (cs:=#[.int .i64 0,sv [],sv []]) (by simp [Instr.fill]) ?_
 exact fin2 _ _ _ w13 X13 (W3 h1 h2 h3)
end Go.Proofs.YteifjhpddhppcaaGreatDoor

namespace Go.Vc
def cU (L:List Ent):List Value:=L.flatMap Ent.cs
theorem wC (L M:List Ent):cU (L ++ M) = cU L ++ cU M:=by simp [cU]
theorem PS {L:List Itm} {i:Nat} (x:Itm) (hi:i < L.length):aJ (L.set i x) = putL (aJ L) (i * 3) x.cs:=by
 unfold putL
 rw [List.set_eq_take_append_cons_drop,if_pos hi,mZ,show i * 3 + x.cs.length = (i + 1) * 3 by show i * 3 + 3 = _;omega,gW]
 simp [aJ]
section
variable {P:Program} {w:World} {e:TypeId} {g cap:Nat} {cur:List Value}
theorem iStR {n l:Nat} {k:IntKind} {a b c:Value} {K:World → Prop} (hR:Rw e w g cap cur) (hl:l < n) (hn:n ≤ cap) (ha:aC a = true) (hb:aC b = true) (hc:aC c = true)
  (h:∀ w',Rw e w' g cap (putL cur (l * 3) [a,b,c]) → Ch (fun c=>c = g) w w' → K w'):xIa 3 (.slice (some ⟨g,0,none⟩) n cap) (.int k (l:Int)) fun p=>xStA P w 3 p (.agg #[a,b,c]) K:=by
 have hcl:=hR.2.1
 refine ⟨_,_,_,_,_,rfl,rfl,by omega,by omega,?_⟩
 rw [Int.toNat_natCast,bE,Nat.zero_add]
 have hst:=run_storeCells_at P g (l * 3) e [a,b,c] 0 cur.toArray w hR.1 (by simp only [List.size_toArray,List.length_cons,List.length_nil];omega) (fun u hu=>eF (by simp at hu;rcases hu with rfl | rfl | rfl <;> assumption))
 simp only [Nat.add_zero] at hst
 obtain ⟨h1,h2⟩:=hR.set (cur':=putL cur (l * 3) [a,b,c]) (nF (by simp only [List.length_cons,List.length_nil];omega))
 exact ⟨_,_,rfl,by simp [Value.cells],by simpa [Value.cells,putL] using hst,h _ h1 h2⟩
theorem iStRC {o:Nat} {u:Value} {K:World → Prop} (hR:Rw e w g cap cur) (ho:o < cap * 3) (hu:aC u = true)
  (h:∀ w',Rw e w' g cap (cur.set o u) → Ch (fun c=>c = g) w w' → K w'):xSt w (.pointer (some ⟨g,o,none⟩)) u K:=by
 have hcl:=hR.2.1
 refine iStB hR.1 (by omega) hu fun h2=>h _ ⟨h2,by rw [List.length_set];exact hR.2.1,hR.2.2⟩ ((Upd.setCell w g o u).ch rfl)
theorem iStRF {n l f:Nat} {k:IntKind} {u:Value} {K:World → Prop} (hR:Rw e w g cap cur) (hl:l < n) (hn:n ≤ cap) (hf:f < 3) (hu:aC u = true)
  (h:∀ w',Rw e w' g cap (cur.set (l * 3 + f) u) → Ch (fun c=>c = g) w w' → K w'):xIa 3 (.slice (some ⟨g,0,none⟩) n cap) (.int k (l:Int)) fun p=>xFa f p fun q=>xSt w q u K:=by
 refine ⟨_,_,_,_,_,rfl,rfl,by omega,by omega,?_⟩
 rw [Int.toNat_natCast,bE,Nat.zero_add]
 exact iFa (iStRC hR (by omega) hu h)
theorem ZW {cur:List Value} {o n:Nat} {ys:List Value} (h:o + ys.length ≤ n) (hn:n ≤ cur.length):(putL cur o ys).take n = putL (cur.take n) o ys:=by
 rw [T6 (by omega) h]
 unfold putL
 rw [List.take_take,Nat.min_eq_left (by omega),List.drop_take]
theorem iBs31 {t:TypeId} {z0 z1 z2 a b c:Value} {K:Value → World → Prop} (h:∀ q w',q = w.heap.size ∧ w'.heap.size = q + 1 → Ext w w' → Blk t w' q [a,b,c] → K (.slice (some ⟨q,0,none⟩) 1 1) w'):
  xBs t (Value.cells (.agg #[z0,z1,z2])) 3 1 [(0,.agg #[a,b,c])] w K:=by
 refine ⟨#[a,b,c],?_,h _ _ ⟨rfl,by simp⟩ (Ext.alloc w _) (Blk.new w #[a,b,c] t)⟩
 simp [Instr.fill,Value.cells,show Array.range 3 = #[0,1,2] from rfl]
theorem OwK.ne_own {k k' lo lo' n n':Nat} {e':TypeId} {v v':Value} {xs xs':List Value} (h:OwK k lo e w v n xs) (h':OwK k' lo' e' w v' n' xs') (hne:e ≠ e'):∀ c,v.ownBlock = some c → ¬ v'.ownBlock = some c:=by
 intro c hc hc'
 obtain ⟨cur,h1⟩:=h.ty hc
 obtain ⟨cur',h2⟩:=h'.ty hc'
 rw [h1] at h2
 injection h2 with h2
 injection h2 with _ h2 _
 exact hne h2
end
end Go.Vc
namespace Go.Proofs.YteifjhpddhppcaaGreatDoor
open Go.Vc
abbrev EnW (lo:Nat) (w:World) (v:Value) (L:List Ent):Prop:=OwK 3 lo bC w v L.length (cU L)
structure JnW (w0 w:World) (b:Nat) (vi ve:Value) (j:Jn):Prop where
 lo:w0.heap.size ≤ b
 blk:Blk 58 w b [vi,ve,sv j.text,.int .i64 (j.chk:Int)]
 it:ItW w0.heap.size w vi j.items
 en:EnW w0.heap.size w ve j.ents
 ji:JI j.items
theorem JnW.ext {w0 w w':World} {b:Nat} {vi ve:Value} {j:Jn} (h:JnW w0 w b vi ve j) (x:Ext w w'):JnW w0 w' b vi ve j:=⟨h.lo,h.blk.ext x,h.it.ext x,h.en.ext x,h.ji⟩
theorem V2 {w0 w:World} {b:Nat} {vi ve:Value} {j:Jn} (h:JnW w0 w b vi ve j):vi.ownBlock ≠ some b:=h.it.ne_blk h.blk (by decide)
theorem AP {w0 w:World} {v:Value} {L:List Itm} {e:Ent} (h0:Ext w0 w) (hs:ItW w0.heap.size w v L) (hJ:JI L):
  Cal Tryz.prog C7 #[v,e.val] w fun r w'=>Ext w0 w' ∧ ∃ v',match stepI L e with
   | some L'=>r = .tuple #[v',.bool true] ∧ ItW w0.heap.size w' v' L' ∧ Ch (fun c=>v.ownBlock = some c) w w' ∧ (v'.ownBlock = v.ownBlock ∨ ∃ c,v'.ownBlock = some c ∧ w.heap.size ≤ c)
   | none=>r = .tuple #[v',.bool false] ∧ Ext w w':=by
 apply SW;unfold DT
 have hLl:=hJ.len
 refine iNew3 fun q w1 hq x1 hB=>?_
 refine iFa (iLdB hB rfl ?_)
 have hs1:=hs.ext x1
 refine iCall ((rS (n:=e.nm) hs1.sl (by omega)).mono ?_)
 rintro r w2 ⟨x2,i,y,rfl,hF⟩
 have hin:=hJ.incI
 have hy:=hF.2.2 hin
 have hp:posI L e.nm = i:=sT hF.1.1 (hF.1.2 hin).1 (hF.1.2 hin).2
 have X2:=x1.trans x2
 have X02:=h0.trans X2
 have hB2:=hB.ext x2
 have hs2:=hs1.ext x2
 have hown:∀ c,v.ownBlock = some c → w0.heap.size ≤ c:=fun c hc=>(hs.blk c hc).1
 have s0:=h0.size
 refine iE20 (iE21 ?_)
 refine iFa (iLdB hB2 rfl ?_)
 refine iEq (iCndP (fun hk=>?_) (fun hk=>?_))
 ·refine iFa (iLdB hB2 rfl (iFa (iLdB hB2 rfl ?_)))
  refine bB (cs:=#[sv e.nm,sv e.fm,.int .i64 0]) (by simp [Instr.fill,Value.cells]) ?_
  refine iNew3 fun q3 w3 hq3 x3 hB3=>?_
  refine iSt3 hB3 rfl rfl rfl rfl fun w4 hB4 hc4=>?_
  have s2:=X2.size
  have X4:Ext w w4:=(X2.trans x3).thenCh hc4 fun c hc=>by omega
  have hs4:ItW w0.heap.size w4 v L:=hs.ext X4
  refine iCnd (fun hy1=>?_) (fun hy1=>?_)
  ·obtain ⟨hil,hnm⟩:=hF.2.1 hy1
   refine iLd3 hB4 ?_
   obtain ⟨g,cap,cur,rfl,hg,hcap,hR,hx⟩:=hs4.rw (by omega)
   refine iStR (n:=L.length) hR hil hcap rfl rfl rfl fun w5 hR5 hc5=>?_
   have hst:stepI L e = some (L.set i ⟨e.nm,e.fm,0⟩):=by
    unfold stepI
    rw [if_pos hk,if_pos (hy.symm.trans hy1),hp]
   have hS:∀ c,c = g → (Value.slice (some ⟨g,0,none⟩) L.length cap).ownBlock = some c:=fun c e=>by rw [e];rfl
   have hcl:=hR.2.1
   refine ⟨(h0.trans X4).thenCh hc5 fun c hc=>by omega,.slice (some ⟨g,0,none⟩) L.length cap,?_⟩
   rw [hst]
   refine ⟨rfl,?_,X4.ch.trans (hc5.mono hS) fun _ h=>.inl h,.inl rfl⟩
   show OwK 3 _ _ w5 _ (L.set i ⟨e.nm,e.fm,0⟩).length _
   rw [List.length_set,PS _ hil,← hx,← ZW (by show i * 3 + 3 ≤ _;omega) (by omega)]
   exact hR5.own hg hcap rfl
  ·have hno:hasI L e.nm = false:=hy.symm.trans hy1
   refine iLenK hs4.sl (iEq (iCndP (fun h12=>?_) (fun h12=>?_)))
   ·have hst:stepI L e = none:=by
     unfold stepI
     rw [if_pos hk,if_neg (by rw [hno];decide),if_pos (by omega)]
    refine ⟨h0.trans X4,v,?_⟩
    rw [hst]
    exact ⟨rfl,X4⟩
   ·have hst:stepI L e = some (L.take i ++ ⟨e.nm,e.fm,0⟩ :: L.drop i):=by
     unfold stepI
     rw [if_pos hk,if_neg (by rw [hno];decide),if_neg (by omega),hp]
    refine iLd3 hB4 ?_
    refine iBs31 fun q6 w6 hq6 x6 hB6=>?_
    have X6:=X4.trans x6
    refine iCall ((LH (x:=⟨e.nm,e.fm,0⟩) (hs4.ext x6) (by have:=(h0.trans X6).size;omega) (by omega) hF.1.1 hB6 (fun hc=>by have:=(hs4.blk _ hc).2;omega)).mono ?_)
    rintro r w7 ⟨hi7,hc7,ho7⟩
    refine ⟨(h0.trans X6).thenCh hc7 fun c hc=>hown c hc,r,?_⟩
    rw [hst]
    refine ⟨rfl,hi7,X6.ch.trans hc7 fun _ h=>.inl h,ho7.imp id fun ⟨c,h1,h2⟩=>⟨c,h1,by have:=X6.size;omega⟩⟩
 ·refine iEq (iCndP (fun hk2=>?_) (fun hk2=>?_))
  ·refine iNot (iCnd (fun hy1=>?_) (fun hy1=>?_))
   ·have hno:hasI L e.nm = false:=by rw [Bool.not_eq_true'] at hy1;exact hy.symm.trans hy1
    have hst:stepI L e = none:=by
     unfold stepI
     rw [if_neg hk,if_pos hno]
    refine ⟨X02,v,?_⟩
    rw [hst]
    exact ⟨rfl,X2⟩
   ·rw [Bool.not_eq_false'] at hy1
    obtain ⟨hil,hnm⟩:=hF.2.1 hy1
    have hst:stepI L e = some (L.take i ++ L.drop (i + 1)):=by
     unfold stepI
     rw [if_neg hk,if_neg (by rw [← hy,hy1];decide),if_pos hk2,hp]
    refine iAdd (by omega) ?_
    rw [show (i:Int) + 1 = ((i + 1:Nat):Int) by omega]
    refine iCall ((LQ hs2 hil (by omega)).mono ?_)
    rintro r w7 ⟨hi7,hc7,ho7⟩
    refine ⟨X02.thenCh hc7 fun c hc=>hown c hc,r,?_⟩
    rw [hst]
    exact ⟨rfl,hi7,X2.ch.trans hc7 fun _ h=>.inl h,.inl ho7⟩
  ·refine iJnB (!(y && fE (gt L i).fm)) w2 (fun J hJ'=>?_) (fun w10 x10=>?_)
   ·refine iNot (iCnd (fun hy1=>?_) (fun hy1=>?_))
    ·rw [Bool.not_eq_true'] at hy1
     rw [hy1,Bool.false_and] at hJ'
     exact hJ' _ (Ext.refl _)
    ·rw [Bool.not_eq_false'] at hy1
     obtain ⟨hil,hnm⟩:=hF.2.1 hy1
     rw [hy1,Bool.true_and] at hJ'
     refine iFm hs2.sl rfl hil ?_
     have hg:=(hJ.ok (gt L i) (by rw [gt_eq hil];exact List.getElem_mem _)).2.1
     refine iRet (IA hg w2) fun w11 x11=>?_
     exact iNot (hJ' _ x11)
   intro _
   simp only [gx]
   have X10:=X2.trans x10
   refine iCnd (fun hc=>?_) (fun hc=>?_)
   ·rw [Bool.not_eq_true',Bool.and_eq_false_iff] at hc
    have hst:stepI L e = none:=by
     unfold stepI
     rw [if_neg hk]
     by_cases hh:hasI L e.nm = false
     ·rw [if_pos hh]
     ·rw [if_neg hh,if_neg hk2,hp]
      rcases hc with hc | hc
      ·exact absurd (hy.symm.trans hc) hh
      ·rw [hc];rfl
    refine ⟨h0.trans X10,v,?_⟩
    rw [hst]
    exact ⟨rfl,X10⟩
   ·rw [Bool.not_eq_false',Bool.and_eq_true] at hc
    obtain ⟨hil,hnm⟩:=hF.2.1 hc.1
    have hst:stepI L e = some (L.set i ⟨(gt L i).nm,(gt L i).fm,1⟩):=by
     unfold stepI
     rw [if_neg hk,if_neg (by rw [← hy,hc.1];decide),if_neg hk2,hp,if_pos hc.2]
    have hs10:ItW w0.heap.size w10 v L:=hs.ext X10
    obtain ⟨g,cap,cur,rfl,hg,hcap,hR,hx⟩:=hs10.rw (by omega)
    refine iStRF (n:=L.length) hR hil hcap (by omega) rfl fun w12 hR12 hc12=>?_
    have hS:∀ c,c = g → (Value.slice (some ⟨g,0,none⟩) L.length cap).ownBlock = some c:=fun c e=>by rw [e];rfl
    refine ⟨(h0.trans X10).thenCh hc12 fun c hc=>by omega,.slice (some ⟨g,0,none⟩) L.length cap,?_⟩
    rw [hst]
    refine ⟨rfl,?_,X10.ch.trans (hc12.mono hS) fun _ h=>.inl h,.inl rfl⟩
    show OwK 3 _ _ w12 _ (L.set i ⟨(gt L i).nm,(gt L i).fm,1⟩).length _
    rw [List.length_set,show aJ (L.set i ⟨(gt L i).nm,(gt L i).fm,1⟩) = (aJ L).set (i * 3 + 2) (.int .i64 1) from (MQ 1 hil).symm,← hx,← List.take_set]
    exact hR12.own hg hcap rfl
end Go.Proofs.YteifjhpddhppcaaGreatDoor

namespace Go.Vc
theorem YM (j:Jn) (e:Ent):chkT 11 (j.text ++ lineC j.chk e) = chkT j.chk (lineC j.chk e):=FT _ _ _
theorem iU (j:Jn):j.chk < 999983:=lN (by omega) _
theorem aFH {t:Str} (h:10 ∈ t):∃ l r,t = l ++ 10 :: r ∧ ∀ x ∈ l,x ≠ 10:=by
 induction t with
 | nil=>cases h
 | cons a t ih=>
  by_cases ha:a = 10
  ·exact ⟨[],t,by rw [ha];rfl,by simp⟩
  ·obtain ⟨l,r,e,hl⟩:=ih ((List.mem_cons.1 h).resolve_left fun e=>ha e.symm)
   refine ⟨a :: l,r,by rw [e];rfl,fun x hx=>?_⟩
   rcases List.mem_cons.1 hx with rfl | hx
   ·exact ha
   ·exact hl x hx
theorem VL {W:List Str} {n:Nat} (h:∀ s ∈ W,s.length ≤ n):(entOf W).sz ≤ 2 * n:=by
 unfold entOf Ent.sz
 split
 ·split
  ·have:=h _ (List.mem_cons_of_mem _ (List.mem_cons_self ..))
   have:=h _ (List.mem_cons_of_mem _ (List.mem_cons_of_mem _ (List.mem_cons_self ..)))
   simp only;omega
  ·simp
 ·split
  ·have:=h _ (List.mem_cons_of_mem _ (List.mem_cons_self ..))
   simp only [List.length_nil];omega
  ·split
   ·have:=h _ (List.mem_cons_of_mem _ (List.mem_cons_self ..))
    simp only [List.length_nil];omega
   ·simp
 ·simp
theorem tG {c:Nat} (hc:c < 999983) (e:Ent):(lineC c e).length ≤ e.sz + 1000000:=by
 have h1:=BH e
 have h2:=yY (chkT c (lineT e))
 have h3:=lN hc (lineT e)
 unfold lineC
 simp only [List.length_append,List.length_cons,List.length_nil]
 omega
end Go.Vc
namespace Go.Proofs.YteifjhpddhppcaaGreatDoor
open Go.Vc
theorem nS {w0 w:World} {b:Nat} {vi ve:Value} {j:Jn} {e:Ent} (h0:Ext w0 w) (hj:JnW w0 w b vi ve j) (he:entB e = true) (hl:e.sz ≤ 4294967296) (hn:j.ents.length ≤ 1048576) (ht:j.text.length ≤ 68719476736) (hT:TabOk w0):
  Cal Tryz.prog i6 #[.pointer (some ⟨b,0,none⟩),e.val] w fun r w'=>Ext w0 w' ∧ match addJ j e with
   | some j'=>r = .bool true ∧ ∃ vi' ve',JnW w0 w' b vi' ve' j'
   | none=>r = .bool false ∧ JnW w0 w' b vi ve j:=by
 apply pA;unfold iX
 have hchk:=iU j
 have hLl:=hj.ji.len
 refine iNew3 fun q w1 hq x1 hQ=>?_
 have hj1:=hj.ext x1
 refine iNil (iFa (iLdB hj1.blk rfl ?_))
 refine iLd3 hQ ?_
 intro w2 x2
 have X2:=x1.trans x2
 have hj2:=hj1.ext x2
 have hQ2:=hQ.ext x2
 refine iCall ((AP (h0.trans X2) hj2.it hj.ji).mono ?_)
 rintro r w3 ⟨X03,v',hm⟩
 cases hst:stepI j.items e with
 | none=>
  rw [hst] at hm
  obtain ⟨rfl,x3⟩:=hm
  have hadd:addJ j e = none:=by unfold addJ;rw [hst];rfl
  rw [hadd]
  refine iE20 (iE21 ?_)
  intro w4 x4
  exact iNot (iCndT rfl ⟨X03.trans x4,rfl,(hj2.ext x3).ext x4⟩)
 | some L'=>
  rw [hst] at hm
  obtain ⟨rfl,hi3,hc3,ho3⟩:=hm
  have hadd:addJ j e = some ⟨L',j.ents ++ [e],j.text ++ lineC j.chk e,j.hist ++ [L']⟩:=by unfold addJ;rw [hst];rfl
  rw [hadd]
  have hJ':=wQ hj.ji he hst
  refine iE20 (iE21 ?_)
  intro w4 x4
  refine iNot (iCndF rfl ?_)
  -- what stands behind 'entered'
  have hB4:Blk 58 w4 b [vi,ve,sv j.text,.int .i64 (j.chk:Int)]:=(hj2.blk.ch hc3 (V2 hj2)).ext x4
  have hQ4:Blk bC w4 q e.cs:=(hQ2.ch hc3 (hj2.it.ne_blk hQ2 (by decide))).ext x4
  have hE4:EnW w0.heap.size w4 ve j.ents:=(hj2.en.ch hc3 fun c hc hd=>hj2.en.ne_own hj2.it (by decide) c hc hd).ext x4
  have hI4:=hi3.ext x4
  have X04:=X03.trans x4
  refine iLd3 hQ4 ?_
  refine iRet (dO (e:=e) hB4 hchk (by omega) (hT.ext X04)) fun w5 x5=>?_
  have hB5:=hB4.ext x5
  refine iNil (iFa (iLdB hB5 rfl ?_))
  refine iLd3 (hQ4.ext x5) ?_
  intro w6 x6
  refine iBs31 fun q7 w7 hq7 x7 hB7=>⟨x7,?_⟩
  intro w8 x8
  have X48:=((x5.trans x6).trans x7).trans x8
  have X08:=X04.trans X48
  have hE8:EnW w0.heap.size w8 ve j.ents:=hE4.ext X48
  refine iAppK nA m8 rfl (by omega) hE8 (OwK.ofBlk (k:=3) (lo:=0) (n:=1) (hB7.ext x8) (Nat.zero_le _) rfl (by omega)).sl (by intro u hu;simp at hu;rcases hu with rfl | rfl | rfl <;> rfl) (by omega) (by omega) X08.size fun v9 w9 ho9 hg9 hb9=>?_
  have hc9:Ch (fun c=>ve.ownBlock = some c) w8 w9:=d9 hg9 fun c hc=>hc
  have X09:Ext w0 w9:=X08.thenCh hc9 fun c hc=>(hE8.blk c hc).1
  have hB8:=hB4.ext X48
  have hB9:Blk 58 w9 b [vi,ve,sv j.text,.int .i64 (j.chk:Int)]:=hB8.ch hc9 (hE8.ne_blk hB8 (by decide))
  have hI9:ItW w0.heap.size w9 v' L':=(hI4.ext X48).ch hc9 fun c hc hd=>(hI4.ext X48).ne_own hE8 (by decide) c hc hd
  have hblo:=hj.lo
  refine iNil (iFa ?_)
  intro w10 x10
  refine iStU (hB9.ext x10) (by simp) hi3.cell fun w11 hB11 hu11=>?_
  refine iNil (iFa ?_)
  intro w12 x12
  have ho9':OwK 3 w0.heap.size bC w9 v9 (j.ents.length + 1) (cU j.ents ++ e.cs):=ho9
  refine iStU (hB11.ext x12) (by simp) ho9'.cell fun w13 hB13 hu13=>?_
  intro w14 x14
  have hB14:=hB13.ext x14
  refine iNil (iFa (iLdB hB14 rfl ?_))
  have hlc:=tG hchk e
  refine iCat (by omega) ?_
  refine iNil (iFa ?_)
  refine iStU hB14 (by simp) rfl fun w15 hB15 hu15=>?_
  refine iNil (iFa (iLdB hB15 rfl ?_))
  refine iRet (oU hchk (by omega) w15) fun w16 x16=>?_
  refine iNil (iFa ?_)
  refine iStU (hB15.ext x16) (by simp) rfl fun w17 hB17 hu17=>?_
  -- only b turned since w9
  have hSb:∀ (c:Nat),c = b → c = b:=fun _ h=>h
  have C1:Ch (fun c=>c = b) w9 w11:=x10.ch.trans (hu11.ch (S:=fun c=>c = b) rfl) fun _ h=>.inl h
  have C2:Ch (fun c=>c = b) w9 w13:=(C1.trans (x12.ch (S:=fun _=>False)) fun _ h=>h.elim).trans (hu13.ch (S:=fun c=>c = b) rfl) fun _ h=>.inl h
  have C3:Ch (fun c=>c = b) w9 w15:=(C2.trans (x14.ch (S:=fun _=>False)) fun _ h=>h.elim).trans (hu15.ch (S:=fun c=>c = b) rfl) fun _ h=>.inl h
  have C4:Ch (fun c=>c = b) w9 w17:=(C3.trans (x16.ch (S:=fun _=>False)) fun _ h=>h.elim).trans (hu17.ch (S:=fun c=>c = b) rfl) fun _ h=>.inl h
  have X017:Ext w0 w17:=X09.thenCh C4 fun c hc=>by omega
  refine ⟨X017,rfl,v',v9,⟨hblo,?_,hI9.ch C4 fun c hc hd=>?_,?_,hJ'⟩⟩
  ·show Blk _ w17 b [v',v9,sv (j.text ++ lineC j.chk e),.int .i64 (chkT 11 (j.text ++ lineC j.chk e):Int)]
   rw [YM]
   exact hB17
  ·subst hd
   exact hI9.ne_blk hB9 (by decide) hc
  ·show OwK 3 _ _ w17 v9 (j.ents ++ [e]).length (cU (j.ents ++ [e]))
   rw [List.length_append,wC]
   refine OwK.ch (n:=j.ents.length + 1) ho9' C4 fun c hc hd=>?_
   subst hd
   exact ho9'.ne_blk hB9 (by decide) hc
end Go.Proofs.YteifjhpddhppcaaGreatDoor

namespace Go.Vc
theorem Sl.head {w:World} {g n cap k:Nat} {xs:List Value} (hs:Sl w (.slice (some ⟨g,0,none⟩) n cap) xs) (hk:k ≤ n):Sl w (.slice (some ⟨g,0,none⟩) k cap) (xs.take k):=by
 obtain ⟨a,c,hv,h2,h3,h4⟩:=hs
 injection hv with e1 e2 e3
 subst e1 e2 e3
 have hl:(xs.take k).length = k:=by rw [List.length_take];omega
 refine ⟨_,_,by rw [hl],by omega,h3,?_⟩
 rcases h4 with h4 | ⟨b,o,ha,hc⟩
 ·exact .inl (by rw [h4];simp)
 ·refine .inr ⟨b,o,ha,fun i hi=>?_⟩
  rw [hl] at hi
  rw [hc i (by omega),List.getElem?_take,if_pos hi]
end Go.Vc
namespace Go.Proofs.YteifjhpddhppcaaGreatDoor
open Go.Vc
theorem JB (w:World):Cal Tryz.prog vQ #[] w fun r w'=>Ext w w' ∧ ∃ b,r = .pointer (some ⟨b,0,none⟩) ∧ JnW w w' b (.slice none 0 0) (.slice none 0 0) jn0:=by
 apply LI;unfold uZ
 refine bB (cs:=#[.slice none 0 0,.slice none 0 0,sv [],.int .i64 11]) (by simp [Instr.fill,Value.cells]) ?_
 refine iNew fun b w1 hb x1 hB=>?_
 refine ⟨x1,b,rfl,by omega,?_,OwK.nil _ _ _ _,OwK.nil _ _ _ _,JI.nil⟩
 have hB':Blk 58 w1 b [.slice none 0 0,.slice none 0 0,sv [],.int .i64 11]:=by simpa [Value.cells] using hB
 exact hB'
theorem HO {t:Str} {m:Nat} (hm:m ≤ 1048576) (ht:t.length ≤ 4194304) {w:World} (hT:TabOk w):Cal Tryz.prog uA #[sv t,.int .i64 (m:Int)] w fun r w'=>
  Ext w w' ∧ ∃ b vi ve,r = .pointer (some ⟨b,0,none⟩) ∧ JnW w w' b vi ve (readJ m t jn0) ∧ (readJ m t jn0).ents.length ≤ m ∧ (readJ m t jn0).text.length ≤ t.length:=by
 apply JJ;unfold sV
 refine iCall ((JB w).mono ?_)
 rintro r w1 ⟨x1,b,rfl,hj1⟩
 refine iLp (fun s:Str × Jn=>[sv s.1]) (fun s w'=>Ext w w' ∧ (∃ vi ve,JnW w w' b vi ve s.2) ∧ s.2.text ++ s.1 = t ∧ s.2.ents.length ≤ m ∧ readJ (m - s.2.ents.length) s.1 s.2 = readJ m t jn0) (fun s=>s.1.length) (t,jn0) rfl ⟨x1,⟨_,_,hj1⟩,rfl,Nat.zero_le _,rfl⟩ ?_
 rintro ⟨s,j⟩ w3 Kn ⟨X3,⟨vi,ve,hj⟩,htx,hen,hrd⟩ hKn
 have hj:JnW w w3 b vi ve j:=hj
 have htx:j.text ++ s = t:=htx
 have hen:j.ents.length ≤ m:=hen
 have hrd:readJ (m - j.ents.length) s j = readJ m t jn0:=hrd
 have hlen:j.text.length + s.length = t.length:=by rw [← htx,List.length_append]
 intro _
 simp only [gx]
 refine iNil (iFa (iLdB hj.blk rfl ?_))
 refine iLenK hj.en.sl (iLt (iCndP (fun hlt=>?_) (fun hlt=>?_)))
 ·obtain ⟨k,hk⟩:∃ k,m - j.ents.length = k + 1:=⟨m - j.ents.length - 1,by omega⟩
  rw [hk] at hrd
  by_cases h10:10 ∈ s
  ·obtain ⟨l,r,rfl,hl⟩:=aFH h10
   rw [zW hl] at hrd
   rw [List.length_append,List.length_cons] at hlen
   refine iRet (J0 hl (by rw [List.length_append,List.length_cons];omega) w3) fun w4 x4=>?_
   refine iE30 (iE31 (iE32 (iNot (iCndF rfl ?_))))
   refine iCall ((MI 32 (by omega) w4).mono ?_)
   rintro v w5 ⟨x5,ho⟩
   have hwl:=wE 32 l
   have hwm:=O5 32 l
   obtain ⟨g,cap,hv,hcap,hcm⟩:=Ow.open ho (by intro e;have:=bG (aG 32 l);rw [e] at this;simp at this;omega)
   have hos:=ho.sl
   rw [bG] at hv hcap
   refine bO ho.sl (iSub (by omega) ?_)
   rw [show ((aG 32 l).length:Int) - 1 = (((aG 32 l).length - 1:Nat):Int) by omega]
   subst hv
   refine LD (by omega) hcap ?_
   have hd:SlT w5 (.slice (some ⟨g,0,none⟩) ((aG 32 l).length - 1) cap) (aG 32 l).dropLast:=by
    rw [List.dropLast_eq_take]
    have:=Sl.head (k:=(aG 32 l).length - 1) hos (by omega)
    rw [IR] at this
    exact this
   refine iRet (PF hd) fun w6 x6=>?_
   have hsz:(entOf (aG 32 l).dropLast).sz ≤ 2 * l.length:=VL fun s hs=>hwm s (List.dropLast_subset _ hs)
   have hpS:pStep j l = if entB (entOf (aG 32 l).dropLast) && decide (lineC j.chk (entOf (aG 32 l).dropLast) = l ++ [10]) then addJ j (entOf (aG 32 l).dropLast) else none:=rfl
   generalize entOf (aG 32 l).dropLast = e at hsz hpS ⊢
   refine iNew3 fun q w7 hq x7 hQ=>?_
   refine iSt3 hQ rfl rfl rfl rfl fun w8 hQ8 hc8=>?_
   have X6:=((X3.trans x4).trans x5).trans x6
   have x36:=(x4.trans x5).trans x6
   have s6:=x36.size
   have x38:Ext w3 w8:=(x36.trans x7).thenCh hc8 fun c hc=>by omega
   have X8:=X3.trans x38
   have hj8:=hj.ext x38
   refine iJnX (fun xs w'=>Ext w w' ∧ xs = [.bool (pStep j l).isNone] ∧ match pStep j l with | some j'=>∃ vi' ve',JnW w w' b vi' ve' j' | none=>JnW w w' b vi ve j) (fun J hJ=>?_) ?_
   ·refine iLd3 hQ8 ?_
    refine iRet (pJ (e:=e) (by omega) w8) fun w11 x11=>?_
    refine iNot (iCnd (fun he=>?_) (fun he=>?_))
    ·rw [Bool.not_eq_true'] at he
     have:pStep j l = none:=by rw [hpS,he];rfl
     refine hJ _ _ ⟨X8.trans x11,by rw [this];rfl,?_⟩
     rw [this];exact hj8.ext x11
    rw [Bool.not_eq_false'] at he
    refine iLd3 (hQ8.ext x11) ?_
    refine iRet (dO (e:=e) (hj8.ext x11).blk (iU j) (by omega) (hT.ext (X8.trans x11))) fun w12 x12=>?_
    refine iCat (b:=[10]) (by simp only [List.length_cons,List.length_nil];omega) ?_
    refine iNeT ?_
    have X12:=(X8.trans x11).trans x12
    refine iCndP (fun hne=>?_) (fun hne=>?_)
    ·have:pStep j l = none:=by rw [hpS,he,decide_eq_false hne];rfl
     refine hJ _ _ ⟨X12,by rw [this];rfl,?_⟩
     rw [this];exact (hj8.ext x11).ext x12
    have heq:lineC j.chk e = l ++ [10]:=Classical.not_not.1 hne
    refine iLd3 ((hQ8.ext x11).ext x12) ?_
    refine iCall ((nS (e:=e) X12 ((hj8.ext x11).ext x12) he (by omega) (show j.ents.length ≤ 1048576 by omega) (show j.text.length ≤ 68719476736 by omega) hT).mono ?_)
    rintro r' w13 ⟨X13,hm'⟩
    have hps:pStep j l = addJ j e:=by rw [hpS,he,decide_eq_true heq];rfl
    rw [hps] at hJ
    cases had:addJ j e with
    | none=>
     rw [had] at hm' hJ
     obtain ⟨rfl,hjj⟩:=hm'
     exact iNot (hJ _ _ ⟨X13,rfl,hjj⟩)
    | some j'=>
     rw [had] at hm' hJ
     obtain ⟨rfl,hjj⟩:=hm'
     exact iNot (hJ _ _ ⟨X13,rfl,hjj⟩)
   ·rintro xs w10 ⟨X10,rfl,hm'⟩
    intro _
    simp only [gx]
    cases hp:pStep j l with
    | none=>
     rw [hp] at hm' hrd
     refine iCndT rfl ⟨X10,b,vi,ve,rfl,?_⟩
     rw [← hrd]
     exact ⟨hm',hen,show j.text.length ≤ t.length by omega⟩
    | some j'=>
     rw [hp] at hm' hrd
     have hj':j'.text = j.text ++ (l ++ [10]) ∧ j'.ents.length = j.ents.length + 1:=by
      rw [hpS] at hp
      split at hp
      ·rename_i hb
       rw [Bool.and_eq_true,decide_eq_true_eq] at hb
       unfold addJ at hp
       cases hst:stepI j.items e with
       | none=>rw [hst] at hp;cases hp
       | some L'=>
        rw [hst] at hp
        cases hp
        exact ⟨by show j.text ++ _ = _;rw [hb.2],by show (j.ents ++ [e]).length = _;simp⟩
      ·cases hp
     refine iCndF rfl ?_
     refine hKn (r,j') _ ⟨X10,hm',?_,?_,?_⟩ (by show r.length < (l ++ 10 :: r).length;simp;omega)
     ·show j'.text ++ r = t
      rw [hj'.1,← htx];simp
     ·show j'.ents.length ≤ m
      omega
     ·show readJ (m - j'.ents.length) r j' = _
      rw [← hrd,show m - j'.ents.length = k by omega]
  ·have hmiss:∀ x ∈ s,x ≠ 10:=fun x hx e=>h10 (e ▸ hx)
   refine iRet (HZ hmiss w3) fun w4 x4=>?_
   refine iE30 (iE31 (iE32 (iNot (iCndT rfl ?_))))
   rw [wD hmiss] at hrd
   refine ⟨X3.trans x4,b,vi,ve,rfl,?_⟩
   rw [← hrd]
   exact ⟨hj.ext x4,hen,show j.text.length ≤ t.length by omega⟩
 ·have h0:m - j.ents.length = 0:=by omega
  rw [h0] at hrd
  have hrd:j = readJ m t jn0:=hrd
  refine ⟨X3,b,vi,ve,rfl,?_⟩
  rw [← hrd]
  exact ⟨hj,hen,show j.text.length ≤ t.length by omega⟩
theorem fR {t:Str} (ht:t.length ≤ 4194304) {w:World} (hT:TabOk w):Cal Tryz.prog BC #[sv t] w fun r w'=>
  Ext w w' ∧ ∃ b vi ve,r = .pointer (some ⟨b,0,none⟩) ∧ JnW w w' b vi ve (openJ t) ∧ (openJ t).ents.length ≤ 60 ∧ (openJ t).text.length ≤ t.length:=by
 apply P2;unfold AM
 refine iCall ((HO (m:=60) (by omega) ht hT).mono ?_)
 rintro r w1 h
 exact h
end Go.Proofs.YteifjhpddhppcaaGreatDoor

namespace Go.Vc
theorem iHK {k n i:Nat} {ki:IntKind} {w:World} {v:Value} {xs:List Value} {K:Value → Prop} (hs:SlK k w v n xs) (hi:i ≤ n) (h:∀ v',SlK k w v' i (xs.take (i * k)) → K v'):xSl k v none (some (.int ki (i:Int))) K:=by
 obtain ⟨h0,a,c,rfl,h2,h3,h4⟩:=hs
 have hle:i * k ≤ n * k:=Nat.mul_le_mul_right _ hi
 refine ⟨_,_,_,0,i,rfl,⟨ki,rfl⟩,rfl,Nat.zero_le _,by omega,?_⟩
 refine h _ ⟨by rw [List.length_take];omega,_,_,by rw [Nat.sub_zero],by omega,by omega,?_⟩
 rcases Nat.eq_zero_or_pos i with hz | hz
 ·exact .inl hz
 ·rcases h4 with h4 | ⟨b,o,rfl,hc⟩
  ·omega
  ·refine .inr ⟨b,o,?_,fun j hj=>?_⟩
   ·rw [if_neg (by omega),Option.map_some,bE,Nat.zero_mul,Nat.add_zero]
   ·rw [hc j (by omega),List.getElem?_take,if_pos hj]
theorem iTK {k n i:Nat} {ki:IntKind} {w:World} {v:Value} {xs:List Value} {z:Int} {K:Value → Prop} (hs:SlK k w v n xs) (hz:z = (i:Int)) (hi:i ≤ n) (h:∀ v',SlK k w v' (n - i) (xs.drop (i * k)) → K v'):xSl k v (some (.int ki z)) none K:=by
 subst hz
 obtain ⟨h0,a,c,rfl,h2,h3,h4⟩:=hs
 have hle:i * k ≤ n * k:=Nat.mul_le_mul_right _ hi
 have hsub:(n - i) * k = n * k - i * k:=Nat.sub_mul ..
 refine ⟨_,_,_,i,n,rfl,rfl,⟨ki,rfl⟩,hi,h2,?_⟩
 refine h _ ⟨by rw [List.length_drop];omega,_,_,rfl,by omega,by omega,?_⟩
 rcases Nat.eq_zero_or_pos (n - i) with hz | hz
 ·exact .inl hz
 ·rcases h4 with h4 | ⟨b,o,rfl,hc⟩
  ·omega
  ·refine .inr ⟨b,o + i * k,?_,fun j hj=>?_⟩
   ·rw [if_neg (by omega),Option.map_some,bE]
   ·rw [Nat.add_assoc,hc _ (by omega),List.getElem?_drop]
end Go.Vc
namespace Go.Proofs.YteifjhpddhppcaaGreatDoor
open Go.Vc
theorem iBs03 {w:World} {e:TypeId} {z0 z1 z2:Value} {K:Value → World → Prop} (h:∀ v w',Ext w w' → OwK 3 w.heap.size e w' v 0 [] → K v w'):xBs e (Value.cells (.agg #[z0,z1,z2])) 3 0 [] w K:=by
 refine ⟨#[],?_,h _ _ (Ext.alloc w _) (OwK.ofBlk (k:=3) (n:=0) (Blk.new w #[] e) (Nat.le_refl _) rfl (by omega))⟩
 simp [Instr.fill]
theorem wW {w:World} {v:Value} {L:List Itm} {e:Ent} (hs:SlIt w v L) (hJ:JI L):
  Cal Tryz.prog BI #[v,e.val] w fun r w'=>Ext w w' ∧ ∃ v',match stepI L e with
   | some L'=>r = .tuple #[v',.bool true] ∧ ItW w.heap.size w' v' L'
   | none=>r = .tuple #[v',.bool false]:=by
 apply QY;unfold A2
 have hLl:=hJ.len
 refine iNew3 fun q w1 hq x1 hB=>?_
 refine iFa (iLdB hB rfl ?_)
 have hs1:=hs.ext x1
 refine iCall ((xD (n:=e.nm) hs1).mono ?_)
 rintro r w2 ⟨x2,i,y,rfl,hF⟩
 have hin:=hJ.incI
 have hy:=hF.2.2 hin
 have hil:=hF.1.1
 have hp:posI L e.nm = i:=sT hil (hF.1.2 hin).1 (hF.1.2 hin).2
 have X2:=x1.trans x2
 have hs2:=hs1.ext x2
 refine iE20 (iE21 ?_)
 refine iBs03 fun v19 w3 x3 ho3=>?_
 have X3:=X2.trans x3
 refine iHK (hs2.ext x3) hil fun v22 hh=>?_
 rw [mZ] at hh
 have app:∀ {w4:World} {u x:Value} {A M:List Itm} {m:Nat} {K:Value → World → Prop},Ext w w4 → ItW w.heap.size w4 u A → SlK 3 w4 x m (aJ M) → m = M.length → A.length ≤ 1048576 → M.length ≤ 1048576 →
   (∀ u' w5,Ext w w5 → ItW w.heap.size w5 u' (A ++ M) → Ch (fun c=>u.ownBlock = some c) w4 w5 → K u' w5) → xOp Tryz.prog (Builtin.append_ #[bQ,bQ] bQ #[u,x]) w4 K:=by
  intro w4 u x A M m K X4 hu hx hm hA hM h
  subst hm
  refine iAppK bJ cK rfl (by omega) hu hx (m5 M) (by omega) (by omega) X4.size fun u' w5 ho hg hb=>?_
  have hc:=d9 hg (S:=fun c=>u.ownBlock = some c) fun c hc=>hc
  refine h u' w5 (X4.thenCh hc fun c hc=>(hu.blk c hc).1) ?_ hc
  show OwK 3 _ _ w5 u' (A ++ M).length (aJ (A ++ M))
  rw [List.length_append,pN]
  exact ho
 have hi0:ItW w.heap.size w3 v19 []:=OwK.mono (lo':=w.heap.size) ho3 X2.size
 refine app X3 hi0 hh (by rw [List.length_take];omega) (by simp) (by rw [List.length_take];omega) fun v23 w4 X4 ho4 hc4=>?_
 rw [List.nil_append] at ho4
 have hB3:=(hB.ext x2).ext x3
 have hB4:Blk bC w4 q e.cs:=hB3.ch hc4 (hi0.ne_blk hB3 (by decide))
 have hs4:=hs.ext X4
 have tl:(L.take i).length ≤ 1048576:=by rw [List.length_take];omega
 have dl:∀ k,(L.drop k).length ≤ 1048576:=fun k=>by rw [List.length_drop];omega
 refine iFa (iLdB hB4 rfl ?_)
 refine iEq (iCndP (fun hk=>?_) (fun hk=>?_))
 ·refine iJnB (!y && decide (12 ≤ L.length)) w4 (fun J hJ'=>?_) (fun w6 x6=>?_)
  ·refine iNot (iCnd (fun hy1=>?_) (fun hy1=>?_))
   ·rw [hy1,Bool.true_and] at hJ'
    refine iLenK hs4 (iLe ?_)
    rw [show decide ((12:Int) ≤ (L.length:Int)) = decide (12 ≤ L.length) from decide_eq_decide.2 (by omega)]
    exact hJ' _ (Ext.refl _)
   ·rw [hy1,Bool.false_and] at hJ'
    exact hJ' _ (Ext.refl _)
  intro _
  simp only [gx]
  have X6:=X4.trans x6
  refine iCnd (fun hc=>?_) (fun hc=>?_)
  ·rw [Bool.and_eq_true,Bool.not_eq_true',decide_eq_true_eq] at hc
   have hst:stepI L e = none:=by
    unfold stepI
    rw [if_pos hk,if_neg (by rw [← hy,hc.1];decide),if_pos hc.2]
   refine ⟨X6,.slice none 0 0,?_⟩
   rw [hst]
  ·refine iTK hs rfl hil fun v36 h36=>?_
   rw [gW] at h36
   refine iJnX (fun xs w'=>Ext w6 w' ∧ ∃ u m,xs = [u] ∧ SlK 3 w u m (aJ (if y then L.drop (i + 1) else L.drop i)) ∧ m = (if y then L.drop (i + 1) else L.drop i).length) (fun J hJ'=>?_) ?_
   ·refine iCnd (fun hy1=>?_) (fun hy1=>?_)
    ·obtain ⟨hil',-⟩:=hF.2.1 hy1
     refine iAdd (by omega) ?_
     refine iTK (i:=i + 1) hs (by omega) hil' fun v41 h41=>?_
     rw [gW] at h41
     refine hJ' _ _ ⟨Ext.refl _,v41,L.length - (i + 1),rfl,?_,?_⟩
     ·rw [if_pos hy1];exact h41
     ·rw [if_pos hy1,List.length_drop]
    ·refine hJ' _ _ ⟨Ext.refl _,v36,L.length - i,rfl,?_,?_⟩
     ·rw [if_neg (by rw [hy1];decide)];exact h36
     ·rw [if_neg (by rw [hy1];decide),List.length_drop]
   rintro xs w8 ⟨x8,u,m,rfl,hu,hm⟩
   intro _
   simp only [gx]
   have X8:=X6.trans x8
   have x48:=x6.trans x8
   have hB8:=hB4.ext x48
   refine iFa (iLdB hB8 rfl (iFa (iLdB hB8 rfl ?_)))
   refine bB (cs:=#[sv e.nm,sv e.fm,.int .i64 0]) (by simp [Instr.fill,Value.cells]) ?_
   refine iBs31 fun q9 w9 hq9 x9 hB9=>?_
   have X9:=X8.trans x9
   refine app (M:=[⟨e.nm,e.fm,0⟩]) X9 (ho4.ext (x48.trans x9)) (ItmS (x:=⟨e.nm,e.fm,0⟩) hB9) rfl tl (by simp) fun v49 w10 X10 ho10 hc10=>?_
   refine app X10 ho10 (hu.ext X10) hm (by simp only [List.length_append,List.length_cons,List.length_nil,List.length_take];omega) (by split <;> exact dl _) fun v52 w11 X11 ho11 hc11=>?_
   have hst:stepI L e = some (L.take i ++ [⟨e.nm,e.fm,0⟩] ++ if y then L.drop (i + 1) else L.drop i):=by
    unfold stepI
    rw [if_pos hk,← hy,hp]
    cases hyy:y with
    | true=>
     obtain ⟨hil',-⟩:=hF.2.1 hyy
     rw [if_pos rfl,List.set_eq_take_append_cons_drop,if_pos hil'];simp
    | false=>
     rw [hyy] at hc
     have:¬ 12 ≤ L.length:=by simpa using hc
     rw [if_neg (by decide),if_neg this];simp
   refine ⟨X11,v52,?_⟩
   rw [hst]
   exact ⟨rfl,ho11⟩
 ·refine iNot (iCnd (fun hy1=>?_) (fun hy1=>?_))
  ·rw [Bool.not_eq_true'] at hy1
   have hst:stepI L e = none:=by
    unfold stepI
    rw [if_neg hk,if_pos (hy.symm.trans hy1)]
   refine ⟨X4,.slice none 0 0,?_⟩
   rw [hst]
  ·rw [Bool.not_eq_false'] at hy1
   obtain ⟨hil',hnm⟩:=hF.2.1 hy1
   have hhas:¬ hasI L e.nm = false:=by rw [← hy,hy1];decide
   refine iFa (iLdB hB4 rfl ?_)
   refine iEq (iCndP (fun hk2=>?_) (fun hk2=>?_))
   ·refine iAdd (by omega) ?_
    refine iTK (i:=i + 1) hs (by omega) hil' fun v62 h62=>?_
    rw [gW] at h62
    refine app X4 ho4 (h62.ext X4) (by rw [List.length_drop]) tl (dl _) fun v63 w12 X12 ho12 hc12=>?_
    have hst:stepI L e = some (L.take i ++ L.drop (i + 1)):=by
     unfold stepI
     rw [if_neg hk,if_neg hhas,if_pos hk2,hp]
    refine ⟨X12,v63,?_⟩
    rw [hst]
    exact ⟨rfl,ho12⟩
   ·have hgt:=(hJ.ok (gt L i) (by rw [gt_eq hil'];exact List.getElem_mem _)).2.1
    have hpc:pCode (gt L i).fm = 0:=by unfold goodT at hgt;rw [Bool.and_eq_true,decide_eq_true_eq] at hgt;exact hgt.1
    refine iFm hs4 rfl hil' ?_
    refine iCall ((AC (gt L i).fm w4).mono ?_)
    rintro r w13 ⟨x13,a,rfl,ha⟩
    have ha:FmW w4.heap.size w13 a (fT (gt L i).fm):=ha hpc
    refine iE20 (iE21 ?_)
    refine iJnB (!fE (gt L i).fm) w13 (fun J hJ'=>?_) (fun w15 x15=>?_)
    ·unfold fE at hJ'
     refine iRet (OD ha.sl) fun w16 x16=>?_
     refine iNot (iCnd (fun hp1=>?_) (fun hp1=>?_))
     ·rw [Bool.not_eq_true'] at hp1
      rw [hp1,Bool.false_and] at hJ'
      exact hJ' _ x16
     rw [Bool.not_eq_false'] at hp1
     rw [hp1,Bool.true_and] at hJ'
     refine iLenK (ha.sl.ext x16) (iLt (iCndP (fun hz=>?_) (fun hz=>?_)))
     ·rw [decide_eq_false (show ¬ (fT (gt L i).fm).size ≤ 20 by omega),Bool.false_and] at hJ'
      exact hJ' _ x16
     rw [decide_eq_true (show (fT (gt L i).fm).size ≤ 20 by omega),Bool.true_and] at hJ'
     refine iBs0 fun v82 w17 hw17 x17 ho17=>?_
     have hsq:SqF [] (fT (gt L i).fm):=⟨fun a ha=>by simp at ha,hp1,by have:=M5 hp1 (by omega);show 0 + _ ≤ _;omega⟩
     refine iRet (LV _ (Nat.lt_succ_self _) hsq ⟨[],ho17.sl,FmsS.nil _⟩ ((ha.sl.ext x16).ext x17)) fun w18 x18=>?_
     exact iNot (hJ' _ ((x16.trans x17).trans x18))
    intro _
    simp only [gx]
    have x415:=x13.trans x15
    have X15:=X4.trans x415
    refine iCnd (fun hc=>?_) (fun hc=>?_)
    ·rw [Bool.not_eq_true'] at hc
     have hst:stepI L e = none:=by
      unfold stepI
      rw [if_neg hk,if_neg hhas,if_neg hk2,hp,hc];rfl
     refine ⟨X15,.slice none 0 0,?_⟩
     rw [hst]
    rw [Bool.not_eq_false'] at hc
    refine iFa (iLdB (hB4.ext x415) rfl ?_)
    refine iFm (hs.ext X15) rfl hil' ?_
    refine bB (cs:=#[sv e.nm,sv (gt L i).fm,.int .i64 1]) (by simp [Instr.fill,Value.cells]) ?_
    intro w19 x19
    refine iBs31 fun q20 w20 hq20 x20 hB20=>?_
    intro w21 x21
    have x421:=(((x415.trans x19).trans x20).trans x21)
    refine app (M:=[⟨e.nm,(gt L i).fm,1⟩]) (X4.trans x421) (ho4.ext x421) (ItmS (x:=⟨e.nm,(gt L i).fm,1⟩) (hB20.ext x21)) rfl tl (by simp) fun v97 w22 X22 ho22 hc22=>?_
    intro w23 x23
    refine iAdd (by omega) ?_
    refine iTK (i:=i + 1) hs (by omega) hil' fun v102 h102=>?_
    rw [gW] at h102
    have X23:=X22.trans x23
    refine app X23 (ho22.ext x23) (h102.ext X23) (by rw [List.length_drop]) (by simp only [List.length_append,List.length_cons,List.length_nil,List.length_take];omega) (dl _) fun v103 w24 X24 ho24 hc24=>?_
    have hst:stepI L e = some (L.take i ++ [⟨e.nm,(gt L i).fm,1⟩] ++ L.drop (i + 1)):=by
     unfold stepI
     rw [if_neg hk,if_neg hhas,if_neg hk2,hp,if_pos hc,hnm,List.set_eq_take_append_cons_drop,if_pos hil'];simp
    refine ⟨X24,v103,?_⟩
    rw [hst]
    exact ⟨rfl,ho24⟩
theorem NF {t:Str} (ht:t.length ≤ 4194304) (w:World):Ret Tryz.prog AV #[sv t] w (.tuple #[(entOf (aG 32 t)).val,.bool (entB (entOf (aG 32 t)))]):=by
 apply RD;unfold zT
 refine iNew3 fun q2 w1 hq2 x1 hB2=>?_
 refine iCall ((NQ 32 rfl ht w1).mono ?_)
 rintro v w2 ⟨x2,ho⟩
 have hwm:=O5 32 t
 have hsz:(entOf (aG 32 t)).sz ≤ 2 * t.length:=VL hwm
 generalize aG 32 t = W at ho hsz ⊢
 refine bB (cs:=#[.int .i64 0,sv [],sv []]) (by simp [Instr.fill]) ?_
 refine iNew3 fun q5 w3 hq5 x3 hB3=>?_
 refine iSt3 hB3 rfl rfl rfl rfl fun w4 hB4 hc4=>?_
 have X2:=x1.trans x2
 have s1:=x1.size
 have s2:=x2.size
 have X4:Ext w w4:=(X2.trans x3).thenCh hc4 fun c hc=>by omega
 have x24:Ext w2 w4:=x3.thenCh hc4 fun c hc=>by omega
 have hs4:SlT w4 v W:=Sl.ext ho.sl x24
 have hQ4:=(hB2.ext x2).ext x24
 have key:∀ (n:Nat) (k:Str) (w2:World) (J:List Value → World → Prop),SlT w2 v W → 0 < n → (∀ w4,Ext w2 w4 → J [.bool (decide (W.length = n) && decide (gt W 0 = k))] w4) →
   xLenS v fun u=>xEq .i64 u (.int .i64 (n:Int)) fun y=>cnd y (xIa 1 v (.int .i64 0) fun p=>xLd w2 p fun x=>xStr .eql x (sv k) fun z=>J [z] w2) (J [.bool false] w2):=fun n k w2 J hs2 hn hJ=>by
  refine bO hs2 (iEq (iCndP (fun h=>?_) (fun h=>?_)))
  ·rw [decide_eq_true (show W.length = n by omega),Bool.true_and] at hJ
   refine iIaG (L:=W) hs2 (j:=0) rfl (by omega) ?_
   exact iEqT (hJ _ (Ext.refl _))
  ·rw [decide_eq_false (show ¬ W.length = n by omega),Bool.false_and] at hJ
   exact hJ _ (Ext.refl _)
 refine iJnB (decide (W.length = 3) && decide (gt W 0 = kLet)) w4 (fun J hJ=>key 3 kLet w4 J hs4 (by omega) hJ) (fun w6 x6=>?_)
 intro _
 simp only [gx]
 have hB6:=hB4.ext x6
 have hs6:SlT w6 v W:=Sl.ext hs4 x6
 have st:∀ {kd:Int} {a b:Str} {w':World} {K:World → Prop},Ext w4 w' → entOf W = ⟨kd,a,b⟩ → (∀ w'',Blk bC w'' q5 (entOf W).cs → Ch (fun c=>c = q5) w' w'' → K w'') → xStA Tryz.prog w' 3 (.pointer (some ⟨q5,0,none⟩)) (.agg #[.int .i64 kd,sv a,sv b]) K:=fun {kd a b w' K} x he hK=>by
  refine iSt3 (hB4.ext x) rfl rfl rfl rfl fun w'' hB hc=>hK w'' ?_ hc
  rw [he];exact hB
 refine iJnX (fun xs w'=>Ch (fun c=>c = q5) w4 w' ∧ xs = [] ∧ Blk bC w' q5 (entOf W).cs) (fun J7 hJ7=>?_) ?_
 ·refine iCnd (fun h=>?_) (fun h=>?_)
  ·rw [Bool.and_eq_true,decide_eq_true_eq,decide_eq_true_eq] at h
   refine iIaG (L:=W) hs6 (j:=1) rfl (by omega) ?_
   refine iIaG (L:=W) hs6 (j:=2) rfl (by omega) ?_
   refine bB (cs:=#[.int .i64 1,sv (gt W 1),sv (gt W 2)]) (by simp [Instr.fill,Value.cells]) ?_
   intro w9 x9
   refine st (x6.trans x9) (T1 h.1 h.2) fun w10 hB10 hc10=>?_
   intro w11 x11
   exact hJ7 _ _ ⟨((x6.trans x9).ch.trans hc10 fun _ h=>.inl h).trans (x11.ch (S:=fun _=>False)) fun _ h=>h.elim,rfl,hB10.ext x11⟩
  have h1:¬ (W.length = 3 ∧ gt W 0 = kLet):=fun e=>by rw [decide_eq_true e.1,decide_eq_true e.2] at h;cases h
  refine iJnB (decide (W.length = 2) && decide (gt W 0 = kDrop)) w6 (fun J hJ=>key 2 kDrop w6 J hs6 (by omega) hJ) (fun w13 x13=>?_)
  intro _
  simp only [gx]
  have hs13:SlT w13 v W:=Sl.ext hs6 x13
  have X13:=x6.trans x13
  refine iJnX (fun xs w'=>Ch (fun c=>c = q5) w4 w' ∧ xs = [] ∧ Blk bC w' q5 (entOf W).cs) (fun J14 hJ14=>?_) (fun xs w15 hh=>?_)
  ·refine iCnd (fun h=>?_) (fun h=>?_)
   ·rw [Bool.and_eq_true,decide_eq_true_eq,decide_eq_true_eq] at h
    refine iIaG (L:=W) hs13 (j:=1) rfl (by omega) ?_
    refine bB (cs:=#[.int .i64 2,sv (gt W 1),sv []]) (by simp [Instr.fill,Value.cells]) ?_
    refine st X13 (RL h.1 h.2) fun w16 hB16 hc16=>?_
    exact hJ14 _ _ ⟨X13.ch.trans hc16 fun _ h=>.inl h,rfl,hB16⟩
   have h2:¬ (W.length = 2 ∧ gt W 0 = kDrop):=fun e=>by rw [decide_eq_true e.1,decide_eq_true e.2] at h;cases h
   refine iJnB (decide (W.length = 2) && decide (gt W 0 = eP)) w13 (fun J hJ=>key 2 eP w13 J hs13 (by omega) hJ) (fun w18 x18=>?_)
   intro _
   simp only [gx]
   have X18:=X13.trans x18
   refine iJnX (fun xs w'=>Ch (fun c=>c = q5) w4 w' ∧ xs = [] ∧ Blk bC w' q5 (entOf W).cs) (fun J19 hJ19=>?_) (fun xs w20 hh=>?_)
   ·refine iCnd (fun h=>?_) (fun h=>?_)
    ·rw [Bool.and_eq_true,decide_eq_true_eq,decide_eq_true_eq] at h
     refine iIaG (L:=W) (Sl.ext hs13 x18) (j:=1) rfl (by omega) ?_
     refine bB (cs:=#[.int .i64 3,sv (gt W 1),sv []]) (by simp [Instr.fill,Value.cells]) ?_
     refine st X18 (MM h.1 h.2) fun w21 hB21 hc21=>?_
     exact hJ19 _ _ ⟨X18.ch.trans hc21 fun _ h=>.inl h,rfl,hB21⟩
    have h3:¬ (W.length = 2 ∧ gt W 0 = eP):=fun e=>by rw [decide_eq_true e.1,decide_eq_true e.2] at h;cases h
    refine hJ19 _ _ ⟨X18.ch,rfl,?_⟩
    rw [W3 h1 h2 h3]
    exact hB4.ext X18
   ·obtain ⟨h1',rfl,h3'⟩:=hh
    exact fun _=>hJ14 _ _ ⟨h1',rfl,h3'⟩
  ·obtain ⟨h1',rfl,h3'⟩:=hh
   exact fun _=>hJ7 _ _ ⟨h1',rfl,h3'⟩
 ·rintro xs w8 ⟨hc8,rfl,hB8⟩
  intro _
  have X8:Ext w w8:=X4.thenCh hc8 fun c hc=>by omega
  refine iLd3 hB8 (iLd3 hB8 ?_)
  refine iRetQ (fun w' hw'=>HA (e:=entOf W) (by omega) w') ?_
  intro w22 x22
  have hQ8:Blk bC w8 q2 _:=hQ4.ch hc8 (by omega)
  refine iSt3 (hQ8.ext x22) rfl rfl rfl rfl fun w23 hB23 hc23=>?_
  intro w24 x24'
  refine iLd3 (hB23.ext x24') ⟨rfl,((X8.trans x22).thenCh hc23 fun c hc=>by omega).trans x24'⟩
end Go.Proofs.YteifjhpddhppcaaGreatDoor

namespace Go.Vc
theorem Y4 {α:Type} [Inhabited α] (L:List α) (x:α):gt (L ++ [x]) L.length = x:=by unfold gt;simp
theorem aE2 {α:Type} [Inhabited α] {L M:List α} {k:Nat} (h:k < L.length):gt (L ++ M) k = gt L k:=by unfold gt;simp [List.getD_eq_getElem?_getD,List.getElem?_append_left h]
end Go.Vc
namespace Go.Proofs.YteifjhpddhppcaaGreatDoor
open Go.Vc
def HsW (lo:Nat) (w:World) (v:Value) (H:List (List Itm)):Prop:=∃ xs,OwK 1 lo bQ w v H.length xs ∧ ∀ k,k < H.length → ∃ x,xs[k]? = some x ∧ aC x = true ∧ ItW lo w x (gt H k)
theorem HsW.ext {lo:Nat} {w w':World} {v:Value} {H:List (List Itm)} (h:HsW lo w v H) (x:Ext w w'):HsW lo w' v H:=
 let ⟨xs,h1,h2⟩:=h;⟨xs,h1.ext x,fun k hk=>let ⟨u,a,b,c⟩:=h2 k hk;⟨u,a,b,c.ext x⟩⟩
theorem HsW.ch {S:Nat → Prop} {lo:Nat} {w w':World} {v:Value} {H:List (List Itm)} (h:HsW lo w v H) (hc:Ch S w w') (h1:∀ c,v.ownBlock = some c → ¬ S c) (h2:∀ (x:Value) (L:List Itm),ItW lo w x L → ∀ c,x.ownBlock = some c → ¬ S c):HsW lo w' v H:=
 let ⟨xs,k1,k2⟩:=h;⟨xs,k1.ch hc h1,fun k hk=>let ⟨u,a,b,c⟩:=k2 k hk;⟨u,a,b,c.ch hc (h2 u _ c)⟩⟩
theorem HsW.cell {lo:Nat} {w:World} {v:Value} {H:List (List Itm)} (h:HsW lo w v H):aC v = true:=let ⟨_,k1,_⟩:=h;OwK.cell k1
theorem iHs {lo:Nat} {w:World} {v:Value} {H:List (List Itm)} {k:Nat} {ki:IntKind} {z:Int} {K:Value → Prop} (h:HsW lo w v H) (hz:z = (k:Int)) (hk:k < H.length) (hK:∀ x,aC x = true → ItW lo w x (gt H k) → K x):xIa 1 v (.int ki z) fun p=>xLd w p K:=by
 subst hz
 obtain ⟨xs,h1,h2⟩:=h
 obtain ⟨x,hx,hc,hi⟩:=h2 k hk
 have hl:=h1.len
 refine iIa (OwK.toOw h1).sl (by omega) (by omega) fun p hp=>?_
 rw [Int.toNat_natCast,hx] at hp
 exact iLd hp (hK x hc hi)
structure LsW (w0 w:World) (vs ve:Value) (j:Jn):Prop where
 st:HsW w0.heap.size w vs j.hist
 en:EnW w0.heap.size w ve j.ents
 ji:JI j.items
 hl:j.hist.length = j.ents.length + 1
 hx:gt j.hist j.ents.length = j.items
theorem LsW.ext {w0 w w':World} {vs ve:Value} {j:Jn} (h:LsW w0 w vs ve j) (x:Ext w w'):LsW w0 w' vs ve j:=⟨h.st.ext x,h.en.ext x,h.ji,h.hl,h.hx⟩
theorem o6 {w0 w:World} {vs ve:Value} {z:Int} {j:Jn} (h:LsW w0 w vs ve j):Cal Tryz.prog EO #[.agg #[vs,ve,.int .i64 z]] w fun r w'=>Ext w w' ∧ ItW w0.heap.size w' r j.items:=by
 apply SD;unfold C5
 refine iNew3 fun q w1 hq x1 hB=>?_
 refine iFa (iLdB hB rfl (iFa (iLdB hB rfl ?_)))
 have h1:=h.ext x1
 have hlen:=h.hl
 have hb:j.hist.length ≤ 9223372036854775807:=by
  obtain ⟨xs,k1,_⟩:=h.st
  exact k1.sl.len
 obtain ⟨xs,k1,k2⟩:=h1.st
 refine iLenK k1.sl (iSub (by omega) ?_)
 refine iHs (k:=j.ents.length) ⟨xs,k1,k2⟩ (by omega) (by omega) fun x hc hi=>?_
 rw [h.hx] at hi
 exact ⟨x1,hi⟩
theorem o5 {t:Str} (ht:t.length ≤ 4194304) (w:World):Cal Tryz.prog D6 #[sv t] w fun r w'=>
  Ext w w' ∧ ∃ vs ve,r = .agg #[vs,ve,.int .i64 ((openJ t).text.length:Int)] ∧ LsW w w' vs ve (openJ t) ∧ (openJ t).ents.length ≤ 60 ∧ t.take (openJ t).text.length = (openJ t).text:=by
 apply S9;unfold CH
 refine iNew3 fun q2 w1 hq2 x1 hB2=>?_
 refine iBs03 fun v11 w2 x2 ho11=>?_
 refine iBs1 rfl ho11.cell fun q12 w3 hq12 x3 hB12=>?_
 refine bB (cs:=#[.slice (some ⟨q12,0,none⟩) 1 1,.slice none 0 0,.int .i64 0]) (by simp [Instr.fill,Value.cells]) ?_
 refine iNew3 fun q3 w4 hq3 x4 hB3=>?_
 refine iSt3 hB3 rfl rfl rfl rfl fun w5 hB5 hc5=>?_
 have s1:=x1.size
 have s2:=x2.size
 have s3:=x3.size
 have X4:=((x1.trans x2).trans x3).trans x4
 have X5:Ext w w5:=X4.thenCh hc5 fun c hc=>by omega
 have x35:Ext w3 w5:=x4.thenCh hc5 fun c hc=>by omega
 have hq23:¬ q2 = q3:=by omega
 have hlo3:w.heap.size ≤ q3:=by omega
 have hlo2:w.heap.size ≤ q2:=by omega
 have hQ5:Blk 66 w5 q2 [.slice none 0 0,.slice none 0 0,.int .i64 0]:=(((hB2.ext x2).ext x3).ext x4).ch hc5 hq23
 have hst5:HsW w.heap.size w5 (.slice (some ⟨q12,0,none⟩) 1 1) [[]]:=by
  refine ⟨[v11],OwK.ofBlk (n:=1) (hB12.ext x35) (by omega) rfl (by omega),fun k hk=>?_⟩
  have:k = 0:=by simpa using hk
  subst this
  exact ⟨v11,rfl,ho11.cell,((OwK.mono (lo':=w.heap.size) ho11 s1).ext x3).ext x35⟩
 have fin:∀ {w':World} {vs ve:Value} {j:Jn},Ext w w' → Blk 66 w' q3 [vs,ve,.int .i64 (j.text.length:Int)] → Blk 66 w' q2 [.slice none 0 0,.slice none 0 0,.int .i64 0] → LsW w w' vs ve j → j = openJ t → j.ents.length ≤ 60 → t.take j.text.length = j.text →
   xLdA w' 3 (.pointer (some ⟨q3,0,none⟩)) fun u=>xStA Tryz.prog w' 3 (.pointer (some ⟨q2,0,none⟩)) u fun w''=>xLdA w'' 3 (.pointer (some ⟨q2,0,none⟩)) fun r=>
    Ext w w'' ∧ ∃ vs ve,r = .agg #[vs,ve,.int .i64 ((openJ t).text.length:Int)] ∧ LsW w w'' vs ve (openJ t) ∧ (openJ t).ents.length ≤ 60 ∧ t.take (openJ t).text.length = (openJ t).text:=by
  intro w' vs ve j X hO hQ hL hj he htk
  subst hj
  refine iLd3 hO ?_
  refine iSt3 hQ rfl hL.st.cell hL.en.cell rfl fun w'' hQ' hc=>?_
  refine iLd3 hQ' ⟨X.thenCh hc fun c hc=>by omega,vs,ve,rfl,⟨hL.st.ch hc (fun c h1 h2=>?_) (fun x L hi c h1 h2=>?_),hL.en.ch hc fun c h1 h2=>?_,hL.ji,hL.hl,hL.hx⟩,he,htk⟩
  ·subst h2
   obtain ⟨xs,k1,_⟩:=hL.st
   exact k1.ne_blk hQ (by decide) h1
  ·subst h2
   exact hi.ne_blk hQ (by decide) h1
  ·subst h2
   exact hL.en.ne_blk hQ (by decide) h1
 refine iLp (fun s:(Nat × Nat) × Jn=>[.int .i64 (s.1.1:Int),.int .i64 (s.1.2:Int)])
  (fun s w'=>Ext w w' ∧ (∃ vs ve,Blk 66 w' q3 [vs,ve,.int .i64 (s.2.text.length:Int)] ∧ Blk 66 w' q2 [.slice none 0 0,.slice none 0 0,.int .i64 0] ∧ LsW w w' vs ve s.2) ∧
   s.1.1 = s.2.text.length ∧ s.1.1 ≤ s.1.2 ∧ s.1.2 ≤ t.length ∧ t.take s.1.1 = s.2.text ∧ (∀ k,s.1.1 ≤ k → k < s.1.2 → ¬ t.getD k 0 = 10) ∧ s.2.ents.length ≤ 60 ∧ readJ (60 - s.2.ents.length) (t.drop s.1.1) s.2 = openJ t)
  (fun s=>t.length - s.1.2) ((0,0),jn0) rfl ⟨X5,⟨_,_,hB5,hQ5,hst5,OwK.nil _ _ _ _,JI.nil,rfl,rfl⟩,rfl,Nat.le_refl _,Nat.zero_le _,rfl,fun k h1 h2=>absurd h2 (Nat.not_lt_zero k),Nat.zero_le _,rfl⟩ ?_
 rintro ⟨⟨st,i⟩,j⟩ w7 Kn ⟨X7,⟨vs,ve,hO,hQ,hL⟩,hst,hsi,hit,htk,hno,hen,hrd⟩ hKn
 have hO:Blk 66 w7 q3 [vs,ve,.int .i64 (j.text.length:Int)]:=hO
 have hL:LsW w w7 vs ve j:=hL
 have hst:st = j.text.length:=hst
 have hsi:st ≤ i:=hsi
 have hit:i ≤ t.length:=hit
 have htk:t.take st = j.text:=htk
 have hno:∀ k,st ≤ k → k < i → ¬ t.getD k 0 = 10:=hno
 have hen:j.ents.length ≤ 60:=hen
 have hrd:readJ (60 - j.ents.length) (t.drop st) j = openJ t:=hrd
 have htkj:t.take j.text.length = j.text:=by rw [← hst];exact htk
 intro _
 simp only [gx]
 refine iJnB (decide (i < t.length) && decide (j.ents.length < 60)) w7 (fun J hJ=>?_) (fun w9 x9=>?_)
 ·refine iLenT (iLt (iCndP (fun h=>?_) (fun h=>?_)))
  ·rw [decide_eq_true (show i < t.length by omega),Bool.true_and] at hJ
   refine iFa (iLdB hO rfl (iLenK hL.en.sl (iLt ?_)))
   rw [show decide ((j.ents.length:Int) < 60) = decide (j.ents.length < 60) from decide_eq_decide.2 (by omega)]
   exact hJ _ (Ext.refl _)
  ·rw [decide_eq_false (show ¬ i < t.length by omega),Bool.false_and] at hJ
   exact hJ _ (Ext.refl _)
 intro _
 simp only [gx]
 have X9:=X7.trans x9
 have hO9:=hO.ext x9
 have hQ9:=hQ.ext x9
 have hL9:=hL.ext x9
 refine iCnd (fun hb=>?_) (fun hb=>?_)
 rotate_left
 ·rw [Bool.and_eq_false_iff,decide_eq_false_iff_not,decide_eq_false_iff_not] at hb
  refine fin X9 hO9 hQ9 hL9 ?_ hen htkj
  rcases hb with hb | hb
  ·have hmiss:∀ x ∈ t.drop st,x ≠ 10:=by
    intro x hx
    obtain ⟨k,hk,rfl⟩:=List.getElem_of_mem hx
    rw [List.length_drop] at hk
    rw [List.getElem_drop]
    have:=hno (st + k) (by omega) (by omega)
    rwa [yA (by omega)] at this
   rw [wD hmiss] at hrd
   exact hrd
  ·rw [show 60 - j.ents.length = 0 by omega] at hrd
   exact hrd
 rw [Bool.and_eq_true,decide_eq_true_eq,decide_eq_true_eq] at hb
 obtain ⟨hil,he60⟩:=hb
 refine iIs hil (iNe ?_)
 have hnum:decide (¬ ((t.getD i 0).toNat:Int) = 10) = decide (¬ t.getD i 0 = 10):=decide_eq_decide.2 (not_congr ⟨fun e=>UInt8.toNat_inj.1 (by exact_mod_cast e),fun e=>by rw [e];rfl⟩)
 rw [hnum]
 refine iCndP (fun h10=>?_) (fun h10=>?_)
 ·refine iAdd (by omega) ?_
  refine hKn ((st,i + 1),j) _ ⟨X9,⟨vs,ve,hO9,hQ9,hL9⟩,hst,by show st ≤ i + 1;omega,hil,htk,fun k h1 h2=>?_,hen,hrd⟩ (by show t.length - (i + 1) < t.length - i;omega)
  have h2:k < i + 1:=h2
  by_cases e:k = i
  ·rw [e];exact h10
  ·exact hno k h1 (by omega)
 have h10:t.getD i 0 = 10:=Classical.not_not.1 h10
 -- the line
 obtain ⟨l,hl⟩:∃ l,l = (t.drop st).take (i - st):=⟨_,rfl⟩
 have hll:l.length = i - st:=by rw [hl,List.length_take,List.length_drop];omega
 have htd:t.drop st = l ++ 10 :: t.drop (i + 1):=by
  conv=>lhs;rw [← List.take_append_drop (i - st) (t.drop st),← hl,List.drop_drop]
  rw [show st + (i - st) = i by omega,KA hil,h10]
 have hl10:∀ x ∈ l,x ≠ 10:=by
  intro x hx
  obtain ⟨k,hk,rfl⟩:=List.getElem_of_mem hx
  have:=hno (st + k) (by omega) (by omega)
  subst hl
  rw [List.getElem_take,List.getElem_drop]
  rwa [yA (by omega)] at this
 have hlg:∀ k,k < l.length → l.getD k 0 = t.getD (st + k) 0:=by
  intro k hk
  subst hl
  rw [yA hk,yA (by omega),List.getElem_take,List.getElem_drop]
 obtain ⟨m,hm⟩:∃ m,60 - j.ents.length = m + 1:=⟨60 - j.ents.length - 1,by omega⟩
 rw [hm,htd,zW hl10,YC] at hrd
 have hpl:lastP l ≤ l.length:=S6 l l.length
 have h32:∀ k,decide (¬ ((t.getD k 0).toNat:Int) = 32) = !decide (t.getD k 0 = 32):=fun k=>by
  rw [← decide_not]
  exact decide_eq_decide.2 (not_congr ⟨fun e=>UInt8.toNat_inj.1 (by exact_mod_cast e),fun e=>by rw [e];rfl⟩)
 refine iLp (fun e:Nat=>[.int .i64 (e:Int)]) (fun e w'=>Ext w9 w' ∧ st ≤ e ∧ e ≤ i ∧ endP l (e - st) = lastP l) (fun e=>e - st) i rfl ⟨Ext.refl _,hsi,Nat.le_refl _,by rw [show i - st = l.length by omega];rfl⟩ ?_
 rintro e w11 Kn2 ⟨x11,hse,hei,hep⟩ hKn2
 intro _
 simp only [gx]
 refine iJnB (decide (st < e) && !decide (t.getD e 0 = 32)) w11 (fun J hJ=>?_) (fun w13 x13=>?_)
 ·refine iLt (iCndP (fun h=>?_) (fun h=>?_))
  ·rw [decide_eq_true (show st < e by omega),Bool.true_and] at hJ
   refine iIs (by omega) (iNe ?_)
   rw [h32]
   exact hJ _ (Ext.refl _)
  ·rw [decide_eq_false (show ¬ st < e by omega),Bool.false_and] at hJ
   exact hJ _ (Ext.refl _)
 intro _
 simp only [gx]
 have x913:=x11.trans x13
 refine iCnd (fun hc=>?_) (fun hc=>?_)
 ·rw [Bool.and_eq_true,decide_eq_true_eq,Bool.not_eq_true',decide_eq_false_iff_not] at hc
  refine iSub (by omega) ?_
  rw [show (e:Int) - 1 = ((e - 1:Nat):Int) by omega]
  refine hKn2 (e - 1) _ ⟨x913,by omega,by omega,?_⟩ (by omega)
  rw [← hep]
  obtain ⟨k,hk⟩:∃ k,e - st = k + 1:=⟨e - st - 1,by omega⟩
  rw [hk,show e - 1 - st = k by omega,endP,if_neg]
  rcases Nat.lt_or_ge (k + 1) l.length with h | h
  ·rw [hlg _ h,show st + (k + 1) = e by omega];exact hc.2
  ·simp [List.getD_eq_getElem?_getD,List.getElem?_eq_none h]
 have hpe:e = st + lastP l:=by
  rw [Bool.and_eq_false_iff,decide_eq_false_iff_not,Bool.not_eq_false',decide_eq_true_eq] at hc
  rcases hc with hc | hc
  ·rw [show e - st = 0 by omega] at hep
   have:lastP l = 0:=hep.symm
   omega
  ·rcases Nat.eq_zero_or_pos (e - st) with h0 | h0
   ·rw [h0] at hep
    have:lastP l = 0:=hep.symm
    omega
   ·obtain ⟨k,hk⟩:∃ k,e - st = k + 1:=⟨e - st - 1,by omega⟩
    have hne:e ≠ i:=fun h=>by rw [h,h10] at hc;cases hc
    rw [hk,endP,if_pos (by rw [hlg _ (by omega),show st + (k + 1) = e by omega];exact hc)] at hep
    omega
 have tg:∀ p,p ≤ l.length → e = st + p → (t.drop st).take (e - st) = l.take p ∧ (t.drop e).take (i - e) = l.drop p:=fun p hp he=>by
  constructor
  ·rw [hl,List.take_take,Nat.min_eq_left (by omega)];congr 1;omega
  ·rw [hl,List.drop_take,List.drop_drop,← he];congr 1;omega
 obtain ⟨t1,t2⟩:=tg _ hpl hpe
 have t3:t.take e = j.text ++ l.take (lastP l):=by
  rw [hpe,List.take_add,htk,← t1,hpe];congr 2;omega
 refine CW (i:=st) (j:=e) hse (by omega) ?_
 rw [t1]
 refine iRet (NF (by rw [List.length_take];omega) w13) fun w14 x14=>iE20 (iE21 ?_)
 obtain ⟨en,hen'⟩:∃ en,en = entOf (aG 32 (l.take (lastP l))):=⟨_,rfl⟩
 rw [← hen']
 have hss:sStep j l = if entB en && decide (l.drop (lastP l) = 32 :: decT (chkT 11 (j.text ++ l.take (lastP l)))) then (stepI j.items en).map fun L=>⟨L,j.ents ++ [en],j.text ++ (l ++ [10]),j.hist ++ [L]⟩ else none:=by rw [hen'];rfl
 refine iNew3 fun q7 w15 hq7 x15 hB15=>?_
 refine iSt3 hB15 rfl rfl rfl rfl fun w16 hB16 hc16=>?_
 have x914:=x913.trans x14
 have s914:=x914.size
 have x916:Ext w9 w16:=(x914.trans x15).thenCh hc16 fun c hc=>by omega
 have X16:=X9.trans x916
 have hL16:=hL9.ext x916
 have hO16:=hO9.ext x916
 have hQ16:=hQ9.ext x916
 refine iJnB (!(entB en && decide (l.drop (lastP l) = 32 :: decT (chkT 11 (j.text ++ l.take (lastP l)))))) w16 (fun J hJ=>?_) (fun w18 x18=>?_)
 ·refine iNot (iCnd (fun he=>?_) (fun he=>?_))
  ·intro w19 x19
   rw [Bool.not_eq_true'] at he
   rw [he,Bool.false_and] at hJ
   exact hJ _ x19
  ·rw [Bool.not_eq_false'] at he
   rw [he,Bool.true_and] at hJ
   refine CW (i:=e) (j:=i) hei hit ?_
   refine iTxTo (j:=e) (by omega) ?_
   rw [t2,t3]
   have hlc:(j.text ++ l.take (lastP l)).length ≤ 1099511627776:=by rw [← t3,List.length_take];omega
   refine iRetQ (fun w' _=>wR hlc w') ?_
   have hck:=lN (show 11 < 999983 by omega) (j.text ++ l.take (lastP l))
   refine iRetQ (fun w' _=>EA (by omega) w') ?_
   have hdl:=yY (chkT 11 (j.text ++ l.take (lastP l)))
   refine iCat (a:=[32]) (by simp only [List.length_cons,List.length_nil];omega) ?_
   refine iNeT ?_
   intro w20 x20
   rw [← decide_not] at hJ
   exact hJ _ x20
 intro _
 simp only [gx]
 have X18:=X16.trans x18
 refine iCnd (fun hbad=>?_) (fun hgood=>?_)
 ·rw [Bool.not_eq_true'] at hbad
  rw [hss,hbad] at hrd
  exact fin X18 (hO16.ext x18) (hQ16.ext x18) (hL16.ext x18) hrd hen htkj
 rw [Bool.not_eq_false'] at hgood
 rw [hss,hgood,if_pos rfl] at hrd
 have hL18:=hL16.ext x18
 have hB18:=hB16.ext x18
 refine iFa (iLdB (hO16.ext x18) rfl (iFa (iLdB (hO16.ext x18) rfl ?_)))
 have hhl:=hL.hl
 obtain ⟨xs,k1,k2⟩:=hL18.st
 have hxl:=k1.len
 refine iLenK k1.sl (iSub (by omega) ?_)
 refine iHs (k:=j.ents.length) ⟨xs,k1,k2⟩ (by omega) (by omega) fun x hcx hix=>?_
 rw [hL.hx] at hix
 refine iLd3 hB18 ?_
 intro w23 x23
 have X23:=X18.trans x23
 refine iCall ((wW (e:=en) (hix.ext x23).sl hL.ji).mono ?_)
 rintro r w24 ⟨x24,v',hm'⟩
 have x1624:=(x18.trans x23).trans x24
 cases hsp:stepI j.items en with
 | none=>
  rw [hsp] at hm' hrd
  subst hm'
  refine iE20 (iE21 ?_)
  intro w25 x25
  refine iNot (iCndT rfl ?_)
  have x1625:=x1624.trans x25
  exact fin (X16.trans x1625) (hO16.ext x1625) (hQ16.ext x1625) (hL16.ext x1625) hrd hen htkj
 | some L'=>
  rw [hsp] at hm' hrd
  obtain ⟨rfl,hi24⟩:=hm'
  have hJ':=wQ hL.ji (by rw [Bool.and_eq_true] at hgood;exact hgood.1) hsp
  refine iE20 (iE21 ?_)
  intro w25 x25
  refine iNot (iCndF rfl ?_)
  have x1625:=x1624.trans x25
  have X25:=X16.trans x1625
  have hO25:=hO16.ext x1625
  have hQ25:=hQ16.ext x1625
  have hB25:=hB16.ext x1625
  have hL25:=hL16.ext x1625
  have hi25:ItW w.heap.size w25 v' L':=(OwK.mono (lo':=w.heap.size) hi24 X23.size).ext x25
  refine iFa (iLdB hO25 rfl ?_)
  refine iBs1 rfl hi25.cell fun q28 w28 hq28 x28 hB28=>?_
  obtain ⟨ys,m1,m2⟩:=hL25.st.ext x28
  have hyl:=m1.len
  have X28:=X25.trans x28
  refine iAppK VE UW rfl (by omega) m1 (OwK.ofBlk (k:=1) (lo:=0) (n:=1) hB28 (Nat.zero_le _) rfl (by omega)).sl (by intro u hu;simp at hu;rw [hu];exact hi25.cell) (by omega) (by omega) X28.size fun v29 w29 ho29 hg29 hb29=>?_
  have hc29:Ch (fun c=>vs.ownBlock = some c) w28 w29:=d9 hg29 fun c hc=>hc
  have X29:Ext w w29:=X28.thenCh hc29 fun c hc=>(m1.blk c hc).1
  have itk:∀ (x:Value) (L:List Itm),ItW w.heap.size w28 x L → ItW w.heap.size w29 x L:=fun x L h=>h.ch hc29 fun c h1 h2=>h.ne_own m1 (by decide) c h1 h2
  have hO29:Blk 66 w29 q3 _:=(hO25.ext x28).ch hc29 (m1.ne_blk (hO25.ext x28) (by decide))
  have hQ29:Blk 66 w29 q2 _:=(hQ25.ext x28).ch hc29 (m1.ne_blk (hQ25.ext x28) (by decide))
  have hB29:Blk bC w29 q7 en.cs:=(hB25.ext x28).ch hc29 (m1.ne_blk (hB25.ext x28) (by decide))
  have hE29:EnW w.heap.size w29 ve j.ents:=(hL25.en.ext x28).ch hc29 fun c h1 h2=>(hL25.en.ext x28).ne_own m1 (by decide) c h1 h2
  have hH29:HsW w.heap.size w29 v29 (j.hist ++ [L']):=by
   refine ⟨ys ++ [v'],by rw [List.length_append];exact ho29,fun k hk=>?_⟩
   rw [List.length_append] at hk
   rcases Nat.lt_or_ge k j.hist.length with h | h
   ·obtain ⟨x',a1,a2,a3⟩:=m2 k h
    exact ⟨x',by rw [List.getElem?_append_left (by omega)];exact a1,a2,by rw [aE2 h];exact itk _ _ a3⟩
   ·have hk':k = j.hist.length:=by simp only [List.length_cons,List.length_nil] at hk;omega
    subst hk'
    exact ⟨v',by rw [List.getElem?_append_right (by omega)];simp [show j.hist.length - ys.length = 0 by omega],hi25.cell,by rw [Y4];exact itk _ _ (hi25.ext x28)⟩
  refine iFa (iStU hO29 (by simp) hH29.cell fun w30 hO30 hu30=>?_)
  have c30:Ch (fun c=>c = q3) w29 w30:=hu30.ch rfl
  have hE30:EnW w.heap.size w30 ve j.ents:=hE29.ch c30 fun c h1 h2=>by subst h2;exact hE29.ne_blk hO29 (by decide) h1
  have hH30:HsW w.heap.size w30 v29 (j.hist ++ [L']):=by
   obtain ⟨zs,z1,z2⟩:=hH29
   exact HsW.ch ⟨zs,z1,z2⟩ c30 (fun c h1 h2=>by subst h2;exact z1.ne_blk hO29 (by decide) h1) fun x L hi c h1 h2=>by subst h2;exact hi.ne_blk hO29 (by decide) h1
  have hB30:Blk bC w30 q7 en.cs:=hB29.ch c30 (by have:=X9.size;have:=X5.size;have:=cP hO9;omega)
  have hQ30:Blk 66 w30 q2 [.slice none 0 0,.slice none 0 0,.int .i64 0]:=hQ29.ch c30 hq23
  have X30:Ext w w30:=X29.thenCh c30 fun c hc=>by omega
  refine iFa (iLdB hO30 rfl ?_)
  refine iLd3 hB30 ?_
  refine iBs31 fun q31 w31 hq31 x31 hB31=>?_
  have X31:=X30.trans x31
  have hE31:EnW w.heap.size w31 ve j.ents:=hE30.ext x31
  refine iAppK nA m8 rfl (by omega) hE31 (OwK.ofBlk (k:=3) (lo:=0) (n:=1) hB31 (Nat.zero_le _) rfl (by omega)).sl (by intro u hu;simp at hu;rcases hu with rfl | rfl | rfl <;> rfl) (by omega) (by omega) X31.size fun v32 w32 ho32 hg32 hb32=>?_
  have hc32:Ch (fun c=>ve.ownBlock = some c) w31 w32:=d9 hg32 fun c hc=>hc
  have X32:Ext w w32:=X31.thenCh hc32 fun c hc=>(hE31.blk c hc).1
  have hO32:Blk 66 w32 q3 _:=(hO30.ext x31).ch hc32 (hE31.ne_blk (hO30.ext x31) (by decide))
  have hQ32:Blk 66 w32 q2 _:=(hQ30.ext x31).ch hc32 (hE31.ne_blk (hQ30.ext x31) (by decide))
  have hH32:HsW w.heap.size w32 v29 (j.hist ++ [L']):=by
   obtain ⟨zs,z1,z2⟩:=hH30.ext x31
   exact HsW.ch ⟨zs,z1,z2⟩ hc32 (fun c h1 h2=>z1.ne_own hE31 (by decide) c h1 h2) fun x L hi c h1 h2=>hi.ne_own hE31 (by decide) c h1 h2
  have hE32:EnW w.heap.size w32 v32 (j.ents ++ [en]):=by
   show OwK 3 _ _ w32 v32 (j.ents ++ [en]).length (cU (j.ents ++ [en]))
   rw [List.length_append,wC]
   exact ho32
  refine iFa (iStU hO32 (by simp) hE32.cell fun w33 hO33 hu33=>?_)
  refine iAdd (by omega) ?_
  refine iFa (iStU hO33 (by simp) rfl fun w34 hO34 hu34=>?_)
  refine iAdd (by omega) ?_
  have c34:Ch (fun c=>c = q3) w32 w34:=(hu33.ch (S:=fun c=>c = q3) rfl).trans (hu34.ch (S:=fun c=>c = q3) rfl) fun _ h=>.inl h
  have X34:Ext w w34:=X32.thenCh c34 fun c hc=>by omega
  have hpx:(j.text ++ (l ++ [10])).length = i + 1:=by simp only [List.length_append,List.length_cons,List.length_nil];omega
  refine hKn ((i + 1,i + 1),⟨L',j.ents ++ [en],j.text ++ (l ++ [10]),j.hist ++ [L']⟩) _ ⟨X34,⟨v29,v32,?_,hQ32.ch c34 hq23,⟨?_,?_,hJ',?_,?_⟩⟩,hpx.symm,Nat.le_refl _,hil,?_,fun k h1 h2=>?_,?_,?_⟩ (by show t.length - (i + 1) < t.length - i;omega)
  ·show Blk _ w34 q3 [v29,v32,.int .i64 ((j.text ++ (l ++ [10])).length:Int)]
   rw [hpx]
   exact hO34
  ·obtain ⟨zs,z1,z2⟩:=hH32
   exact HsW.ch ⟨zs,z1,z2⟩ c34 (fun c h1 h2=>by subst h2;exact z1.ne_blk hO32 (by decide) h1) fun x L hi c h1 h2=>by subst h2;exact hi.ne_blk hO32 (by decide) h1
  ·exact OwK.ch hE32 c34 fun c h1 h2=>by subst h2;exact hE32.ne_blk hO32 (by decide) h1
  ·show (j.hist ++ [L']).length = (j.ents ++ [en]).length + 1
   rw [List.length_append,List.length_append,hhl];rfl
  ·show gt (j.hist ++ [L']) (j.ents ++ [en]).length = L'
   rw [List.length_append,show j.ents.length + [en].length = j.hist.length by rw [hhl];rfl,Y4]
  ·show t.take (i + 1) = j.text ++ (l ++ [10])
   rw [show i + 1 = st + (l.length + 1) by omega,List.take_add,htk,htd]
   congr 1
   rw [List.take_append,List.take_of_length_le (by omega)]
   simp
  ·have h1:i + 1 ≤ k:=h1
   have h2:k < i + 1:=h2
   omega
  ·show (j.ents ++ [en]).length ≤ 60
   rw [List.length_append];simp only [List.length_cons,List.length_nil];omega
  ·show readJ (60 - (j.ents ++ [en]).length) (t.drop (i + 1)) _ = openJ t
   rw [List.length_append,show 60 - (j.ents.length + [en].length) = m by simp only [List.length_cons,List.length_nil];omega]
   exact hrd
end Go.Proofs.YteifjhpddhppcaaGreatDoor

namespace Go.Vc
noncomputable def fndI (t n:Str):Itm:=if hasI (openJ t).items n then gt (openJ t).items (posI (openJ t).items n) else ⟨[],[],0⟩
noncomputable def fndC (t n:Str):Int:=if hasI (openJ t).items n then 0 else 4
end Go.Vc
namespace Go.Proofs.YteifjhpddhppcaaGreatDoor
open Go.Vc
theorem OH {t n:Str} (ht:t.length ≤ 4194304) {w:World} (hT:TabOk w):Ret Tryz.prog BF #[sv t,sv n] w (.tuple #[(fndI t n).val,.int .i64 (fndC t n)]):=by
 apply P0;unfold BA
 refine iNew3 fun q w1 hq x1 hB=>?_
 refine iCall ((fR ht (hT.ext x1)).mono ?_)
 rintro r w2 ⟨x2,b,vi,ve,rfl,hj,hen,htl⟩
 refine iNil (iFa (iLdB hj.blk rfl ?_))
 have hLl:=hj.ji.len
 refine iCall ((rS (n:=n) hj.it.sl (by omega)).mono ?_)
 rintro r w4 ⟨x4,i,y,rfl,hF⟩
 have hin:=hj.ji.incI
 have hy:=hF.2.2 hin
 have hp:posI (openJ t).items n = i:=sT hF.1.1 (hF.1.2 hin).1 (hF.1.2 hin).2
 have X4:=(x1.trans x2).trans x4
 have hB4:=hB.ext (x2.trans x4)
 refine iE20 (iE21 (iNot (iCnd (fun hb=>?_) (fun hb=>?_))))
 ·rw [Bool.not_eq_true'] at hb
  refine bB (cs:=#[sv [],sv [],.int .i64 0]) (by simp [Instr.fill]) ?_
  refine iSt3 hB4 rfl rfl rfl rfl fun w5 hB5 hc5=>iLd3 hB5 ?_
  have h1:¬ hasI (openJ t).items n = true:=by rw [← hy,hb];decide
  refine ⟨?_,X4.thenCh hc5 fun c hc=>by omega⟩
  unfold fndI fndC
  rw [if_neg h1,if_neg h1]
 ·rw [Bool.not_eq_false'] at hb
  obtain ⟨hil,hnm⟩:=hF.2.1 hb
  refine iItm (hj.it.ext x4).sl rfl hil ?_
  refine iSt3 hB4 rfl rfl rfl rfl fun w5 hB5 hc5=>iLd3 hB5 ?_
  have h1:hasI (openJ t).items n = true:=by rw [← hy,hb]
  refine ⟨?_,X4.thenCh hc5 fun c hc=>by omega⟩
  unfold fndI fndC
  rw [if_pos h1,if_pos h1,hp]
end Go.Proofs.YteifjhpddhppcaaGreatDoor

namespace Go.Vc
instance:Inhabited Ent:=⟨⟨0,[],[]⟩⟩
theorem TY:∀ {L:List Ent} {j:Nat},j < L.length → (cU L)[j * 3 + 0]? = some (.int .i64 (gt L j).kd) ∧ (cU L)[j * 3 + 1]? = some (sv (gt L j).nm) ∧ (cU L)[j * 3 + 2]? = some (sv (gt L j).fm)
 | [],j,h=>absurd h (Nat.not_lt_zero j)
 | x :: L,0,_=>⟨rfl,rfl,rfl⟩
 | x :: L,j + 1,h=>by
  have:=TY (L:=L) (j:=j) (by simpa using h)
  have e:∀ f,(cU (x :: L))[(j + 1) * 3 + f]? = (cU L)[j * 3 + f]?:=fun f=>by
   rw [show cU (x :: L) = x.cs ++ cU L by simp [cU],List.getElem?_append_right (by simp [Ent.cs];omega)]
   congr 1;simp [Ent.cs];omega
  rw [e,e,e]
  exact this
noncomputable def addC (j:Jn) (e:Ent):Int:=if entB e = false then 1 else match stepI j.items e with
 | none=>5
 | some _=>if j.ents.length = 60 ∨ 6000 < (j.text ++ lineC j.chk e).length then 3 else 0
noncomputable def appT (j:Jn) (e:Ent):Str:=if addC j e = 0 then j.text ++ lineC j.chk e else []
end Go.Vc
namespace Go.Proofs.YteifjhpddhppcaaGreatDoor
open Go.Vc
theorem iEnt {w:World} {v:Value} {L:List Ent} {z:Int} {j:Nat} {k:IntKind} {K:Value → Prop} (hs:SlK 3 w v L.length (cU L)) (hz:z = (j:Int)) (hj:j < L.length) (h:K (gt L j).val):xIa 3 v (.int k z) fun p=>xLdA w 3 p K:=by
 have h3:=TY hj
 refine iLdK hs hz hj (cs:=#[.int .i64 (gt L j).kd,sv (gt L j).nm,sv (gt L j).fm]) rfl (fun i hi=>?_) h
 have:i = 0 ∨ i = 1 ∨ i = 2:=by omega
 rcases this with rfl | rfl | rfl
 ·exact h3.1
 ·exact h3.2.1
 ·exact h3.2.2
end Go.Proofs.YteifjhpddhppcaaGreatDoor

namespace Go.Vc
theorem xE (j:Jn) (e:Ent) (h:entB e = true) {L':List Itm} (hst:stepI j.items e = some L'):addC j e = if j.ents.length = 60 ∨ 6000 < (j.text ++ lineC j.chk e).length then 3 else 0:=by
 unfold addC
 rw [if_neg (by rw [h];decide),hst]
end Go.Vc
namespace Go.Proofs.YteifjhpddhppcaaGreatDoor
open Go.Vc
theorem HJ {w0 w:World} {b:Nat} {vi ve:Value} {j:Jn} {e:Ent} (h0:Ext w0 w) (hj:JnW w0 w b vi ve j) (hl:e.sz ≤ 4294967296) (hn:j.ents.length ≤ 1048576) (ht:j.text.length ≤ 68719476736) (hT:TabOk w0):
  Cal Tryz.prog kX #[.pointer (some ⟨b,0,none⟩),e.val] w fun r w'=>Ext w0 w' ∧ r = .int .i64 (addC j e) ∧ (addC j e = 0 → ∃ j' vi' ve',addJ j e = some j' ∧ JnW w0 w' b vi' ve' j'):=by
 apply tI;unfold kG
 refine iNew3 fun q w1 hq x1 hQ=>?_
 refine iLd3 hQ ?_
 refine iRet (pJ (e:=e) (by omega) w1) fun w2 x2=>?_
 have X2:=x1.trans x2
 have hj2:=hj.ext X2
 have hQ2:=hQ.ext x2
 refine iNot (iCnd (fun hb=>?_) (fun hb=>?_))
 ·rw [Bool.not_eq_true'] at hb
  have hc:addC j e = 1:=by unfold addC;rw [if_pos hb]
  rw [hc]
  exact ⟨h0.trans X2,rfl,fun h=>by cases h⟩
 rw [Bool.not_eq_false'] at hb
 have keepB:∀ {w':World} {q:Nat} {t:TypeId} {cs:List Value},Blk t w2 q cs → Ch (fun _=>False) w2 w' → Blk t w' q cs:=fun h hc=>h.ch hc fun h=>h
 refine ⟨fun _=>False,?_⟩
 refine iNil (iFa (iLdB hj2.blk rfl ⟨fun w4 hc=>iLdB (keepB hj2.blk hc) rfl rfl,?_⟩))
 refine iLenK hj2.en.sl ?_
 refine iNil (iFa (iLdB hj2.blk rfl ⟨fun w5 hc=>iLdB (keepB hj2.blk hc) rfl rfl,?_⟩))
 refine iLenT ?_
 refine iLd3 hQ2 ⟨fun w6 hc=>iLd3 (keepB hQ2 hc) rfl,?_⟩
 intro w7 x7
 have hj7:=hj2.ext x7
 refine iRet (dO (e:=e) hj7.blk (iU j) (by omega) (hT.ext ((h0.trans X2).trans x7))) fun w8 x8=>⟨x8.ch,?_⟩
 have hlc:=tG (iU j) e
 refine iLenT (iAdd (by omega) ?_)
 intro w9 x9
 have X9:=((x7.trans x8).trans x9)
 refine iLd3 (hQ2.ext X9) ?_
 refine iCall ((nS (e:=e) ((h0.trans X2).trans X9) (hj2.ext X9) hb hl hn ht hT).mono ?_)
 rintro r w10 ⟨X10,hm⟩
 cases hst:stepI j.items e with
 | none=>
  have had:addJ j e = none:=by unfold addJ;rw [hst];rfl
  have hc:addC j e = 5:=by unfold addC;rw [if_neg (by rw [hb];decide),hst]
  rw [had] at hm
  obtain ⟨rfl,-⟩:=hm
  rw [hc]
  exact iNot (iCndT rfl ⟨X10,rfl,fun h=>by cases h⟩)
 | some L'=>
  have had:addJ j e = some ⟨L',j.ents ++ [e],j.text ++ lineC j.chk e,j.hist ++ [L']⟩:=by unfold addJ;rw [hst];rfl
  have hc:=xE j e hb hst
  rw [had] at hm
  obtain ⟨rfl,vi',ve',hj'⟩:=hm
  refine iNot (iCndF rfl ?_)
  refine iJnB (decide (j.ents.length = 60 ∨ 6000 < (j.text ++ lineC j.chk e).length)) w10 (fun J hJ=>?_) (fun w12 x12=>?_)
  ·rw [List.length_append] at hJ
   refine iEq (iCndP (fun h=>?_) (fun h=>?_))
   ·rw [decide_eq_true (show j.ents.length = 60 ∨ 6000 < j.text.length + (lineC j.chk e).length from .inl (by omega))] at hJ
    exact hJ _ (Ext.refl _)
   ·refine iLt ?_
    rw [show decide ((6000:Int) < (j.text.length:Int) + ((lineC j.chk e).length:Int)) = decide (j.ents.length = 60 ∨ 6000 < j.text.length + (lineC j.chk e).length) from decide_eq_decide.2 (by omega)]
    exact hJ _ (Ext.refl _)
  intro _
  simp only [gx]
  refine iCndP (fun h=>?_) (fun h=>?_)
  ·rw [hc,if_pos h]
   exact ⟨X10.trans x12,rfl,fun h=>by cases h⟩
  ·rw [hc,if_neg h]
   exact ⟨X10.trans x12,rfl,fun _=>⟨_,vi',ve',had,hj'.ext x12⟩⟩
theorem HK {t:Str} {e:Ent} (ht:t.length ≤ 4194304) (hl:e.sz ≤ 4294967296) {w:World} (hT:TabOk w):Ret Tryz.prog tA #[sv t,e.val] w (.tuple #[sv (appT (openJ t) e),.int .i64 (addC (openJ t) e)]):=by
 apply JC;unfold tQ
 refine iNew3 fun q w1 hq x1 hQ=>?_
 refine iCall ((fR ht (hT.ext x1)).mono ?_)
 rintro r w2 ⟨x2,b,vi,ve,rfl,hj,hen,htl⟩
 refine iLd3 (hQ.ext x2) ?_
 refine iCall ((HJ (e:=e) x2 hj hl (by omega) (by omega) (hT.ext x1)).mono ?_)
 rintro r w3 ⟨X3,rfl,hz⟩
 refine iNe (iCndP (fun h=>?_) (fun h=>?_))
 ·refine ⟨?_,x1.trans X3⟩
  unfold appT
  rw [if_neg h]
 ·have h:addC (openJ t) e = 0:=Classical.not_not.1 h
  obtain ⟨j',vi',ve',had,hj'⟩:=hz h
  refine iNil (iFa (iLdB hj'.blk rfl ⟨?_,x1.trans X3⟩))
  have hjt:j'.text = (openJ t).text ++ lineC (openJ t).chk e:=by
   unfold addJ at had
   cases hst:stepI (openJ t).items e with
   | none=>rw [hst] at had;cases had
   | some L'=>rw [hst] at had;cases had;rfl
  unfold appT
  rw [if_pos h,h,hjt]
theorem jT {t:Str} {e:Ent} (ht:t.length ≤ 4194304) (hl:e.sz ≤ 4294967296) (w:World):Ret Tryz.prog tN #[sv t,e.val] w (.tuple #[sv (appT (openJ t) e),.int .i64 (addC (openJ t) e)]):=by
 apply KF;unfold sU
 refine iNew3 fun q w1 hq x1 hQ=>?_
 refine iLd3 hQ ?_
 refine iRet (HA (e:=e) (by omega) w1) fun w2 x2=>?_
 have X2:=x1.trans x2
 have hQ2:=hQ.ext x2
 refine iNot (iCnd (fun hb=>?_) (fun hb=>?_))
 ·rw [Bool.not_eq_true'] at hb
  have hc:addC (openJ t) e = 1:=by unfold addC;rw [if_pos hb]
  refine ⟨?_,X2⟩
  unfold appT
  rw [hc];rfl
 rw [Bool.not_eq_false'] at hb
 refine iCall ((o5 ht w2).mono ?_)
 rintro r w3 ⟨x3,vs,ve,rfl,hL,hen,htk⟩
 refine iNew3 fun q6 w4 hq6 x4 hB4=>?_
 refine iSt3 hB4 rfl hL.st.cell hL.en.cell rfl fun w5 hB5 hc5=>?_
 have s2:=X2.size
 have s3:=x3.size
 have x25:Ext w2 w5:=(x3.trans x4).thenCh hc5 fun c hc=>by omega
 have x35:Ext w3 w5:=x4.thenCh hc5 fun c hc=>by omega
 have hQ5:=hQ2.ext x25
 refine iLd3 hB5 (iLd3 hQ5 ?_)
 intro w6 x6
 refine iCall ((o6 (hL.ext (x35.trans x6))).mono ?_)
 rintro v17 w7 ⟨x7,hi⟩
 refine ⟨x7,?_⟩
 intro w8 x8
 refine iCall ((wW (e:=e) (hi.ext x8).sl hL.ji).mono ?_)
 rintro r w9 ⟨x9,v',hm⟩
 have hm':r = .tuple #[v',.bool (stepI (openJ t).items e).isSome]:=by
  cases hst:stepI (openJ t).items e with
  | none=>rw [hst] at hm;exact hm
  | some L'=>rw [hst] at hm;exact hm.1
 subst hm'
 refine iE20 (iE21 ?_)
 intro w10 x10
 have x510:=(((x6.trans x7).trans x8).trans x9).trans x10
 have hB10:=hB5.ext x510
 have htl:(openJ t).text.length ≤ t.length:=by
  have:=congrArg List.length htk
  rw [List.length_take] at this;omega
 refine iFa (iLdB hB10 rfl ?_)
 refine iTxTo htl ?_
 rw [htk]
 refine iLd3 (hQ5.ext x510) ?_
 refine iRetQ (fun w' _=>TB (e:=e) (by omega) (by omega) w') ?_
 intro w11 x11
 have X11:=(X2.trans x25).trans (x510.trans x11)
 have hlc:=tG (iU (openJ t)) e
 cases hst:stepI (openJ t).items e with
 | none=>
  have hc:addC (openJ t) e = 5:=by unfold addC;rw [if_neg (by rw [hb];decide),hst]
  refine iNot (iCndT rfl ⟨?_,X11⟩)
  unfold appT
  rw [hc];rfl
 | some L'=>
  have hc:=xE (openJ t) e hb hst
  refine iNot (iCndF rfl ?_)
  refine iJnB (decide ((openJ t).ents.length = 60 ∨ 6000 < ((openJ t).text ++ lineC (openJ t).chk e).length)) w11 (fun J hJ=>?_) (fun w13 x13=>?_)
  ·refine iFa (iLdB (hB10.ext x11) rfl ?_)
   refine iLenK (hL.en.ext ((x35.trans x510).trans x11)).sl (iLe (iCndP (fun h=>?_) (fun h=>?_)))
   ·rw [decide_eq_true (.inl (by omega))] at hJ
    exact hJ _ (Ext.refl _)
   ·refine iLenT (iLt ?_)
    rw [show decide ((6000:Int) < (((openJ t).text ++ lineC (chkT 11 (openJ t).text) e).length:Int)) = decide ((openJ t).ents.length = 60 ∨ 6000 < ((openJ t).text ++ lineC (openJ t).chk e).length) from decide_eq_decide.2 ⟨fun h=>.inr (by have:(openJ t).chk = chkT 11 (openJ t).text:=rfl;rw [this];omega),fun h2=>by
     have:(openJ t).chk = chkT 11 (openJ t).text:=rfl
     rw [this] at h2;omega⟩]
    exact hJ _ (Ext.refl _)
  intro _
  simp only [gx]
  refine iCndP (fun h=>?_) (fun h=>?_)
  ·refine ⟨?_,X11.trans x13⟩
   rw [if_pos h] at hc
   unfold appT
   rw [hc];rfl
  ·refine ⟨?_,X11.trans x13⟩
   rw [if_neg h] at hc
   unfold appT
   rw [if_pos hc,hc];rfl
end Go.Proofs.YteifjhpddhppcaaGreatDoor

namespace Go.Vc
theorem ZV {L:List Str} {m:Nat} (h:∀ t ∈ L,t.length ≤ m) {i:Nat} (hi:i < L.length):(L[i]).length ≤ m:=h _ (List.getElem_mem hi)
end Go.Vc
namespace Go.Proofs.YteifjhpddhppcaaGreatDoor
open Go.Vc
def yL:List Str:=[[112],[113],[70],[84],[126],[38],[124],[62],[40],[41],[91,93],[60,62],[32],[44],[59],[48],[49],[46],[91],[60],[120],[10]]
theorem LM {e:TypeId} {w0:World} {vc:Value} {bs:List Nat} (hc:SlB w0 vc bs) {b:Nat} {t:Str} (ht:t.length ≤ 1000000) {w:World} (hS:Vc.Src e w0 vc b w):
  Drw Tryz.prog yB #[.pointer (some ⟨b,0,none⟩),sv t] e w0 vc b w fun r _=>∃ t':Str,r = sv t' ∧ t'.length ≤ t.length + 2:=by
 apply NN;unfold wX
 refine iBsC yL (by kernel_rfl) fun q w1 hq x1 hT=>?_
 have hS1:=hS.later x1
 have hC1:Ch (fun c=>c = b) w w1:=x1.ch (S:=fun c=>c = b)
 have hqb:¬ q = b:=by have:=hS.lt;omega
 refine bO (hT.slt (n:=22) rfl (by decide)) ?_
 refine iCall ((aD hc hS1 _).mono ?_)
 rintro _ w2 ⟨⟨y,rfl,hy,_⟩,hS2,hch2⟩
 have hy:=hy (by decide)
 have hyl:y < yL.length:=by omega
 have hC2:=aA hC1 hch2
 refine iIaT ((hT.ch hch2 hqb).slt (n:=22) rfl (by decide)) hyl fun p hp=>?_
 refine iLd hp ?_
 have hlen:(yL[y]).length ≤ 2:=ZV (show ∀ t ∈ yL,t.length ≤ 2 by decide) hyl
 generalize yL[y] = s at *
 refine iLenT (iEq (iCndP (fun h0=>?_) (fun h0=>?_)))
 ·exact ⟨⟨s,rfl,by omega⟩,hS2,hC2⟩
 refine iLenT ?_
 refine iCall ((aD hc hS2 _).mono ?_)
 rintro _ w3 ⟨⟨k,rfl,hk,_⟩,hS3,hch3⟩
 have hk:=hk (by omega)
 have hkt:k < t.length:=by omega
 have hC3:=aA hC2 hch3
 refine iCall ((aD hc hS3 3).mono ?_)
 rintro _ w4 ⟨⟨x,rfl,_,_⟩,hS4,hch4⟩
 have hC4:=aA hC3 hch4
 have e1:(k:Int) + 1 = ((k + 1:Nat):Int):=by omega
 refine iEq (iCndP (fun _=>?_) (fun _=>?_))
 ·refine iTxTo (by omega) ?_
  refine iCat (by rw [List.length_take];omega) ?_
  refine iAdd (by omega) ?_
  rw [e1]
  refine wN (by omega) ?_
  refine iCat (by simp only [List.length_append,List.length_take,List.length_drop];omega) ?_
  intro w5 x5
  exact ⟨⟨_,rfl,by simp only [List.length_append,List.length_take,List.length_drop];omega⟩,hS4.later x5,aM hC4 x5⟩
 refine iEq (iCndP (fun _=>?_) (fun _=>?_))
 ·refine iTxTo (by omega) ?_
  refine iAdd (by omega) ?_
  rw [e1]
  refine wN (by omega) ?_
  refine iCat (by simp only [List.length_take,List.length_drop];omega) ?_
  intro w5 x5
  exact ⟨⟨_,rfl,by simp only [List.length_append,List.length_take,List.length_drop];omega⟩,hS4.later x5,aM hC4 x5⟩
 ·refine iTxTo (by omega) ?_
  refine iCat (by rw [List.length_take];omega) ?_
  refine wN (by omega) ?_
  refine iCat (by simp only [List.length_append,List.length_take,List.length_drop];omega) ?_
  intro w5 x5
  exact ⟨⟨_,rfl,by simp only [List.length_append,List.length_take,List.length_drop];omega⟩,hS4.later x5,aM hC4 x5⟩
def xZ:List Str:=[[97],[98],[97,98],[99],[122,122],[97,98,99,100,101,102,103,104]]
theorem OM {e:TypeId} (hneN:aE ≠ e) {w0:World} {vc:Value} {bs:List Nat} (hc:SlB w0 vc bs) {b:Nat} {w:World} (hS:Vc.Src e w0 vc b w):
  Drw Tryz.prog zU #[.pointer (some ⟨b,0,none⟩)] e w0 vc b w fun r _=>∃ en:Ent,r = en.val ∧ en.sz ≤ 300:=by
 apply Q7;unfold AY
 refine iNew3 fun b2 w1 hb2 x1 hB1=>?_
 have hS1:=hS.later x1
 have hb2b:¬ b2 = b:=by have:=hS.lt;omega
 refine iBsC xZ (by kernel_rfl) fun q w2 hq x2 hT=>?_
 have hS2:=hS1.later x2
 have hC2:Ch (fun c=>c = b) w w2:=(x1.trans x2).ch (S:=fun c=>c = b)
 have hqb:¬ q = b:=by have:=hS1.lt;omega
 have hB2:=hB1.ext x2
 refine iCall ((aD hc hS2 6).mono ?_)
 rintro _ w3 ⟨⟨y,rfl,hy,_⟩,hS3,hch3⟩
 have hy:=hy (by decide)
 have hyl:y < xZ.length:=by show y < 6;omega
 have hC3:=aA hC2 hch3
 have hB3:=hB2.ch hch3 hb2b
 refine iIaT ((hT.ch hch3 hqb).slt (n:=6) rfl (by decide)) hyl fun p hp=>?_
 refine iLd hp ?_
 have hlen:(xZ[y]).length ≤ 8:=ZV (show ∀ t ∈ xZ,t.length ≤ 8 by decide) hyl
 generalize xZ[y] = nm at *
 have fin:∀ (en:Ent) (w5:World),Vc.Src e w0 vc b w5 → Ch (fun c=>c = b) w w5 → Blk 42 w5 b2 [.int .i64 0,.string ⟨#[]⟩,.string ⟨#[]⟩] → en.sz ≤ 300 →
   xStA Tryz.prog w5 3 (.pointer (some ⟨b2,0,none⟩)) (.agg #[.int .i64 en.kd,sv en.nm,sv en.fm]) fun w6=>xLdA w6 3 (.pointer (some ⟨b2,0,none⟩)) fun r=>(∃ en:Ent,r = en.val ∧ en.sz ≤ 300) ∧ Vc.Src e w0 vc b w6 ∧ Ch (fun c=>c = b) w w6:=by
  intro en w5 gS gC gB hsz
  refine iSt3 gB rfl rfl rfl rfl fun w6 hB6 hch6=>?_
  refine iLd3 hB6 ?_
  exact ⟨⟨en,rfl,hsz⟩,gS.ch hch6 (fun h=>hb2b h.symm) (fun c hc=>by have hc:c = b2:=hc;have:=hS.ext.size;omega),gC.trans hch6 fun c hc=>.inr (by have hc:c = b2:=hc;omega)⟩
 refine iCall ((aD hc hS3 5).mono ?_)
 rintro _ w4 ⟨⟨x,rfl,_,_⟩,hS4,hch4⟩
 have hC4:=aA hC3 hch4
 have hB4:Blk 42 w4 b2 [.int .i64 0,.string ⟨#[]⟩,.string ⟨#[]⟩]:=hB3.ch hch4 hb2b
 refine iEq (iCndP (fun _=>?_) (fun _=>?_))
 ·refine bB (cs:=#[.int .i64 2,sv nm,sv []]) (by simp [Instr.fill,Value.cells]) ?_
  exact fin ⟨2,nm,[]⟩ w4 hS4 hC4 hB4 (by show nm.length + 0 ≤ 300;omega)
 refine iEq ?_
 refine iJnX (fun xs w'=>(∃ t,xs = [.bool t]) ∧ w' = w4) (fun J hJ=>?_) ?_
 ·refine iCndP (fun _=>hJ _ _ ⟨⟨true,rfl⟩,rfl⟩) (fun _=>?_)
  exact iEq (hJ _ _ ⟨⟨_,rfl⟩,rfl⟩)
 rintro _ _ ⟨⟨t,rfl⟩,rfl⟩
 intro _
 cases t with
 | true=>
  refine iCndT rfl ?_
  refine bB (cs:=#[.int .i64 3,sv nm,sv []]) (by simp [Instr.fill,Value.cells]) ?_
  exact fin ⟨3,nm,[]⟩ _ hS4 hC4 hB4 (by show nm.length + 0 ≤ 300;omega)
 | false=>
  refine iCndF rfl ?_
  refine iCall ((OU hneN hc (n:=9) (by decide) hS4).mono ?_)
  rintro v w11 ⟨⟨N,hN,ho⟩,hS11,hch11⟩
  have hC11:=aA hC4 hch11
  have ho11:RawW w.heap.size aE w11 v N:=OwK.mono ho hC4.size
  have hB11:=hB4.ch hch11 hb2b
  refine iRet (U1 ho11.sl (by omega)) fun w12 x12=>?_
  refine iNot ?_
  refine iJnX (fun xs w'=>∃ u,xs = [u] ∧ (∃ f:Fm,f.good ∧ f.size ≤ 40 ∧ FmW w.heap.size w' u f) ∧ Ext w12 w') (fun J hJ=>?_) ?_
  ·cases hb:isN N with
   | true=>
    refine iCndF rfl ?_
    obtain ⟨f,gf,sf,rfl⟩:=YP.1 hb
    exact hJ _ _ ⟨_,rfl,⟨f,gf,sf,FmW.ofRaw (OwK.ext ho11 x12)⟩,Ext.refl _⟩
   | false=>
    refine iCndT rfl ?_
    refine iCall ((qZ 0 w12).mono ?_)
    rintro u w15 ⟨x15,h15⟩
    exact hJ _ _ ⟨u,rfl,⟨.var 0,show 0 < 6 by decide,by decide,OwK.mono h15 (by have:=hC11.size;have:=x12.size;omega)⟩,x15⟩
  rintro _ w14 ⟨u,rfl,⟨f,gf,sf,hf⟩,x14⟩
  intro _
  have x14':=x12.trans x14
  have hS14:=hS11.later x14'
  have hC14:=aM hC11 x14'
  have hB14:=hB11.ext x14'
  refine iCall ((aD hc hS14 4).mono ?_)
  rintro _ w16 ⟨⟨z,rfl,_,_⟩,hS16,hch16⟩
  have hC16:=aA hC14 hch16
  have hB16:=hB14.ch hch16 hb2b
  have hf16:FmW w.heap.size w16 u f:=OwK.src hf hS14 hneN hch16
  refine iEq ?_
  refine iJnX (fun xs w'=>∃ u,xs = [u] ∧ (∃ f:Fm,f.good ∧ f.size ≤ 40 ∧ FmW w.heap.size w' u f) ∧ Vc.Src e w0 vc b w' ∧ Ch (fun c=>c = b) w w' ∧ Blk 42 w' b2 [.int .i64 0,.string ⟨#[]⟩,.string ⟨#[]⟩]) (fun J hJ=>?_) ?_
  ·refine iCndP (fun _=>?_) (fun _=>hJ _ _ ⟨u,rfl,⟨f,gf,sf,hf16⟩,hS16,hC16,hB16⟩)
   refine iCall ((oK hneN hc (k:=3) (by decide) true 9 hS16 (by decide) (by decide)).mono ?_)
   rintro u2 w19 ⟨⟨g,gg,sg,hg⟩,hS19,hch19⟩
   exact hJ _ _ ⟨u2,rfl,⟨g,gg,by omega,OwK.mono hg hC16.size⟩,hS19,aA hC16 hch19,hB16.ch hch19 hb2b⟩
  rintro _ w18 ⟨u3,rfl,⟨g,gg,sg,hg⟩,hS18,hC18,hB18⟩
  intro _
  refine iRet (zO (f:=g) hg.sl gg (by omega)) fun w20 x20=>?_
  have hbl:=body_len g
  refine bB (cs:=#[.int .i64 1,sv nm,sv g.body]) (by simp [Instr.fill,Value.cells]) ?_
  exact fin ⟨1,nm,g.body⟩ w20 (hS18.later x20) (aM hC18 x20) (hB18.ext x20) (by show nm.length + g.body.length ≤ 300;omega)
end Go.Proofs.YteifjhpddhppcaaGreatDoor

namespace Go.Vc
end Go.Vc
namespace Go.Proofs.YteifjhpddhppcaaGreatDoor
open Go.Vc
end Go.Proofs.YteifjhpddhppcaaGreatDoor

namespace Go.Vc
theorem kF {b:Bool} {t:Str} {c:UInt8} (h:c ∈ par b t):c ∈ t ∨ c = 40 ∨ c = 41:=by
 unfold par at h
 cases b
 ·exact .inl h
 ·rw [if_pos rfl] at h
  rcases List.mem_cons.1 h with h | h
  ·exact .inr (.inl h)
  ·rcases List.mem_append.1 h with h | h
   ·exact .inl h
   ·exact .inr (.inr (by simpa using h))
theorem jR:∀ (f:Fm),f.good → ∀ c ∈ f.body,38 ≤ c.toNat
 | .var v,hg,c,h=>by
  have h:c = vl v:=by simpa [Fm.body] using h
  subst h
  have hg:v < 6:=hg
  have:v = 0 ∨ v = 1 ∨ v = 2 ∨ v = 3 ∨ v = 4 ∨ v = 5:=by omega
  rcases this with rfl | rfl | rfl | rfl | rfl | rfl <;> decide
 | .fls,_,c,h=>by
  have h:c = 70:=by simpa [Fm.body] using h
  subst h;decide
 | .and a b,hg,c,h=>by
  rcases List.mem_append.1 h with h | h
  ·rcases kF h with h | rfl | rfl
   ·exact jR a hg.1 c h
   ·decide
   ·decide
  ·rcases List.mem_cons.1 h with rfl | h
   ·decide
   rcases kF h with h | rfl | rfl
   ·exact jR b hg.2 c h
   ·decide
   ·decide
 | .or a b,hg,c,h=>by
  rcases List.mem_append.1 h with h | h
  ·rcases kF h with h | rfl | rfl
   ·exact jR a hg.1 c h
   ·decide
   ·decide
  ·rcases List.mem_cons.1 h with rfl | h
   ·decide
   rcases kF h with h | rfl | rfl
   ·exact jR b hg.2 c h
   ·decide
   ·decide
 | .imp a b,hg,c,h=>by
  rw [Fm.body] at h
  split at h
  ·split at h
   ·have h:c = 84:=by simpa using h
    subst h;decide
   ·rcases List.mem_cons.1 h with rfl | h
    ·decide
    rcases kF h with h | rfl | rfl
    ·exact jR a hg.1 c h
    ·decide
    ·decide
  ·rcases List.mem_append.1 h with h | h
   ·rcases kF h with h | rfl | rfl
    ·exact jR a hg.1 c h
    ·decide
    ·decide
   ·rcases List.mem_cons.1 h with rfl | h
    ·decide
    ·exact jR b hg.2 c h
 | .box a,hg,c,h=>by
  rcases List.mem_cons.1 h with rfl | h
  ·decide
  rcases List.mem_cons.1 h with rfl | h
  ·decide
  rcases kF h with h | rfl | rfl
  ·exact jR a hg c h
  ·decide
  ·decide
 | .dia a,hg,c,h=>by
  rcases List.mem_cons.1 h with rfl | h
  ·decide
  rcases List.mem_cons.1 h with rfl | h
  ·decide
  rcases kF h with h | rfl | rfl
  ·exact jR a hg c h
  ·decide
  ·decide
theorem WH {t:Str} (h:goodT t = true):∀ c ∈ t,38 ≤ c.toNat:=by
 unfold goodT at h
 rw [Bool.and_eq_true,decide_eq_true_eq,decide_eq_true_eq] at h
 have:=jR (rd t).1 (cO _ _ _ _ trivial)
 rw [h.2] at this
 exact this
theorem UD {t:Str} (h:dI t = true):∀ c ∈ t,97 ≤ c.toNat:=fun c hc=>by
 unfold dI at h
 rw [Bool.and_eq_true,List.all_eq_true] at h
 have:=h.1 c hc
 unfold small at this
 rw [Bool.and_eq_true,decide_eq_true_eq] at this
 exact this.1
theorem rH {c d:UInt8} {n:Nat} (h:n ≤ c.toNat) (hd:d.toNat < n):c ≠ d:=fun e=>by subst e;omega
theorem YT (n:Nat):∀ c ∈ decT n,48 ≤ c.toNat:=by
 induction n using Nat.strongRecOn with
 | _ n ih=>
  intro c hc
  by_cases h:n < 10
  ·unfold decT at hc
   rw [Lib.decDigits,dif_pos h] at hc
   have hc:c = UInt8.ofNat (48 + n):=by simpa using hc
   subst hc
   rw [UInt8.toNat_ofNat'];omega
  ·have:decT n = decT (n / 10) ++ [UInt8.ofNat (48 + n % 10)]:=by unfold decT;conv=>lhs;rw [Lib.decDigits,dif_neg h]
   rw [this] at hc
   rcases List.mem_append.1 hc with hc | hc
   ·exact ih (n / 10) (by omega) c hc
   ·have hc:c = UInt8.ofNat (48 + n % 10):=by simpa using hc
    subst hc
    rw [UInt8.toNat_ofNat'];omega
theorem UG {e:Ent} (h:entB e = true):dI e.nm = true ∧ ((e.kd = 1 ∧ goodT e.fm = true) ∨ (e.kd = 2 ∧ e.fm = []) ∨ (e.kd = 3 ∧ e.fm = [])):=by
 unfold entB at h
 split at h
 ·rw [Bool.and_eq_true] at h
  exact ⟨h.1,.inl ⟨by assumption,h.2⟩⟩
 ·split at h
  ·rename_i h1 h2
   rw [Bool.and_eq_true,decide_eq_true_eq] at h
   exact ⟨h.1,.inr (h2.imp (fun e=>⟨e,h.2⟩) fun e=>⟨e,h.2⟩)⟩
  ·cases h
theorem aAI {e:Ent} (h:entB e = true):entOf (aG 32 (lineT e)) = e:=by
 obtain ⟨hn,hc⟩:=UG h
 have n32:∀ x ∈ e.nm,x ≠ 32:=fun x hx=>rH (UD hn x hx) (by decide)
 rcases hc with ⟨hk,hg⟩ | ⟨hk,hf⟩ | ⟨hk,hf⟩
 ·have f32:∀ x ∈ e.fm,x ≠ 32:=fun x hx=>rH (WH hg x hx) (by decide)
  unfold lineT
  rw [if_pos hk,cN (by decide),cN n32,bW f32]
  obtain ⟨k,a,b⟩:=e
  have hk:k = 1:=hk
  subst hk;rfl
 ·unfold lineT
  rw [if_neg (by omega),if_pos hk,cN (by decide),bW n32]
  obtain ⟨k,a,b⟩:=e
  have hk:k = 2:=hk
  have hf:b = []:=hf
  subst hk;subst hf;rfl
 ·unfold lineT
  rw [if_neg (by omega),if_neg (by omega),cN (by decide),bW n32]
  obtain ⟨k,a,b⟩:=e
  have hk:k = 3:=hk
  have hf:b = []:=hf
  subst hk;subst hf;rfl
theorem aA8 {e:Ent} (h:entB e = true):∀ x ∈ lineT e,x ≠ 10:=by
 obtain ⟨hn,hc⟩:=UG h
 have n10:∀ x ∈ e.nm,x ≠ 10:=fun x hx=>rH (UD hn x hx) (by decide)
 have k1:∀ x ∈ kLet,x ≠ 10:=by decide
 have k2:∀ x ∈ kDrop,x ≠ 10:=by decide
 have k3:∀ x ∈ eP,x ≠ 10:=by decide
 intro x hx
 unfold lineT at hx
 rcases hc with ⟨hk,hg⟩ | ⟨hk,hf⟩ | ⟨hk,hf⟩
 ·rw [if_pos hk] at hx
  rcases List.mem_append.1 hx with hx | hx
  ·exact k1 x hx
  rcases List.mem_cons.1 hx with rfl | hx
  ·decide
  rcases List.mem_append.1 hx with hx | hx
  ·exact n10 x hx
  rcases List.mem_cons.1 hx with rfl | hx
  ·decide
  ·exact rH (WH hg x hx) (by decide)
 ·rw [if_neg (by omega),if_pos hk] at hx
  rcases List.mem_append.1 hx with hx | hx
  ·exact k2 x hx
  rcases List.mem_cons.1 hx with rfl | hx
  ·decide
  ·exact n10 x hx
 ·rw [if_neg (by omega),if_neg (by omega)] at hx
  rcases List.mem_append.1 hx with hx | hx
  ·exact k3 x hx
  rcases List.mem_cons.1 hx with rfl | hx
  ·decide
  ·exact n10 x hx
theorem aAP {j:Jn} {e:Ent} (h:entB e = true):pStep j (lineT e ++ 32 :: decT (chkT j.chk (lineT e))) = addJ j e:=by
 have hd:∀ x ∈ decT (chkT j.chk (lineT e)),x ≠ 32:=fun x hx=>rH (YT _ x hx) (by decide)
 have h1:entOf (aG 32 (lineT e ++ 32 :: decT (chkT j.chk (lineT e)))).dropLast = e:=by
  rw [QZ hd,List.dropLast_concat,aAI h]
 unfold pStep
 rw [h1,h,decide_eq_true (by unfold lineC;simp)]
 rfl
inductive Reach:Jn → Prop
 | nil:Reach jn0
 | add {j j':Jn} {e:Ent}:Reach j → entB e = true → addJ j e = some j' → Reach j'
theorem sQ {j j':Jn} {e:Ent} (h:addJ j e = some j'):∃ L,stepI j.items e = some L ∧ j' = ⟨L,j.ents ++ [e],j.text ++ lineC j.chk e,j.hist ++ [L]⟩:=by
 unfold addJ at h
 cases hst:stepI j.items e with
 | none=>rw [hst] at h;cases h
 | some L=>rw [hst] at h;cases h;exact ⟨L,rfl,rfl⟩
theorem Reach.read {j:Jn} (h:Reach j):∀ (m:Nat) (t:Str),j.ents.length ≤ m → readJ m (j.text ++ t) jn0 = readJ (m - j.ents.length) t j:=by
 induction h with
 | nil=>intro m t _;rfl
 | @add j j' e hr he ha ih=>
  intro m t hm
  obtain ⟨L,hst,rfl⟩:=sQ ha
  have hm':j.ents.length + 1 ≤ m:=by simpa using hm
  show readJ m ((j.text ++ lineC j.chk e) ++ t) jn0 = _
  rw [List.append_assoc,ih m _ (by omega)]
  obtain ⟨k,hk⟩:∃ k,m - j.ents.length = k + 1:=⟨m - j.ents.length - 1,by omega⟩
  have hl:lineC j.chk e ++ t = (lineT e ++ 32 :: decT (chkT j.chk (lineT e))) ++ 10 :: t:=by unfold lineC;simp
  have h10:∀ x ∈ lineT e ++ 32 :: decT (chkT j.chk (lineT e)),x ≠ 10:=fun x hx=>by
   rcases List.mem_append.1 hx with hx | hx
   ·exact aA8 he x hx
   rcases List.mem_cons.1 hx with rfl | hx
   ·decide
   ·exact rH (YT _ x hx) (by decide)
  rw [hl,hk,zW h10,aAP he,ha]
  show readJ k t _ = readJ (m - (j.ents ++ [e]).length) t _
  rw [List.length_append,show m - (j.ents.length + [e].length) = k by simp only [List.length_cons,List.length_nil];omega]
theorem Reach.open {j:Jn} (h:Reach j) (hl:j.ents.length ≤ 60):openJ j.text = j:=by
 have:=h.read 60 [] hl
 rw [List.append_nil,wD (m:=60 - j.ents.length) (t:=[]) (fun x hx=>by cases hx)] at this
 exact this
theorem QB:∀ (m:Nat) (t:Str) {j:Jn},Reach j → Reach (readJ m t j)
 | 0,_,_,h=>h
 | m + 1,t,j,h=>by
  rw [readJ]
  split
  ·cases hp:pStep j (t.takeWhile fun c=>c != 10) with
   | none=>exact h
   | some j'=>
    refine QB m _ ?_
    unfold pStep at hp
    split at hp
    ·rename_i hb
     rw [Bool.and_eq_true] at hb
     exact .add h hb.1 hp
    ·cases hp
  ·exact h
theorem Q4 (t:Str):Reach (openJ t):=QB 60 t .nil
end Go.Vc

namespace Go.Vc
noncomputable def replJ:Jn → List Ent → Str × Int
 | j,[]=>(j.text,0)
 | j,e :: r=>if addC j e = 0 then (match addJ j e with | some j'=>replJ j' r | none=>([],5)) else ([],addC j e)
structure Fit (j:Jn):Prop where
 reach:Reach j
 en:j.ents.length ≤ 60
 tx:j.text.length ≤ 6000
theorem tM {j:Jn} {e:Ent} (h:addC j e = 0):entB e = true ∧ j.ents.length ≠ 60 ∧ (j.text ++ lineC j.chk e).length ≤ 6000 ∧ ∃ L,stepI j.items e = some L:=by
 unfold addC at h
 split at h
 ·cases h
 ·rename_i hb
  have hb:entB e = true:=by simpa using hb
  cases hst:stepI j.items e with
  | none=>rw [hst] at h;cases h
  | some L=>
   rw [hst] at h
   have h:(if j.ents.length = 60 ∨ 6000 < (j.text ++ lineC j.chk e).length then (3:Int) else 0) = 0:=h
   by_cases hn:j.ents.length = 60 ∨ 6000 < (j.text ++ lineC j.chk e).length
   ·rw [if_pos hn] at h;cases h
   ·exact ⟨hb,fun e=>hn (.inl e),by
     have h6:¬ 6000 < (j.text ++ lineC j.chk e).length:=fun e=>hn (.inr e)
     omega,L,rfl⟩
theorem Fit.add {j j':Jn} {e:Ent} (h:Fit j) (hc:addC j e = 0) (ha:addJ j e = some j'):Fit j':=by
 obtain ⟨hb,h60,h6,-⟩:=tM hc
 have hr:=Reach.add h.reach hb ha
 obtain ⟨L,hst,rfl⟩:=sQ ha
 have:=h.en
 exact ⟨hr,by show (j.ents ++ [e]).length ≤ 60;rw [List.length_append];simp only [List.length_cons,List.length_nil];omega,h6⟩
end Go.Vc
namespace Go.Proofs.YteifjhpddhppcaaGreatDoor
open Go.Vc
end Go.Proofs.YteifjhpddhppcaaGreatDoor

namespace Go.Vc
def cp1 (x:Itm):List Ent:=⟨1,x.nm,x.fm⟩ :: if x.cl = 1 then [⟨3,x.nm,[]⟩] else []
def cpE (L:List Itm):List Ent:=L.flatMap cp1
theorem V1 {L:List Itm} {k:Nat} (hk:k < L.length):cpE (L.take (k + 1)) = cpE (L.take k) ++ cp1 (gt L k):=by
 unfold cpE
 rw [List.take_succ_eq_append_getElem hk,List.flatMap_append,← gt_eq hk];simp
theorem OX:∀ (k n:Nat),n < 10 ^ (k + 1) → (decT n).length ≤ k + 1
 | k,n,h=>by
  by_cases h10:n < 10
  ·unfold decT;rw [Lib.decDigits,dif_pos h10];simp
  ·cases k with
   | zero=>rw [Nat.zero_add,Nat.pow_one] at h;omega
   | succ k=>
    have:=OX k (n / 10) (by rw [Nat.pow_succ] at h;omega)
    rw [OI h10,List.length_append]
    simp only [List.length_cons,List.length_nil];omega
theorem XS {c:Nat} (hc:c < 999983) (e:Ent):(lineC c e).length ≤ e.sz + 14:=by
 have h1:=BH e
 have h3:=lN hc (lineT e)
 have h2:=OX 5 (chkT c (lineT e)) (by omega)
 unfold lineC
 simp only [List.length_append,List.length_cons,List.length_nil]
 omega
theorem Y0 {j:Jn} {e:Ent} {L':List Itm} (hf:Fit j) (he:entB e = true) (hst:stepI j.items e = some L') (h60:j.ents.length < 60) (h6:(j.text ++ lineC j.chk e).length ≤ 6000):
  addC j e = 0 ∧ addJ j e = some ⟨L',j.ents ++ [e],j.text ++ lineC j.chk e,j.hist ++ [L']⟩ ∧ Fit ⟨L',j.ents ++ [e],j.text ++ lineC j.chk e,j.hist ++ [L']⟩:=by
 have hc:addC j e = 0:=by rw [xE j e he hst,if_neg (by omega)]
 have ha:addJ j e = some ⟨L',j.ents ++ [e],j.text ++ lineC j.chk e,j.hist ++ [L']⟩:=by unfold addJ;rw [hst];rfl
 exact ⟨hc,ha,hf.add hc ha⟩
theorem aCF {t:Str} (h:goodT t = true):t.length ≤ 300:=by
 unfold goodT at h
 rw [Bool.and_eq_true,decide_eq_true_eq] at h
 have:=(oO h.1).2.1
 omega
theorem YD {M:List Itm} {n:Str} {k:Nat} (hh:hasI M n = true) (hp:posI M n = k) (hc:fE (gt M k).fm = true):stepI M ⟨3,n,[]⟩ = some (M.set k ⟨(gt M k).nm,(gt M k).fm,1⟩):=by
 unfold stepI
 simp [hh,hp,hc]
theorem aAN {n:Str} (h:dI n = true):entB ⟨3,n,[]⟩ = true:=by
 unfold entB
 simp [h]
theorem O1 {t:Str} (h:dI t = true):t.length ≤ 8:=by
 unfold dI at h
 rw [Bool.and_eq_true,Bool.and_eq_true,decide_eq_true_eq,decide_eq_true_eq] at h
 exact h.2.2
end Go.Vc

namespace Go.Vc
section
variable {P:Program} {w:World}
end
end Go.Vc
namespace Go.Proofs.YteifjhpddhppcaaGreatDoor
open Go.Vc
theorem zD {v:Value} {w:World} {n:Nat} {xs:List Value} (hs:SlK 3 w v n xs):Ret Tryz.prog mF #[v] w (.int .i64 (n:Int)):=by
 apply BK;unfold mR
 exact iLenK hs ⟨rfl,Ext.refl _⟩
theorem fL {t:Str} (ht:t.length ≤ 4194304) {w:World} (hT:TabOk w):Cal Tryz.prog qA #[sv t] w fun r w'=>Ext w w' ∧ ∃ v,r = .tuple #[v,.int .i64 ((openJ t).ents.length:Int),.int .i64 ((openJ t).text.length:Int)] ∧ ItW w.heap.size w' v (openJ t).items ∧ (openJ t).items.length ≤ 12:=by
 apply HN;unfold qT
 refine iCall ((fR ht hT).mono ?_)
 rintro r w1 ⟨x1,b,vi,ve,rfl,hj,hen,htl⟩
 refine iNil (iFa (iLdB hj.blk rfl (iNil (iFa (iLdB hj.blk rfl ?_)))))
 refine iRetQ (fun w' hw'=>zD (hj.en.ext hw').sl) ?_
 refine iNil (iFa (iLdB hj.blk rfl (iLenT ?_)))
 intro w2 x2
 exact ⟨x1.trans x2,vi,rfl,hj.it.ext x2,hj.ji.len⟩
end Go.Proofs.YteifjhpddhppcaaGreatDoor

namespace Go.Vc
end Go.Vc
namespace Go.Proofs.YteifjhpddhppcaaGreatDoor
open Go.Vc
end Go.Proofs.YteifjhpddhppcaaGreatDoor

namespace Go.Vc
end Go.Vc
namespace Go.Proofs.YteifjhpddhppcaaGreatDoor
open Go.Vc
end Go.Proofs.YteifjhpddhppcaaGreatDoor

namespace Go.Vc
theorem PU {j j':Jn} {l:Str} (h:pStep j l = some j'):j'.text = j.text ++ (l ++ [10]) ∧ j'.ents.length = j.ents.length + 1:=by
 unfold pStep at h
 split at h
 ·rename_i hb
  rw [Bool.and_eq_true,decide_eq_true_eq] at hb
  obtain ⟨L,_,rfl⟩:=sQ h
  exact ⟨by show _ ++ lineC _ _ = _;rw [hb.2],by simp⟩
 ·cases h
theorem YY:∀ {t:Str},10 ∈ t → ∃ l r:Str,(∀ x ∈ l,x ≠ 10) ∧ t = l ++ 10 :: r
 | [],h=>by cases h
 | x :: t,h=>by
  by_cases e:x = 10
  ·subst e;exact ⟨[],t,fun x hx=>(by cases hx),rfl⟩
  ·have h:10 ∈ t:=by
    rcases List.mem_cons.1 h with h | h
    ·exact absurd h.symm e
    ·exact h
   obtain ⟨l,r,hl,rfl⟩:=YY h
   refine ⟨x :: l,r,fun y hy=>?_,rfl⟩
   rcases List.mem_cons.1 hy with rfl | hy
   ·exact e
   ·exact hl y hy
theorem M0:∀ (m:Nat) (t:Str) (j:Jn),∃ k,k ≤ t.length ∧ (readJ m t j).text = j.text ++ t.take k
 | 0,t,j=>⟨0,Nat.zero_le _,by rw [List.take_zero,List.append_nil];rfl⟩
 | m + 1,t,j=>by
  by_cases h10:10 ∈ t
  ·obtain ⟨l,r,hl,rfl⟩:=YY h10
   rw [zW hl]
   cases hp:pStep j l with
   | none=>exact ⟨0,Nat.zero_le _,by rw [List.take_zero,List.append_nil]⟩
   | some j'=>
    obtain ⟨k,hk,e⟩:=M0 m r j'
    refine ⟨l.length + 1 + k,by rw [List.length_append,List.length_cons];omega,?_⟩
    show (readJ m r j').text = _
    rw [e,(PU hp).1,List.append_assoc]
    congr 1
    rw [List.take_append,List.take_of_length_le (show l.length ≤ l.length + 1 + k by omega),show l.length + 1 + k - l.length = k + 1 by omega,List.take_succ_cons,List.append_assoc]
    rfl
  ·rw [wD fun x hx e=>h10 (e ▸ hx)]
   exact ⟨0,Nat.zero_le _,by rw [List.take_zero,List.append_nil]⟩
theorem TT (t:Str):t.take (openJ t).text.length = (openJ t).text ∧ (openJ t).text.length ≤ t.length:=by
 obtain ⟨k,hk,e⟩:=M0 60 t jn0
 have e:(openJ t).text = t.take k:=e
 have hl:(openJ t).text.length = k:=by rw [e,List.length_take];omega
 exact ⟨by rw [hl,e],by omega⟩
theorem TN:∀ (m:Nat) (t:Str) (j:Jn),(readJ m t j).ents.length ≤ j.ents.length + m
 | 0,_,_=>Nat.le_refl _
 | m + 1,t,j=>by
  rw [readJ]
  split
  ·cases hp:pStep j (t.takeWhile fun c=>c != 10) with
   | none=>simp
   | some j'=>
    have h1:=TN m (t.dropWhile fun c=>c != 10).tail j'
    have h2:=(PU hp).2
    show (readJ m _ j').ents.length ≤ _
    omega
  ·omega
theorem aBI (t:Str):(openJ t).ents.length ≤ 60:=by
 have:=TN 60 t jn0
 simpa [openJ,jn0] using this
theorem OB {j:Jn} (h:Reach j):JI j.items:=by
 induction h with
 | nil=>exact JI.nil
 | @add j j' e hr he ha ih=>
  obtain ⟨L,hst,rfl⟩:=sQ ha
  exact wQ ih he hst
end Go.Vc

namespace Go.Proofs.YteifjhpddhppcaaGreatDoor
open Go.Vc
theorem PJ {t:Str} {e:Ent}:(appT (openJ t) e).length ≤ t.length + (e.sz + 14):=by
 have h:=(TT t).2
 have h2:=XS (c:=(openJ t).chk) (lN (by omega) _) e
 unfold appT
 split
 ·rw [List.length_append];omega
 ·simp
theorem O3 {e:TypeId} (hneN:aE ≠ e) {w0:World} {vc:Value} {bs:List Nat} (hc:SlB w0 vc bs) {b:Nat} {w:World} (hS:Vc.Src e w0 vc b w):
  Drw Tryz.prog EJ #[.pointer (some ⟨b,0,none⟩)] e w0 vc b w fun r _=>∃ t:Str,r = sv t ∧ t.length ≤ 4600:=by
 apply RU;unfold EG
 refine iCall ((aD hc hS 10).mono ?_)
 rintro _ w1 ⟨⟨n,rfl,hn,_⟩,hS1,hch1⟩
 refine iLp (fun s:Str × Nat=>[sv s.1,.int .i64 (s.2:Int)]) (fun s w'=>s.1.length + 320 * s.2 ≤ 3200 ∧ s.2 ≤ 10 ∧ Vc.Src e w0 vc b w' ∧ Ch (fun c=>c = b) w w') (fun s=>s.2) ([],n) rfl ⟨by show 0 + 320 * n ≤ 3200;have:=hn (by omega);omega,by show n ≤ 10;have:=hn (by omega);omega,hS1,hch1⟩ ?_
 rintro ⟨t,k⟩ w3 Kn ⟨ht,hk,hS3,hC3⟩ hKn
 have hk:k ≤ 10:=hk
 have ht:t.length + 320 * k ≤ 3200:=ht
 intro _
 simp only [gx]
 refine iLt (iCndP (fun h4=>?_) (fun h4=>?_))
 ·refine iCall ((OM hneN hc hS3).mono ?_)
  rintro _ w4 ⟨⟨en,rfl,hsz⟩,hS4,hch4⟩
  have hC4:=aA hC3 hch4
  refine iRet (jT (by omega) (by omega) w4) fun w5 x5=>iE20 (iE21 ?_)
  have e1:(k:Int) - 1 = ((k - 1:Nat):Int):=by omega
  refine iEq (iCndP (fun _=>?_) (fun _=>?_))
  ·refine iSub (by omega) ?_
   rw [e1]
   exact hKn (_,k - 1) _ ⟨by have:=PJ (t:=t) (e:=en);show (appT (openJ t) en).length + 320 * (k - 1) ≤ 3200;omega,by show k - 1 ≤ 10;omega,hS4.later x5,aM hC4 x5⟩ (by show k - 1 < k;omega)
  ·refine iSub (by omega) ?_
   rw [e1]
   exact hKn (t,k - 1) _ ⟨by show t.length + 320 * (k - 1) ≤ 3200;omega,by show k - 1 ≤ 10;omega,hS4.later x5,aM hC4 x5⟩ (by show k - 1 < k;omega)
 ·refine iCall ((aD hc hS3 30).mono ?_)
  rintro _ w6 ⟨⟨y,rfl,_,_⟩,hS6,hch6⟩
  have hC6:=aA hC3 hch6
  refine iEq (iCndP (fun _=>?_) (fun _=>⟨⟨t,rfl,by omega⟩,hS6,hC6⟩))
  refine iLp (fun s:Str × Nat=>[sv s.1,.int .i64 (s.2:Int)]) (fun s w'=>s.2 ≤ 70 ∧ s.1.length ≤ 3200 + 20 * s.2 ∧ Ext w6 w') (fun s=>70 - s.2) (t,0) rfl ⟨Nat.zero_le _,by show t.length ≤ 3200 + 20 * 0;omega,Ext.refl _⟩ ?_
  rintro ⟨t2,j⟩ w8 Kn2 ⟨hj70,ht2,x8⟩ hKn2
  have hj70:j ≤ 70:=hj70
  have ht2:t2.length ≤ 3200 + 20 * j:=ht2
  intro _
  simp only [gx]
  refine iLt (iCndP (fun h9=>?_) (fun h9=>⟨⟨t2,rfl,by omega⟩,hS6.later x8,aM hC6 x8⟩))
  refine iRem (by omega) (iRem (by omega) ?_)
  refine iAdd (by omega) ?_
  rw [show (j:Int) % 13 = ((j % 13:Nat):Int) by omega,show ((j % 13:Nat):Int) + 1 = ((j % 13 + 1:Nat):Int) by omega]
  have hm:j % 13 < 13:=Nat.mod_lt _ (by decide)
  refine CW (l:=[97,98,99,100,101,102,103,104,105,106,107,108,109]) (by omega) (by show j % 13 + 1 ≤ 13;omega) ?_
  refine iCat (a:=[113]) (by simp only [List.length_take,List.length_drop,List.length_cons,List.length_nil];omega) ?_
  have hnl:(([113]:Str) ++ (([97,98,99,100,101,102,103,104,105,106,107,108,109]:Str).drop (j % 13)).take (j % 13 + 1 - j % 13)).length ≤ 2:=by
   simp only [List.length_append,List.length_take,List.length_drop,List.length_cons,List.length_nil];omega
  generalize ([113]:Str) ++ (([97,98,99,100,101,102,103,104,105,106,107,108,109]:Str).drop (j % 13)).take (j % 13 + 1 - j % 13) = nm at *
  refine bB (cs:=#[.int .i64 1,sv nm,sv [112]]) (by simp [Instr.fill,Value.cells]) ?_
  refine iRet (jT (t:=t2) (e:=⟨1,nm,[112]⟩) (by omega) (by show nm.length + 1 ≤ _;omega) w8) fun w9 x9=>iE20 (iE21 ?_)
  refine iEq (iCndP (fun _=>?_) (fun _=>?_))
  ·refine iAdd (by omega) ?_
   exact hKn2 (_,j + 1) _ ⟨by show j + 1 ≤ 70;omega,by have:=PJ (t:=t2) (e:=⟨1,nm,[112]⟩);have e2:(⟨1,nm,[112]⟩:Ent).sz = nm.length + 1:=rfl;show (appT (openJ t2) ⟨1,nm,[112]⟩).length ≤ 3200 + 20 * (j + 1);omega,x8.trans x9⟩ (by show 70 - (j + 1) < 70 - j;omega)
  ·refine iAdd (by omega) ?_
   exact hKn2 (t2,j + 1) _ ⟨by show j + 1 ≤ 70;omega,by show t2.length ≤ 3200 + 20 * (j + 1);omega,x8.trans x9⟩ (by show 70 - (j + 1) < 70 - j;omega)
theorem AW {e:TypeId} (hneN:aE ≠ e) {w0:World} {vc:Value} {bs:List Nat} (hc:SlB w0 vc bs) {b:Nat} {w:World} (hS:Vc.Src e w0 vc b w):
  Drw Tryz.prog CD #[.pointer (some ⟨b,0,none⟩)] e w0 vc b w fun r _=>∃ t:Str,r = sv t ∧ t.length ≤ 4610:=by
 apply R4;unfold CL
 refine iCall ((O3 hneN hc hS).mono ?_)
 rintro _ w1 ⟨⟨t,rfl,ht⟩,hS1,hch1⟩
 refine iCall ((aD hc hS1 6).mono ?_)
 rintro _ w2 ⟨⟨x,rfl,_,_⟩,hS2,hch2⟩
 have hC2:=aA hch1 hch2
 refine iEq ?_
 refine iJnX (fun xs w'=>(∃ t,xs = [.bool t]) ∧ w' = w2) (fun J hJ=>?_) ?_
 ·refine iCndP (fun _=>hJ _ _ ⟨⟨true,rfl⟩,rfl⟩) (fun _=>?_)
  exact iEq (hJ _ _ ⟨⟨_,rfl⟩,rfl⟩)
 rintro _ _ ⟨⟨q,rfl⟩,rfl⟩
 intro _
 cases q with
 | true=>
  refine iCndT rfl ?_
  refine iLenT (iAdd (by omega) ?_)
  refine iCall ((aD hc hS2 _).mono ?_)
  rintro _ w5 ⟨⟨y,rfl,hy,_⟩,hS5,hch5⟩
  have hy:=hy (by omega)
  refine iTxTo (by omega) ?_
  exact ⟨⟨_,rfl,by rw [List.length_take];omega⟩,hS5,aA hC2 hch5⟩
 | false=>
  refine iCndF rfl ?_
  refine iEq (iCndP (fun _=>?_) (fun _=>⟨⟨t,rfl,by omega⟩,hS2,hC2⟩))
  refine iCall ((LM hc (t:=t) (by omega) hS2).mono ?_)
  rintro _ w6 ⟨⟨s,rfl,hs⟩,hS6,hch6⟩
  exact ⟨⟨s,rfl,by omega⟩,hS6,aA hC2 hch6⟩
end Go.Proofs.YteifjhpddhppcaaGreatDoor

namespace Go.Vc
structure Keep (D:Nat) (w:World) (b:Nat) (vi ve:Value):Prop where
 lt:D < w.heap.size
 nb:¬ D = b
 ni:¬ vi.ownBlock = some D
 ne:¬ ve.ownBlock = some D
theorem Keep.ext {D b:Nat} {w w':World} {vi ve:Value} (h:Keep D w b vi ve) (x:Ext w w'):w'.heap[D]? = w.heap[D]? ∧ Keep D w' b vi ve:=
 ⟨Go.RowKit.Below.block x D h.lt,Nat.lt_of_lt_of_le h.lt x.size,h.nb,h.ni,h.ne⟩
end Go.Vc
namespace Go.Proofs.YteifjhpddhppcaaGreatDoor
open Go.Vc
theorem B3 {w0 w:World} {b:Nat} {vi ve:Value} {j:Jn} {e:Ent} (h0:Ext w0 w) (hj:JnW w0 w b vi ve j) (he:entB e = true) (hl:e.sz ≤ 4294967296) (hn:j.ents.length ≤ 1048576) (ht:j.text.length ≤ 68719476736) (hT:TabOk w0):
  Cal Tryz.prog i6 #[.pointer (some ⟨b,0,none⟩),e.val] w fun r w'=>Ext w0 w' ∧ match addJ j e with
   | some j'=>r = .bool true ∧ ∃ vi' ve',JnW w0 w' b vi' ve' j' ∧ ∀ D,Keep D w b vi ve → w'.heap[D]? = w.heap[D]? ∧ Keep D w' b vi' ve'
   | none=>r = .bool false ∧ JnW w0 w' b vi ve j ∧ ∀ D,Keep D w b vi ve → w'.heap[D]? = w.heap[D]? ∧ Keep D w' b vi ve:=by
 apply pA;unfold iX
 have hchk:=iU j
 have hLl:=hj.ji.len
 refine iNew3 fun q w1 hq x1 hQ=>?_
 have hj1:=hj.ext x1
 refine iNil (iFa (iLdB hj1.blk rfl ?_))
 refine iLd3 hQ ?_
 intro w2 x2
 have X2:=x1.trans x2
 have hj2:=hj1.ext x2
 have hQ2:=hQ.ext x2
 refine iCall ((AP (h0.trans X2) hj2.it hj.ji).mono ?_)
 rintro r w3 ⟨X03,v',hm⟩
 cases hst:stepI j.items e with
 | none=>
  rw [hst] at hm
  obtain ⟨rfl,x3⟩:=hm
  have hadd:addJ j e = none:=by unfold addJ;rw [hst];rfl
  rw [hadd]
  refine iE20 (iE21 ?_)
  intro w4 x4
  exact iNot (iCndT rfl ⟨X03.trans x4,rfl,(hj2.ext x3).ext x4,fun D hD=>hD.ext ((X2.trans x3).trans x4)⟩)
 | some L'=>
  rw [hst] at hm
  obtain ⟨rfl,hi3,hc3,ho3⟩:=hm
  have hadd:addJ j e = some ⟨L',j.ents ++ [e],j.text ++ lineC j.chk e,j.hist ++ [L']⟩:=by unfold addJ;rw [hst];rfl
  rw [hadd]
  have hJ':=wQ hj.ji he hst
  refine iE20 (iE21 ?_)
  intro w4 x4
  refine iNot (iCndF rfl ?_)
  -- what stands behind 'entered'
  have hB4:Blk 58 w4 b [vi,ve,sv j.text,.int .i64 (j.chk:Int)]:=(hj2.blk.ch hc3 (V2 hj2)).ext x4
  have hQ4:Blk bC w4 q e.cs:=(hQ2.ch hc3 (hj2.it.ne_blk hQ2 (by decide))).ext x4
  have hE4:EnW w0.heap.size w4 ve j.ents:=(hj2.en.ch hc3 fun c hc hd=>hj2.en.ne_own hj2.it (by decide) c hc hd).ext x4
  have hI4:=hi3.ext x4
  have X04:=X03.trans x4
  refine iLd3 hQ4 ?_
  refine iRet (dO (e:=e) hB4 hchk (by omega) (hT.ext X04)) fun w5 x5=>?_
  have hB5:=hB4.ext x5
  refine iNil (iFa (iLdB hB5 rfl ?_))
  refine iLd3 (hQ4.ext x5) ?_
  intro w6 x6
  refine iBs31 fun q7 w7 hq7 x7 hB7=>⟨x7,?_⟩
  intro w8 x8
  have X48:=((x5.trans x6).trans x7).trans x8
  have X08:=X04.trans X48
  have hE8:EnW w0.heap.size w8 ve j.ents:=hE4.ext X48
  refine iAppK nA m8 rfl (by omega) hE8 (OwK.ofBlk (k:=3) (lo:=0) (n:=1) (hB7.ext x8) (Nat.zero_le _) rfl (by omega)).sl (by intro u hu;simp at hu;rcases hu with rfl | rfl | rfl <;> rfl) (by omega) (by omega) X08.size fun v9 w9 ho9 hg9 hb9=>?_
  have hc9:Ch (fun c=>ve.ownBlock = some c) w8 w9:=d9 hg9 fun c hc=>hc
  have X09:Ext w0 w9:=X08.thenCh hc9 fun c hc=>(hE8.blk c hc).1
  have hB8:=hB4.ext X48
  have hB9:Blk 58 w9 b [vi,ve,sv j.text,.int .i64 (j.chk:Int)]:=hB8.ch hc9 (hE8.ne_blk hB8 (by decide))
  have hI9:ItW w0.heap.size w9 v' L':=(hI4.ext X48).ch hc9 fun c hc hd=>(hI4.ext X48).ne_own hE8 (by decide) c hc hd
  have hblo:=hj.lo
  refine iNil (iFa ?_)
  intro w10 x10
  refine iStU (hB9.ext x10) (by simp) hi3.cell fun w11 hB11 hu11=>?_
  refine iNil (iFa ?_)
  intro w12 x12
  have ho9':OwK 3 w0.heap.size bC w9 v9 (j.ents.length + 1) (cU j.ents ++ e.cs):=ho9
  refine iStU (hB11.ext x12) (by simp) ho9'.cell fun w13 hB13 hu13=>?_
  intro w14 x14
  have hB14:=hB13.ext x14
  refine iNil (iFa (iLdB hB14 rfl ?_))
  have hlc:=tG hchk e
  refine iCat (by omega) ?_
  refine iNil (iFa ?_)
  refine iStU hB14 (by simp) rfl fun w15 hB15 hu15=>?_
  refine iNil (iFa (iLdB hB15 rfl ?_))
  refine iRet (oU hchk (by omega) w15) fun w16 x16=>?_
  refine iNil (iFa ?_)
  refine iStU (hB15.ext x16) (by simp) rfl fun w17 hB17 hu17=>?_
  -- only b turned since w9
  have hSb:∀ (c:Nat),c = b → c = b:=fun _ h=>h
  have C1:Ch (fun c=>c = b) w9 w11:=x10.ch.trans (hu11.ch (S:=fun c=>c = b) rfl) fun _ h=>.inl h
  have C2:Ch (fun c=>c = b) w9 w13:=(C1.trans (x12.ch (S:=fun _=>False)) fun _ h=>h.elim).trans (hu13.ch (S:=fun c=>c = b) rfl) fun _ h=>.inl h
  have C3:Ch (fun c=>c = b) w9 w15:=(C2.trans (x14.ch (S:=fun _=>False)) fun _ h=>h.elim).trans (hu15.ch (S:=fun c=>c = b) rfl) fun _ h=>.inl h
  have C4:Ch (fun c=>c = b) w9 w17:=(C3.trans (x16.ch (S:=fun _=>False)) fun _ h=>h.elim).trans (hu17.ch (S:=fun c=>c = b) rfl) fun _ h=>.inl h
  have X017:Ext w0 w17:=X09.thenCh C4 fun c hc=>by omega
  refine ⟨X017,rfl,v',v9,⟨hblo,?_,hI9.ch C4 fun c hc hd=>?_,?_,hJ'⟩,fun D hD=>?_⟩
  ·show Blk _ w17 b [v',v9,sv (j.text ++ lineC j.chk e),.int .i64 (chkT 11 (j.text ++ lineC j.chk e):Int)]
   rw [YM]
   exact hB17
  ·subst hd
   exact hI9.ne_blk hB9 (by decide) hc
  ·show OwK 3 _ _ w17 v9 (j.ents ++ [e]).length (cU (j.ents ++ [e]))
   rw [List.length_append,wC]
   refine OwK.ch (n:=j.ents.length + 1) ho9' C4 fun c hc hd=>?_
   subst hd
   exact ho9'.ne_blk hB9 (by decide) hc
  ·obtain ⟨d1,d2,d3,d4⟩:=hD
   have s2:=X2.size
   have s3:=hc3.size
   have s4:=x4.size
   have s48:=X48.size
   have s9:=hc9.size
   have k3:w3.heap[D]? = w.heap[D]?:=(hc3.block D (by omega) d3).trans (Go.RowKit.Below.block X2 D d1)
   have k8:w8.heap[D]? = w.heap[D]?:=(Go.RowKit.Below.block X48 D (by omega)).trans ((Go.RowKit.Below.block x4 D (by omega)).trans k3)
   have k9:w9.heap[D]? = w.heap[D]?:=(hc9.block D (by omega) d4).trans k8
   have k17:w17.heap[D]? = w.heap[D]?:=(C4.block D (by omega) d2).trans k9
   have s17:=C4.size
   refine ⟨k17,by omega,d2,fun hd=>?_,fun hd=>?_⟩
   ·rcases ho3 with e | ⟨c,e,hcc⟩
    ·rw [e] at hd;exact d3 hd
    ·rw [e] at hd
     injection hd with hd
     omega
   ·rcases hb9 with e | ⟨c,e,hcc⟩
    ·rw [e] at hd;exact d4 hd
    ·rw [e] at hd
     injection hd with hd
     omega
theorem FSz {w0 w:World} {b:Nat} {vi ve:Value} {j:Jn} {e:Ent} (h0:Ext w0 w) (hj:JnW w0 w b vi ve j) (hl:e.sz ≤ 4294967296) (hn:j.ents.length ≤ 1048576) (ht:j.text.length ≤ 68719476736) (hT:TabOk w0):
  Cal Tryz.prog kX #[.pointer (some ⟨b,0,none⟩),e.val] w fun r w'=>Ext w0 w' ∧ r = .int .i64 (addC j e) ∧ (addC j e = 0 → ∃ j' vi' ve',addJ j e = some j' ∧ JnW w0 w' b vi' ve' j' ∧ ∀ D,Keep D w b vi ve → w'.heap[D]? = w.heap[D]? ∧ Keep D w' b vi' ve'):=by
 apply tI;unfold kG
 refine iNew3 fun q w1 hq x1 hQ=>?_
 refine iLd3 hQ ?_
 refine iRet (pJ (e:=e) (by omega) w1) fun w2 x2=>?_
 have X2:=x1.trans x2
 have hj2:=hj.ext X2
 have hQ2:=hQ.ext x2
 refine iNot (iCnd (fun hb=>?_) (fun hb=>?_))
 ·rw [Bool.not_eq_true'] at hb
  have hc:addC j e = 1:=by unfold addC;rw [if_pos hb]
  rw [hc]
  exact ⟨h0.trans X2,rfl,fun h=>by cases h⟩
 rw [Bool.not_eq_false'] at hb
 have keepB:∀ {w':World} {q:Nat} {t:TypeId} {cs:List Value},Blk t w2 q cs → Ch (fun _=>False) w2 w' → Blk t w' q cs:=fun h hc=>h.ch hc fun h=>h
 refine ⟨fun _=>False,?_⟩
 refine iNil (iFa (iLdB hj2.blk rfl ⟨fun w4 hc=>iLdB (keepB hj2.blk hc) rfl rfl,?_⟩))
 refine iLenK hj2.en.sl ?_
 refine iNil (iFa (iLdB hj2.blk rfl ⟨fun w5 hc=>iLdB (keepB hj2.blk hc) rfl rfl,?_⟩))
 refine iLenT ?_
 refine iLd3 hQ2 ⟨fun w6 hc=>iLd3 (keepB hQ2 hc) rfl,?_⟩
 intro w7 x7
 have hj7:=hj2.ext x7
 refine iRet (dO (e:=e) hj7.blk (iU j) (by omega) (hT.ext ((h0.trans X2).trans x7))) fun w8 x8=>⟨x8.ch,?_⟩
 have hlc:=tG (iU j) e
 refine iLenT (iAdd (by omega) ?_)
 intro w9 x9
 have X9:=((x7.trans x8).trans x9)
 refine iLd3 (hQ2.ext X9) ?_
 refine iCall ((B3 (e:=e) ((h0.trans X2).trans X9) (hj2.ext X9) hb hl hn ht hT).mono ?_)
 rintro r w10 ⟨X10,hm⟩
 cases hst:stepI j.items e with
 | none=>
  have had:addJ j e = none:=by unfold addJ;rw [hst];rfl
  have hc:addC j e = 5:=by unfold addC;rw [if_neg (by rw [hb];decide),hst]
  rw [had] at hm
  obtain ⟨rfl,-⟩:=hm
  rw [hc]
  exact iNot (iCndT rfl ⟨X10,rfl,fun h=>by cases h⟩)
 | some L'=>
  have had:addJ j e = some ⟨L',j.ents ++ [e],j.text ++ lineC j.chk e,j.hist ++ [L']⟩:=by unfold addJ;rw [hst];rfl
  have hc:=xE j e hb hst
  rw [had] at hm
  obtain ⟨rfl,vi',ve',hj',hK⟩:=hm
  refine iNot (iCndF rfl ?_)
  refine iJnB (decide (j.ents.length = 60 ∨ 6000 < (j.text ++ lineC j.chk e).length)) w10 (fun J hJ=>?_) (fun w12 x12=>?_)
  ·rw [List.length_append] at hJ
   refine iEq (iCndP (fun h=>?_) (fun h=>?_))
   ·rw [decide_eq_true (show j.ents.length = 60 ∨ 6000 < j.text.length + (lineC j.chk e).length from .inl (by omega))] at hJ
    exact hJ _ (Ext.refl _)
   ·refine iLt ?_
    rw [show decide ((6000:Int) < (j.text.length:Int) + ((lineC j.chk e).length:Int)) = decide (j.ents.length = 60 ∨ 6000 < j.text.length + (lineC j.chk e).length) from decide_eq_decide.2 (by omega)]
    exact hJ _ (Ext.refl _)
  intro _
  simp only [gx]
  refine iCndP (fun h=>?_) (fun h=>?_)
  ·rw [hc,if_pos h]
   exact ⟨X10.trans x12,rfl,fun h=>by cases h⟩
  ·rw [hc,if_neg h]
   exact ⟨X10.trans x12,rfl,fun _=>⟨_,vi',ve',had,hj'.ext x12,fun D hD=>by
    obtain ⟨e1,k1⟩:=hD.ext (X2.trans X9)
    obtain ⟨e2,k2⟩:=hK D k1
    obtain ⟨e3,k3⟩:=k2.ext x12
    exact ⟨e3.trans (e2.trans e1),k3⟩⟩⟩
end Go.Proofs.YteifjhpddhppcaaGreatDoor

namespace Go.Vc
structure Fit2 (j:Jn):Prop where
 reach:Reach j
 en:j.ents.length ≤ 60
 tx:j.text.length ≤ 4194304
theorem Fit2.add {j j':Jn} {e:Ent} (h:Fit2 j) (hc:addC j e = 0) (ha:addJ j e = some j'):Fit2 j':=by
 obtain ⟨hb,h60,h6,-⟩:=tM hc
 have hr:=Reach.add h.reach hb ha
 obtain ⟨L,hst,rfl⟩:=sQ ha
 have:=h.en
 exact ⟨hr,by show (j.ents ++ [e]).length ≤ 60;rw [List.length_append];simp only [List.length_cons,List.length_nil];omega,Nat.le_trans h6 (by omega)⟩
theorem ZU {L:List Itm}:(cpE L).length ≤ 2 * L.length:=by
 induction L with
 | nil=>exact Nat.zero_le _
 | cons x L ih=>
  have:cpE (x :: L) = cp1 x ++ cpE L:=by simp [cpE]
  rw [this,List.length_append,List.length_cons]
  have:(cp1 x).length ≤ 2:=by unfold cp1;split <;> simp
  omega
end Go.Vc
namespace Go.Proofs.YteifjhpddhppcaaGreatDoor
open Go.Vc
theorem B2 {w0 w:World} {b lo:Nat} {vi ve v:Value} {j0:Jn} {L:List Ent} (h0:Ext w0 w) (hj:JnW w0 w b vi ve j0) (hf:Fit2 j0) (hs:EnW lo w v L) (hk:∀ D,v.ownBlock = some D → Keep D w b vi ve) (hsz:∀ e ∈ L,e.sz ≤ 4294967296) (hT:TabOk w0):
  Cal Tryz.prog oV #[.pointer (some ⟨b,0,none⟩),v] w fun r w'=>Ext w0 w' ∧ r = .tuple #[sv (replJ j0 L).1,.int .i64 (replJ j0 L).2]:=by
 apply FC;unfold oP
 refine iLenK hs.sl ?_
 have hln:=hs.sl.len
 refine iLp (fun s:Nat × Jn=>[.int .i64 (s.1:Int)]) (fun s w'=>s.1 ≤ L.length ∧ Ext w0 w' ∧ (∃ vi ve,JnW w0 w' b vi ve s.2 ∧ ∀ D,v.ownBlock = some D → w'.heap[D]? = w.heap[D]? ∧ Keep D w' b vi ve) ∧ Fit2 s.2 ∧ replJ s.2 (L.drop s.1) = replJ j0 L) (fun s=>L.length - s.1) (0,j0) rfl ⟨Nat.zero_le _,h0,⟨vi,ve,hj,fun D hD=>⟨rfl,hk D hD⟩⟩,hf,rfl⟩ ?_
 rintro ⟨i,j⟩ w2 Kn ⟨hi,X2,⟨vi,ve,hj,hK⟩,hf,hr⟩ hKn
 have hi:i ≤ L.length:=hi
 have hj:JnW w0 w2 b vi ve j:=hj
 have hf:Fit2 j:=hf
 have hr:replJ j (L.drop i) = replJ j0 L:=hr
 intro _
 simp only [gx]
 refine iLt (iCndP (fun hlt=>?_) (fun hlt=>?_))
 ·have hil:i < L.length:=by omega
  have hd:L.drop i = gt L i :: L.drop (i + 1):=by rw [List.drop_eq_getElem_cons hil,gt_eq hil]
  rw [hd,replJ] at hr
  have hs2:EnW lo w2 v L:=OwK.same hs fun c hc=>(hK c hc).1
  refine iEnt hs2.sl rfl hil ?_
  refine iNew3 fun q w3 hq x3 hB3=>?_
  refine iSt3 hB3 rfl rfl rfl rfl fun w4 hB4 hc4=>?_
  have x24:Ext w2 w4:=x3.thenCh hc4 fun c hc=>by omega
  refine iLd3 hB4 ?_
  have h1:=hf.en
  have h2:=hf.tx
  refine iCall ((FSz (e:=gt L i) (X2.trans x24) (hj.ext x24) (hsz _ (by rw [gt_eq hil];exact List.getElem_mem _)) (show j.ents.length ≤ 1048576 by omega) (show j.text.length ≤ 68719476736 by omega) hT).mono ?_)
  rintro r w5 ⟨X5,rfl,hz⟩
  refine iNe (iCndP (fun hne=>?_) (fun hne=>?_))
  ·rw [if_neg hne] at hr
   refine ⟨X5,?_⟩
   rw [← hr]
  ·have hc:addC j (gt L i) = 0:=Classical.not_not.1 hne
   rw [if_pos hc] at hr
   obtain ⟨j',vi',ve',ha,hj',hK'⟩:=hz hc
   rw [ha] at hr
   refine iAdd (by omega) ?_
   exact hKn (i + 1,j') _ ⟨hil,X5,⟨vi',ve',hj',fun D hD=>by
    obtain ⟨e1,k1⟩:=hK D hD
    obtain ⟨e2,k2⟩:=k1.ext x24
    obtain ⟨e3,k3⟩:=hK' D k2
    exact ⟨e3.trans (e2.trans e1),k3⟩⟩,hf.add hc ha,hr⟩ (by show L.length - (i + 1) < L.length - i;omega)
 ·have hd:L.drop i = []:=List.drop_of_length_le (by omega)
  rw [hd,replJ] at hr
  refine iNil (iFa (iLdB hj.blk rfl ⟨X2,?_⟩))
  rw [← hr]
theorem IK {w:World} {v:Value} {L:List Ent} {j0:Jn} (hf:Fit2 j0) (hs:SlK 3 w v L.length (cU L)) (hsz:∀ e ∈ L,e.sz ≤ 4294967296):Ret Tryz.prog xF #[sv j0.text,v] w (.tuple #[sv (replJ j0 L).1,.int .i64 (replJ j0 L).2]):=by
 apply N4;unfold xK
 have hln:=hs.len
 refine iLp (fun s:Nat × Jn=>[sv s.2.text,.int .i64 (s.1:Int)]) (fun s w'=>s.1 ≤ L.length ∧ Ext w w' ∧ Fit2 s.2 ∧ replJ s.2 (L.drop s.1) = replJ j0 L) (fun s=>L.length - s.1) (0,j0) rfl ⟨Nat.zero_le _,Ext.refl _,hf,rfl⟩ ?_
 rintro ⟨i,j⟩ w2 Kn ⟨hi,X2,hf,hr⟩ hKn
 have hi:i ≤ L.length:=hi
 have hf:Fit2 j:=hf
 have hr:replJ j (L.drop i) = replJ j0 L:=hr
 intro _
 simp only [gx]
 refine iLenK (hs.ext X2) (iLt (iCndP (fun hlt=>?_) (fun hlt=>?_)))
 ·have hil:i < L.length:=by omega
  have hd:L.drop i = gt L i :: L.drop (i + 1):=by rw [List.drop_eq_getElem_cons hil,gt_eq hil]
  rw [hd,replJ] at hr
  refine iEnt (hs.ext X2) rfl hil ?_
  have h2:=hf.tx
  refine iRet (jT (t:=j.text) (e:=gt L i) (by omega) (hsz _ (by rw [gt_eq hil];exact List.getElem_mem _)) w2) fun w3 x3=>iE20 (iE21 ?_)
  rw [hf.reach.open hf.en]
  refine iNe (iCndP (fun hne=>?_) (fun hne=>?_))
  ·rw [if_neg hne] at hr
   refine ⟨?_,X2.trans x3⟩
   rw [← hr]
  ·have hc:addC j (gt L i) = 0:=Classical.not_not.1 hne
   rw [if_pos hc] at hr
   obtain ⟨hb,-,-,L',hst⟩:=tM hc
   have ha:addJ j (gt L i) = some ⟨L',j.ents ++ [gt L i],j.text ++ lineC j.chk (gt L i),j.hist ++ [L']⟩:=by unfold addJ;rw [hst];rfl
   rw [ha] at hr
   refine iAdd (by omega) ?_
   have ht:appT j (gt L i) = j.text ++ lineC j.chk (gt L i):=by unfold appT;rw [if_pos hc]
   rw [ht]
   exact hKn (i + 1,⟨L',j.ents ++ [gt L i],j.text ++ lineC j.chk (gt L i),j.hist ++ [L']⟩) _ ⟨hil,X2.trans x3,hf.add hc ha,hr⟩ (by show L.length - (i + 1) < L.length - i;omega)
 ·have hd:L.drop i = []:=List.drop_of_length_le (by omega)
  rw [hd,replJ] at hr
  refine ⟨?_,X2⟩
  rw [← hr]
theorem iApE {lo q:Nat} {w:World} {u:Value} {E:List Ent} {e:Ent} {K:Value → World → Prop} (hlo:lo ≤ w.heap.size) (ho:EnW lo w u E) (hB:Blk bC w q e.cs) (hE:E.length ≤ 1048576) (h:∀ u' w',EnW lo w' u' (E ++ [e]) → Ch (fun c=>u.ownBlock = some c) w w' → K u' w'):
  xOp Tryz.prog (Builtin.append_ #[m6,m6] m6 #[u,.slice (some ⟨q,0,none⟩) 1 1]) w K:=by
 refine iAppK nA m8 rfl (by omega) ho (OwK.ofBlk (k:=3) (lo:=0) (n:=1) hB (Nat.zero_le _) rfl (by omega)).sl (fun u hu=>by simp [Ent.cs] at hu;rcases hu with rfl | rfl | rfl <;> rfl) (by omega) (by omega) hlo fun v' w' h' hg _=>h v' w' ?_ (d9 hg fun c hc=>hc)
 show OwK 3 lo _ w' v' (E ++ [e]).length (cU (E ++ [e]))
 rw [List.length_append,wC]
 exact h'
theorem BS {v:Value} {L:List Itm} {w:World} (hs:SlIt w v L) (hL:L.length ≤ 12):Cal Tryz.prog nL #[v] w fun r w'=>Ext w w' ∧ EnW w.heap.size w' r (cpE L):=by
 apply D2;unfold nW
 refine iLenK hs ?_
 refine iLp (fun s:Value × Nat=>[s.1,.int .i64 (s.2:Int)]) (fun s w'=>s.2 ≤ L.length ∧ Ext w w' ∧ EnW w.heap.size w' s.1 (cpE (L.take s.2))) (fun s=>L.length - s.2) (.slice none 0 0,0) rfl ⟨Nat.zero_le _,Ext.refl _,OwK.nil _ _ _ _⟩ ?_
 rintro ⟨u,k⟩ w2 Kn ⟨hk,x2,ho⟩ hKn
 have hk:k ≤ L.length:=hk
 have ho:EnW w.heap.size w2 u (cpE (L.take k)):=ho
 have hcl:(cpE (L.take k)).length ≤ 24:=by have:=ZU (L:=L.take k);rw [List.length_take] at this;omega
 intro _
 simp only [gx]
 refine iLt (iCndP (fun hlt=>?_) (fun hlt=>?_))
 ·have hkl:k < L.length:=by omega
  have hsn:=V1 hkl
  refine iItm (hs.ext x2) rfl hkl ?_
  generalize gt L k = x at hsn
  refine iNew3 fun q w3 hq x3 hB3=>?_
  refine iSt3 hB3 rfl rfl rfl rfl fun w4 hB4 hc4=>?_
  have x24:Ext w2 w4:=x3.thenCh hc4 fun c hc=>by omega
  have X4:=x2.trans x24
  refine iFa (iLdB hB4 rfl (iFa (iLdB hB4 rfl ?_)))
  refine bB (cs:=#[.int .i64 1,sv x.nm,sv x.fm]) (by simp [Instr.fill,Value.cells]) ?_
  refine iBs31 fun q5 w5 hq5 x5 hB5=>?_
  have X5:=X4.trans x5
  refine iApE (e:=⟨1,x.nm,x.fm⟩) X5.size ((ho.ext x24).ext x5) hB5 (by omega) fun u' w6 ho6 hc6=>?_
  have hou:EnW w.heap.size w5 u (cpE (L.take k)):=(ho.ext x24).ext x5
  have X6:Ext w w6:=X5.thenCh hc6 fun c hc=>(hou.blk c hc).1
  have hB6:Blk bF w6 q _:=(hB4.ext x5).ch hc6 (hou.ne_blk (hB4.ext x5) (by decide))
  refine iFa (iLdB hB6 rfl (iEq (iCndP (fun h=>?_) (fun h=>?_))))
  ·have hcp:cp1 x = [⟨1,x.nm,x.fm⟩,⟨3,x.nm,[]⟩]:=by unfold cp1;rw [if_pos h]
   refine iFa (iLdB hB6 rfl ?_)
   refine bB (cs:=#[.int .i64 3,sv x.nm,sv []]) (by simp [Instr.fill,Value.cells]) ?_
   refine iBs31 fun q7 w7 hq7 x7 hB7=>?_
   have X7:=X6.trans x7
   refine iApE (e:=⟨3,x.nm,[]⟩) X7.size (ho6.ext x7) hB7 (by rw [List.length_append];simp only [List.length_cons,List.length_nil];omega) fun u'' w8 ho8 hc8=>?_
   refine iAdd (by omega) ?_
   refine hKn (u'',k + 1) _ ⟨hkl,X7.thenCh hc8 fun c hc=>((ho6.ext x7).blk c hc).1,?_⟩ (by show L.length - (k + 1) < L.length - k;omega)
   show EnW _ w8 u'' (cpE (L.take (k + 1)))
   rw [hsn,hcp]
   rw [List.append_assoc] at ho8
   exact ho8
  ·have hcp:cp1 x = [⟨1,x.nm,x.fm⟩]:=by unfold cp1;rw [if_neg h]
   refine iAdd (by omega) ?_
   refine hKn (u',k + 1) _ ⟨hkl,X6,?_⟩ (by show L.length - (k + 1) < L.length - k;omega)
   show EnW _ w6 u' (cpE (L.take (k + 1)))
   rw [hsn,hcp]
   exact ho6
 ·have e:k = L.length:=by omega
  subst e
  rw [List.take_length] at ho
  exact ⟨x2,ho⟩
end Go.Proofs.YteifjhpddhppcaaGreatDoor

namespace Go.Vc
theorem aB7 {L:List Itm} (h:JI L):∀ e ∈ cpE L,e.sz ≤ 1000:=by
 intro e he
 obtain ⟨x,hx,he⟩:=List.mem_flatMap.1 he
 obtain ⟨h1,h2,-,-⟩:=h.ok x hx
 have hn:=O1 h1
 have hf:=aCF h2
 unfold cp1 at he
 rcases List.mem_cons.1 he with rfl | he
 ·show x.nm.length + x.fm.length ≤ 1000;omega
 ·split at he
  ·rw [List.mem_singleton] at he
   subst he
   show x.nm.length + 0 ≤ 1000;omega
  ·cases he
end Go.Vc
namespace Go.Proofs.YteifjhpddhppcaaGreatDoor
open Go.Vc
theorem JD {v:Value} {L:List Itm} {w:World} (hs:SlIt w v L) (hL:L.length ≤ 1000):Cal Tryz.prog vM #[v] w fun r w'=>Ext w w' ∧ EnW w.heap.size w' r (cpE L):=by
 apply LY;unfold uU
 refine iBs03 fun v5 w1 x1 ho1=>?_
 refine iLp (fun s:Value × Nat=>[s.1,.int .i64 (s.2:Int)]) (fun s w'=>s.2 ≤ L.length ∧ Ext w w' ∧ EnW w.heap.size w' s.1 (cpE (L.take s.2))) (fun s=>L.length - s.2) (v5,0) rfl ⟨Nat.zero_le _,x1,ho1⟩ ?_
 rintro ⟨u,k⟩ w3 Kn ⟨hk,x3,ho⟩ hKn
 have hk:k ≤ L.length:=hk
 have ho:EnW w.heap.size w3 u (cpE (L.take k)):=ho
 have hcl:(cpE (L.take k)).length ≤ 2 * k:=by have:=ZU (L:=L.take k);rw [List.length_take] at this;omega
 intro _
 simp only [gx]
 have hs3:=hs.ext x3
 refine iLenK hs3 (iLt (iCndP (fun hlt=>?_) (fun hlt=>?_)))
 ·have hkl:k < L.length:=by omega
  have hsn:=V1 hkl
  refine iNm hs3 rfl hkl (iFm hs3 rfl hkl ?_)
  refine bB (cs:=#[.int .i64 1,sv (gt L k).nm,sv (gt L k).fm]) (by simp [Instr.fill,Value.cells]) ?_
  intro w4 x4
  refine iBs31 fun q5 w5 hq5 x5 hB5=>?_
  intro w6 x6
  have x36:=(x4.trans x5).trans x6
  have X6:=x3.trans x36
  refine iApE (e:=⟨1,(gt L k).nm,(gt L k).fm⟩) X6.size (ho.ext x36) (hB5.ext x6) (by omega) fun u' w7 ho7 hc7=>?_
  have X7:Ext w w7:=X6.thenCh hc7 fun c hc=>((ho.ext x36).blk c hc).1
  intro w8 x8
  have X8:=X7.trans x8
  have ho8:=ho7.ext x8
  refine iCl (hs.ext X8) rfl hkl (iEq (iCndP (fun h=>?_) (fun h=>?_)))
  ·have hcp:cp1 (gt L k) = [⟨1,(gt L k).nm,(gt L k).fm⟩,⟨3,(gt L k).nm,[]⟩]:=by unfold cp1;rw [if_pos h]
   refine iNm (hs.ext X8) rfl hkl ?_
   refine bB (cs:=#[.int .i64 3,sv (gt L k).nm,sv []]) (by simp [Instr.fill,Value.cells]) ?_
   refine iBs31 fun q9 w9 hq9 x9 hB9=>?_
   have X9:=X8.trans x9
   refine iApE (e:=⟨3,(gt L k).nm,[]⟩) X9.size (ho8.ext x9) hB9 (by rw [List.length_append];simp only [List.length_cons,List.length_nil];omega) fun u'' w10 ho10 hc10=>?_
   refine iAdd (by omega) ?_
   refine hKn (u'',k + 1) _ ⟨hkl,X9.thenCh hc10 fun c hc=>((ho8.ext x9).blk c hc).1,?_⟩ (by show L.length - (k + 1) < L.length - k;omega)
   show EnW _ w10 u'' (cpE (L.take (k + 1)))
   rw [hsn,hcp]
   rw [List.append_assoc] at ho10
   exact ho10
  ·have hcp:cp1 (gt L k) = [⟨1,(gt L k).nm,(gt L k).fm⟩]:=by unfold cp1;rw [if_neg h]
   refine iAdd (by omega) ?_
   refine hKn (u',k + 1) _ ⟨hkl,X8,?_⟩ (by show L.length - (k + 1) < L.length - k;omega)
   show EnW _ w8 u' (cpE (L.take (k + 1)))
   rw [hsn,hcp]
   exact ho8
 ·have e:k = L.length:=by omega
  subst e
  rw [List.take_length] at ho
  exact ⟨x3,ho⟩
end Go.Proofs.YteifjhpddhppcaaGreatDoor
