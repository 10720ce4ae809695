/- The proof of FnExpandedCard, part 4 of 7. Conditions: none. -/
import Derived.Test.YtoojmhgpadkhmaaGreatDoorKR56c
import Derived.Laws.Bits64
import Derived.Lib.Zigzag
import Derived.Lib.ItoaNum
import Derived.Lib.AppendIntMem
namespace Go.Proofs.YtoojmhgpadkhmaaGreatDoor
open Go.Proofs.Tryz(prog)
variable{w a:World}{v i U:Value}{x n f C:Nat}{y J:List Value}{z:Value->Prop}{u H:TypeId}{t:Value->World->Prop}{s Y:jA}{m:List Nat}{k:List jA}{j:List Fm}{b:IntKind}{g:Nat->Prop}{l:World->Prop}{o:Int}{p:jA->Value->Prop}{K:Bool}{P:Fm}{G:List Int}{T:List RN}{W:FuncId}{Z:Program}{A:Fr}{B:FG}{N:List Bool}
theorem rB.tr{e:World}(h:rB x w v f y)(t:AI p w n)(o:Ch (λc=>c=n) w e):rB x e v f y:=by
 obtain⟨g,a,c,z,i,j,k⟩:=h;obtain⟨es,C,m,_⟩:=t;refine⟨g,a,c,z,i,j,?_⟩;rcases k with rfl|⟨b,B,l,q⟩
 ·exact .inl rfl
 ·refine .inr ⟨b,B,l,λA r=>?_⟩;have d:=q A r;rw[List.getElem?_eq_getElem (by omega)]at d⊢;have u:b≠n:=by
   rintro rfl;simp only[World.cell?,m]at d;cases d
  have s:b<w.heap.size:=by
   rcases Nat.lt_or_ge b w.heap.size with h|h
   ·exact h
   ·simp only[World.cell?,Array.getElem?_eq_none h]at d;cases d
  simp only[World.cell?]at d⊢;rw[o.block b s u];exact d
def DQ(Q:jA->Value->Prop)(a:Nat)(w:World)(c:Bool)(v:Value)(b:World):Prop:=v= .bool c/\AI Q b a/\Ch (λd=>d=a) w b
theorem DQ.ext{c d:World}{b:Bool}(h:DQ p x a b v c)(g:bA w a)(y:bA c d):DQ p x w b v d:=
 ⟨h.1,h.2.1.ext y,((g.ch (S:=λf=>f=x)).trans h.2.2 λ_ e=>.inl e).trans (y.ch (S:=λ_=>False)) λ_ e=>e.elim⟩
theorem DQ.thenCh{b:World}(h:DQ p x a K v b)(d:Ch (λc=>c=x) w a):DQ p x w K v b:=
 ⟨h.1,h.2.1,d.trans h.2.2 λ_ e=>.inl e⟩
theorem DQ.val{b:Bool}(h:DQ p x w K v a)(e:K=b):DQ p x w b v a:=e▸h
theorem S9{b:World}(d:bA w a)(h:Ch (λc=>c=x) a b):Ch (λc=>c=x) w b:=(d.ch (S:=λc=>c=x)).trans h λ_ e=>.inl e
def Qp(k:jA)(v:Value):Prop:=∃L r,k=Me L r/\(∀t∈L,GT t)/\GT r/\v= .bool (vB L r)
theorem oP.tr(h:oP x w v k)(d:AI p w n)(b:Ch (λc=>c=n) w a):oP x a v k:=h.ch b (d.ne_ow h.toK)
theorem E5{Q:jA->Value->Prop}{c:List Sq}(B:Nat->Bool)(m:AI Q w x)(y:Eg w v c)
  (I:∀a p,c[a]?=some p-> ∀b,AI Q b x->Ch (λd=>d=x) w b-> ∀g,oP 0 b g p.1->TB prog i [.agg #[g,sv p.2]] b (DQ Q x b (B a))):
  nA prog 708 #[v,i] w λC b=>∃o,DQ Q x w o C b/\(o=true↔ ∃a,a<c.length/\B a=true):=by
 apply VF;unfold TC;have T:=y;obtain⟨W,n,L⟩:=y;have S:=n.len;refine aA (nA.mono (R:=λA b=>∃z:Int,A=iv z/\(0<=z↔ ∃a,a<c.length/\B a=true)/\AI Q b x/\Ch (λd=>d=x) w b) ?_ ?_)
 ·apply GG;unfold yD;refine VB n ?_;refine MB (λa:Nat=>[iv a]) (λa b=>a<=c.length/\AI Q b x/\Ch (λd=>d=x) w b/\ ∀j,j<a->B j=false) (λa=>c.length-a) 0 rfl ⟨Nat.zero_le _,m,(bA.refl w).ch,λj l=>by omega⟩ ?_;rintro a N O ⟨P,s,f,u⟩ G;intro _;simp only[gx];refine jB ?_;refine dA (λq=>?_) (λq=>?_)
  ·have k:a<c.length:=by omega
   obtain⟨g,E,F,e⟩:=L a c[a] (List.getElem?_eq_getElem k);refine b9 (cs:=#[g,sv (c[a]).2]) (n.tr m f) rfl k rfl (λj l=>?_) ?_
   ·rcases j with _|_|j
    ·exact E
    ·exact F
    ·omega
   refine(I a c[a] (List.getElem?_eq_getElem k) N s f g (oP.tr e m f)).mono ?_;rintro C V ⟨rfl,t,h⟩;have h:=f.trans h λ_ D=>.inl D;refine kB (λe=>?_) (λe=>?_)
   ·exact⟨_,rfl,⟨λ_=>⟨a,k,e⟩,λ_=>by omega⟩,t,h⟩
   ·refine qA (by omega) ?_;refine G (a+1) _ ⟨by omega,t,h,λj l=>?_⟩ (by omega);by_cases J:j=a
    ·subst J;exact e
    ·exact u j (by omega)
  ·refine⟨-1,by first|trivial|rfl,⟨λq=>by omega,λ⟨j,l,r⟩=>?_⟩,s,f⟩;rw[u j (by omega)]at r;cases r
 ·rintro A U ⟨z,rfl,M,K,H⟩;refine LF ?_;exact⟨_,⟨rfl,K,H⟩,by rw[decide_eq_true_eq];exact M⟩
theorem BO{L:List jA}(B:Nat->Bool)(q:AI p w x)(h:oP n w v L)
  (E:∀a,a<L.length-> ∀b,AI p b x->Ch (λc=>c=x) w b->TB prog i [sv (gt L a)] b (DQ p x b (B a))):
  nA prog 40 #[v,i] w λy b=>∃k,DQ p x w k y b/\(k=true↔ ∃a,a<L.length/\B a=true):=by
 apply aE;unfold DC;have G:=h.sl.len;rw[AA]at G;refine aA (nA.mono (R:=λu b=>∃z:Int,u=iv z/\(0<=z↔ ∃a,a<L.length/\B a=true)/\AI p b x/\Ch (λc=>c=x) w b) ?_ ?_)
 ·apply QC;unfold lC;refine ZA h.sl ?_;refine MB (λa:Nat=>[iv a]) (λa b=>a<=L.length/\AI p b x/\Ch (λc=>c=x) w b/\ ∀j,j<a->B j=false) (λa=>L.length-a) 0 rfl ⟨Nat.zero_le _,q,(bA.refl w).ch,λj o=>by omega⟩ ?_;rintro a J K ⟨M,r,d,t⟩ C;intro _;simp only[gx];refine jB ?_;refine dA (λl=>?_) (λl=>?_)
  ·have g:a<L.length:=by omega
   refine mH (oP.tr h q d).sl rfl g ?_;refine(E a g J r d).mono ?_;rintro y O ⟨rfl,s,e⟩;have e:=d.trans e λ_ A=>.inl A;refine kB (λf=>?_) (λf=>?_)
   ·exact⟨_,rfl,⟨λ_=>⟨a,g,f⟩,λ_=>by omega⟩,s,e⟩
   ·refine qA (by omega) ?_;refine C (a+1) _ ⟨by omega,s,e,λj o=>?_⟩ (by omega);by_cases F:j=a
    ·subst F;exact f
    ·exact t j (by omega)
  ·refine⟨-1,by first|trivial|rfl,⟨λl=>by omega,λ⟨j,o,m⟩=>?_⟩,r,d⟩;rw[t j (by omega)]at m;cases m
 ·rintro u N ⟨z,rfl,I,H,D⟩;refine LF ?_;exact⟨_,⟨rfl,H,D⟩,by rw[decide_eq_true_eq];exact I⟩
structure Fp(w:World)(db mb:Nat):Prop where
 blk:GA 274 w db [.map (some mb)]
 map:AI Qp w mb
theorem Fp.ext(h:Fp w x n)(b:bA w a):Fp a x n:=⟨h.blk.ext b,h.map.ext b⟩
theorem Fp.tr(h:Fp w x n)(d:AI Qp a n)(b:Ch (λc=>c=n) w a):Fp a x n:=⟨h.blk.ch b (h.map.ne_blk h.blk),d⟩
abbrev dp(a:Nat):Value:=.pointer (some ⟨a,0,none⟩)
def Pv(a b:Nat)(L:List jA)(r:jA):Prop:=∀(w:World) (v:Value),Fp w a b->oP 0 w v L->nA prog 414 #[dp a,.agg #[v,sv r]] w (DQ Qp b w (vB L r))
theorem qx:prog.underlying 272=some (.map 9 4):=by kernel_rfl
theorem Uu:prog.underlying 9=some .string:=by kernel_rfl
theorem Rx:(prog.info? 4).map (λi=>i.zero)=some (some (.bool false)):=by kernel_rfl
theorem uu(w:World):(zeroValue 4).run prog w= .ok (.bool false) w:=by
 obtain⟨i,a,b⟩:=Option.map_eq_some_iff.1 Rx;simp[zeroValue,cL a,b]
theorem jM{ps:List Sq}(z:Fp w x n)(F:Eg w v ps)(s:∀p∈ps,Pv x n p.1 p.2):
  nA prog 656 #[dp x,v] w λu g=>∃b,DQ Qp n w b u g/\(b=true↔ ∀p∈ps,VT p.1 p.2):=by
 apply jZ;unfold MM;refine xC λq J G k a=>?_;have f:=z.ext k;refine aA ((E5 (B:=λi=>!(match ps[i]? with|some p=>vB p.1 p.2|none=>true)) f.map (F.ext k) λi p d g C o r E=>(lQ rfl ?_)).mono ?_)
 ·show nA prog 709 #[.agg #[r,sv p.2],.pointer (some ⟨q,0,none⟩)] g _;apply AV;unfold HK;refine iC λI j H e y=>?_;have t:GA 197 j q [dp x]:=(a.ch o (f.map.ne_blk a)).ext e;refine mA t rfl ?_;refine aP y ?_;refine aA ((s p (List.mem_of_getElem? d) j r ((f.tr C o).ext e) (E.ext e)).mono ?_);rintro u K m;obtain⟨rfl,-,-⟩:=id m;refine TA ?_;rw[d];exact⟨rfl,(m.ext e (bA.refl _)).2⟩
 ·rintro u j ⟨b,l,A⟩;obtain⟨rfl,-,-⟩:=id l;refine TA ⟨!b,⟨rfl,(l.ext k (bA.refl _)).2⟩,?_⟩;rw[Bool.not_eq_true',Bool.eq_false_iff,Ne,A];constructor
  ·intro h p d;obtain⟨i,c,rfl⟩:=List.getElem_of_mem d;refine Classical.byContradiction λD=>h ⟨i,c,?_⟩;rw[List.getElem?_eq_getElem c];simp only[Bool.not_eq_true'];exact Fd.2 D
  ·rintro h ⟨i,c,a⟩;rw[List.getElem?_eq_getElem c]at a;simp only[Bool.not_eq_true']at a;exact Fd.1 a (h _ (List.getElem_mem _))
theorem fU{L:List jA}(hD:Fp w x C)(hv:oP 0 w v L)(hc:oC w i (fT s))(l:c4 L s)(IH:∀L' r',c4 L' r'->mT L'+wT r'<mT L+wT s->Pv x C L' r')
  (hr:¬s∈L)(hf:¬Fm.fls.body∈L)(cv:∀bt∈L,(cC L s bt).2=false)(cz:∀a b,fT s≠ .and a b/\fT s≠ .imp a b):
  nA prog 658 #[dp x,.agg #[v,sv s],i] w (DQ Qp C w (vB L s)):=by
 apply BV;unfold IK;refine xC λq w1 hq x1 F=>?_;refine iC λU w2 dx x2 ab=>?_;have J:=x1.trans x2;have F:GA 197 w2 q [dp x]:=F.ext x2;have K:=hD.ext J;have br:oP 0 w2 v L:=hv.ext J;obtain⟨ar,au,dy⟩:=l.right.at;have ea:=Fm.wt_size au;have ed:=l.wt_right;have dv:=nr L;have dz:=l.small;refine WB (λxs k=>∃b,xs=[.bool b]/\AI Qp k C/\Ch (λd=>d=C) w2 k/\(b=true↔ ∃a d,fT s= .or a d/\(VT L a.body∨VT L d.body))) (λan u=>?_) ?_
 ·refine eB (j:=0) (hc.ext J) rfl (fT s).size_pos (by decide) (rA hc).1 ?_;refine BA ?_;refine dA (λI=>?_) (λI=>?_)
  ·obtain⟨a,d,e⟩:∃a d,fT s= .or a d:=by
    cases e:fT s<;>rw[e]at I<;>simp[Fm.kind]at I;exact⟨_,_,rfl⟩
   refine aA ((fJ (hc.ext J) ar (by omega)).mono ?_);rintro V W ⟨t,ho⟩;rw[e]at ho;have Q:=K.ext t;have hw:=Xu e;have dw:=Zm a d;have ag:a.good/\d.good:=by rw[e]at ar;exact ar
   have bk:=I3 (by rw[e]at au;exact au);have wa:=DE ag.1;have wc:=DE ag.2;have a2:=a.w2_ge;have c2:=d.w2_ge;refine aA ((BO (L:=[a.body,d.body]) (B:=λc=>vB L (gt [a.body,d.body] c)) Q.map ho λc E k R G=>(lQ rfl ?_)).mono ?_)
   ·show nA prog 712 #[sv (gt [a.body,d.body] c),.pointer (some ⟨q,0,none⟩),.pointer (some ⟨U,0,none⟩)] k _;apply iR;unfold CI;have aa:GA 197 k q [dp x]:=(F.ext t).ch G (Q.map.ne_blk (F.ext t));have ac:GA 203 k U [v,sv s]:=(ab.ext t).ch G (Q.map.ne_blk (ab.ext t));refine mA aa rfl ?_;refine aP ac ?_;intro X o;refine gA (LD hv.cell) λw7 x7=>⟨x7,λw8 x8=>?_⟩
    have y:=o.trans (x7.trans x8);have bm:c4 L (gt [a.body,d.body] c)/\mT L+wT (gt [a.body,d.body] c)<mT L+wT s:=by
     have:c=0∨c=1:=by simp at E;omega
     rcases this with rfl|rfl
     ·exact⟨⟨l.left,GT.of ag.1 bk.1,by show mT L+wT a.body<=_;omega⟩,by show mT L+wT a.body<_;omega⟩
     ·exact⟨⟨l.left,GT.of ag.2 bk.2,by show mT L+wT d.body<=_;omega⟩,by show mT L+wT d.body<_;omega⟩
    refine aA ((IH L _ bm.1 bm.2 w8 v ((Q.tr R G).ext y) ((oP.tr (br.ext t) Q.map G).ext y)).mono ?_);rintro V Y h9;intro de ai;exact h9.ext y ai
   ·rintro V X ⟨b,h6,D⟩;obtain⟨rfl,ct,cm⟩:=h6;refine u _ _ ⟨b,rfl,ct,S9 t cm,?_⟩;rw[D];constructor
    ·rintro⟨c,E,F⟩;have:c=0∨c=1:=by simp at E;omega
     rcases this with rfl|rfl
     ·exact⟨a,d,e,.inl (DG.1 F)⟩
     ·exact⟨a,d,e,.inr (DG.1 F)⟩
    ·rintro⟨a',c',e',A⟩;rw[e]at e';cases e';rcases A with A|A
     ·exact⟨0,by simp,DG.2 A⟩
     ·exact⟨1,by simp,DG.2 A⟩
  ·refine u _ _ ⟨false,rfl,K.map,(bA.refl _).ch,⟨λl=>(by cases l),λ⟨a,d,e,_⟩=>?_⟩⟩;rw[e]at I;exact absurd rfl I
 ·rintro xs w4 ⟨b,rfl,aq,M,D⟩;intro _;simp only[gx];have ad:=K.tr aq M;cases b
  rotate_left
  ·refine iA rfl ⟨?_,aq,S9 J M⟩;obtain⟨a,d,e,A⟩:=D.1 rfl;rw[DG.2 (VT.or l.right e A)]
  refine cA rfl ?_;have bg:GA 197 w4 q [dp x]:=F.ch M (K.map.ne_blk F);have O:GA 203 w4 U [v,sv s]:=ab.ch M (K.map.ne_blk ab);have bs:=oP.tr br K.map M;refine pB (mA O rfl ?_);refine aA ((BO (B:=λc=>match bP L s (gt L c)with|some (p,q)=>vB p.1 p.2&&vB q.1 q.2|none=>false) aq bs λc E k R G=>(lQ rfl ?_)).mono ?_)
  ·show nA prog 713 #[sv (gt L c),.pointer (some ⟨q,0,none⟩),.pointer (some ⟨U,0,none⟩)] k _;apply jR;unfold DI;have N:gt L c∈L:=by rw[LA E];exact List.getElem_mem _
   obtain⟨S,bn,eb⟩:=(l.left _ N).at;have da:=l.wt_left N;have bo:=Fm.wt_size bn;have ec:=Di (l.left _ N);refine aA ((iJ (by omega) k).mono ?_);rintro V W ⟨t,r⟩;have r:iL k.heap.size W V (fT (gt L c)):=r;have bh:=ad.tr R G;have aa:GA 197 k q [dp x]:=bg.ch G (ad.map.ne_blk bg);have ac:GA 203 k U [v,sv s]:=O.ch G (ad.map.ne_blk O);have bq:=oP.tr bs ad.map G;cases m:bP L s (gt L c)with
   |none=>
    have cw:¬ ∃h y z,fT (gt L c)= .imp (.imp h y) z:=by
     rintro⟨h,y,z,e⟩;unfold bP at m;rw[e]at m;cases m
    refine sB true W (λan u=>?_) (λX o=>?_)
    ·refine eB (j:=0) r.sl rfl (fT (gt L c)).size_pos (by decide) (rA r.sl).1 ?_;refine ZF ?_;refine dA (λ_=>u _ (bA.refl _)) (λI=>?_);obtain⟨h,z,e⟩:∃h z,fT (gt L c)= .imp h z:=by
      cases e:fT (gt L c)<;>rw[e]at I<;>simp[Fm.kind]at I;exact⟨_,_,rfl⟩
     refine aA ((OA (f:=fT (gt L c)) (g:=h) (gs:=[z]) r.sl (by rw[e];rfl) (by omega)).mono ?_);rintro u2 X ⟨o,T⟩;refine eB (j:=0) T rfl h.size_pos (by decide) (rA T).1 ?_;refine ZF ?_;rw[decide_eq_true (p:=¬((h.kind:Int)=4)) (λco=>?_)]
     ·exact u _ o
     ·cases h<;>simp[Fm.kind]at co;exact cw ⟨_,_,_,e⟩
    ·intro _;simp only[gx];refine iA rfl ⟨rfl,R.ext (t.trans o),(t.trans o).ch⟩
   |some pq=>
    obtain⟨p,ax⟩:=pq;obtain⟨⟨sp,lp⟩,⟨ss,ls⟩,-,-⟩:=Z9 l N m;obtain⟨h,y,z,e,bl⟩:∃h y z,fT (gt L c)= .imp (.imp h y) z/\((ins L (gt L c) [(Fm.imp y z).body],(Fm.imp h y).body),(ins L (gt L c) [z.body],s))=(p,ax):=by
     unfold bP at m;split at m
     ·rename_i h y z e;exact⟨h,y,z,e,Option.some.inj m⟩
     ·cases m
    simp only[Prod.mk.injEq]at bl;obtain⟨rfl,rfl⟩:=bl;rw[e]at S bn bo da;simp only[Fm.size]at bo;refine sB false W (λan u=>?_) (λX o=>?_)
    ·refine eB (j:=0) r.sl rfl (fT (gt L c)).size_pos (by decide) (rA r.sl).1 ?_;rw[e];refine ZF (cA rfl ?_);refine aA ((OA (f:=fT (gt L c)) (g:=.imp h y) (gs:=[z]) r.sl (by rw[e];rfl) (by rw[e];simp only[Fm.size];omega)).mono ?_);rintro u2 X ⟨o,T⟩;refine eB (j:=0) T rfl (Fm.imp h y).size_pos (by decide) (rA T).1 ?_;refine ZF ?_;exact u _ o
    intro _;simp only[gx];refine cA rfl ?_;rw[e]at r;refine aA ((OA (f:=.imp (.imp h y) z) (dB.sl (dB.ext r o)) rfl (by simp only[Fm.size];omega)).mono ?_);rintro ux w7 ⟨x7,ah⟩;refine aA ((gB (f:=.imp (.imp h y) z) (dB.sl (dB.ext r (o.trans x7))) rfl (by simp only[Fm.size];omega)).mono ?_);rintro uz w8 ⟨x8,av⟩;have ah:=ah.ext x8;have X8:bA k w8:=t.trans ((o.trans x7).trans x8);refine WB (λxs Y=>∃b,xs=[.bool b]/\b=(vB (ins L (gt L c) [(Fm.imp y z).body]) (Fm.imp h y).body&&vB (ins L (gt L c) [z.body]) s)/\AI Qp Y C/\Ch (λd=>d=C) k Y) (λan u=>?_) ?_
    ·refine mA (aa.ext X8) rfl ?_;refine aP (ac.ext X8) ?_;intro Y x9;refine aA ((gB (f:=.imp h y) (ah.ext x9) rfl (by simp only[Fm.size];omega)).mono ?_);rintro uy de ⟨ai,bp⟩;refine⟨ai,λee bw=>?_⟩;have dr:=x9.trans (ai.trans bw);refine Z8 rfl (rB.cellOk bp) (rB.cellOk av) λb1 ef ds ay ci=>⟨ay,λeg az=>?_⟩
     have cd:=dr.trans (ay.trans az);refine aA ((wN (a:=y) (b:=z) (Sl.ofBlk (n:=2) (ci.ext az) rfl (by decide)) (bp.ext (bw.trans (ay.trans az))) (av.ext cd) (by simp only[Fm.size];omega)).mono ?_);rintro u3 eh ⟨bx,cx⟩;refine⟨bx,?_⟩;refine eC (λbu Z=>aC (f:=.imp y z) (dB.sl (dB.ext cx Z)) ⟨S.1.2,S.2⟩ (by simp only[Fm.size];omega)) ?_;intro ei dl;refine fF rfl rfl λb2 ej dt bz cj=>⟨bz,λek ca=>?_⟩
     have bb:=cd.trans (bx.trans (dl.trans (bz.trans ca)));have bd:=X8.trans bb;refine aA ((aB (ts:=[(Fm.imp y z).body]) (bq.ext bd) (Ow.ofBlk (lo:=0) (n:=1) (cj.ext ca) (Nat.zero_le _) rfl (by decide)) (by simp only[List.length_singleton];omega)).mono ?_);rintro u4 el ⟨aj,v4,rfl,bj⟩;refine⟨aj,?_⟩;refine eC (λbu Z=>aC (f:=.imp h y) ((ah.ext (bb.trans aj)).ext Z) S.1 (by simp only[Fm.size];omega)) ?_;intro em dm;refine gA (LD bj.cell) λen cb=>⟨cb,λdf dn=>?_⟩
     have bc:=dm.trans (cb.trans dn);have H:=(bd.trans aj).trans bc;refine aA ((IH _ _ sp lp df v4 (bh.ext H) ((bj.ext bc).mono (Nat.zero_le _))).mono ?_);rintro u5 bv ao;obtain⟨rfl,cp,af⟩:=id ao;have ck:=(bh.ext H).tr cp af;have ap:=R.ext H;have tb:∀{e:TypeId} {q:Nat} {cs:List Value},GA e k q cs->GA e bv q cs:=λhq=>(hq.ext H).ch af (ap.ne_blk (hq.ext H));refine kB (λD=>?_) (λD=>?_)
     ·refine mA (tb aa) rfl ?_;refine aP (tb ac) ?_;have dc:oC bv uz z:=rB.tr (av.ext ((bb.trans aj).trans bc)) ap af;refine eC (λbu Z=>aC (f:=z) (dc.ext Z) S.2 (by omega)) ?_;intro dg ba;refine fF rfl rfl λb3 dh du ak O=>⟨ak,λdi al=>?_⟩
      have ce:=ba.trans (ak.trans al);have dd:=(oP.tr (bq.ext H) ap af).ext ce;refine aA ((aB (ts:=[z.body]) dd (Ow.ofBlk (lo:=0) (n:=1) (O.ext al) (Nat.zero_le _) rfl (by decide)) (by simp only[List.length_singleton];omega)).mono ?_);rintro u6 dj ⟨am,v6,rfl,cy⟩;refine⟨am,λdk cc=>?_⟩;have cg:=ce.trans (am.trans cc);refine aA ((IH _ _ ss ls dk v6 (ck.ext cg) ((cy.ext cc).mono (Nat.zero_le _))).mono ?_);rintro u7 eo ch;intro ep dq;obtain⟨rfl,cr,cl⟩:=(ch.ext cg dq).thenCh (ao.ext H (bA.refl _)).2.2;exact u _ _ ⟨_,rfl,by rw[D,Bool.true_and],cr,cl⟩
     ·intro dg ba dh ak di al dj am;have be:=ao.ext H (ba.trans (ak.trans (al.trans am)));exact u _ _ ⟨false,rfl,by rw[D,Bool.false_and],be.2.1,be.2.2⟩
    ·rintro xs Y ⟨b,rfl,D,cu,cn⟩;intro _;simp only[gx];exact⟨by rw[D],cu,cn⟩
  ·rintro V W ⟨b,h5,ae⟩;refine(h5.thenCh (S9 J M)).val ?_;cases b
   ·refine(Fd.2 (Zv l hr hf cv cz (λa d e=>?_) (λbt ht p ax m A=>?_))).symm
    ·have bi:=mt D.2 (by decide);exact⟨λaw=>bi ⟨a,d,e,.inl aw⟩,λaw=>bi ⟨a,d,e,.inr aw⟩⟩
    ·have ae:=mt ae.2 (by decide);obtain⟨c,E,rfl⟩:=List.getElem_of_mem ht;refine ae ⟨c,E,?_⟩;rw[LA E,m];simp only[Bool.and_eq_true];exact⟨DG.2 A.1,DG.2 A.2⟩
   ·obtain⟨c,E,P⟩:=ae.1 rfl;have N:gt L c∈L:=by rw[LA E];exact List.getElem_mem _
    split at P
    ·rename_i p ax m;rw[Bool.and_eq_true]at P;exact(DG.2 (((Z9 l N m).2.2.1 (DG.1 P.1)).1 (DG.1 P.2))).symm
    ·cases P
theorem js{a:List Sq}(P:jX k s a)(b:K=true↔ ∀p∈a,VT p.1 p.2):K=vB k s:=
 Bool.eq_iff_iff.2 (b.trans (P.iff.symm.trans DG.symm))
theorem GR{L:List jA}(R:Fp w x f)(F:oP 0 w v L)(h:c4 L s)(A:∀L' r',c4 L' r'->mT L'+wT r'<mT L+wT s->Pv x f L' r'):
  nA prog 567 #[dp x,.agg #[v,sv s]] w (DQ Qp f w (vB L s)):=by
 apply JT;unfold CJ;refine iC λq w1 hq x1 o=>?_;have af:oP 0 w1 v L:=F.ext x1;obtain⟨be,bg,ca⟩:=h.right.at;have cc:=Fm.wt_size bg;have cd:=h.wt_right;have cb:=Di h.right;have bz:=nr L;have ce:=h.small;refine sB (decide (s∈L)||decide (Fm.fls.body∈L)) w1 (λbv B=>?_) (λw3 Y=>?_)
 ·refine pB (mA o rfl ?_);refine pB (mA o rfl ?_);refine gA (fD af.sl) λw4 M=>?_;refine dA (λc=>?_) (λc=>?_)
  ·rw[decide_eq_true c,Bool.true_or]at B;exact B _ M
  ·rw[decide_eq_false c,Bool.false_or]at B;refine pB (mA (o.ext M) rfl ?_);refine gA (fD (t:=[70]) (af.ext M).sl) λw5 x5=>?_;exact B _ (M.trans x5)
 intro _;simp only[gx];have Q:=x1.trans Y;cases u:decide (s∈L)||decide (Fm.fls.body∈L)
 rotate_left
 ·refine iA rfl ⟨?_,(R.ext Q).map,Q.ch⟩;rw[Bool.or_eq_true,decide_eq_true_eq,decide_eq_true_eq]at u;rw[DG.2 (VT.ax u)]
 rw[Bool.or_eq_false_iff,decide_eq_false_iff_not,decide_eq_false_iff_not]at u;refine cA rfl ?_;refine pB (mA (o.ext Y) rfl ?_);refine aA ((iJ (by omega) w3).mono ?_);rintro vc w6 ⟨x6,C⟩;have C:iL w3.heap.size w6 vc (fT s):=C;refine aA ((fJ C.sl be (by omega)).mono ?_);rintro vt m ⟨Z,d⟩;have k:=Q.trans (x6.trans Z);have r:GA 203 m q [v,sv s]:=o.ext (Y.trans (x6.trans Z));have l:oP 0 m v L:=F.ext k;have S:=R.ext k;have U:oC m vc (fT s):=C.sl.ext Z;refine eB (j:=0) U rfl (fT s).size_pos (by decide) (rA U).1 ?_;refine BA (dA (λc=>?_) (λc=>?_))
 ·obtain⟨a,b,e⟩:∃a b,fT s= .and a b:=by
   cases e:fT s<;>rw[e]at c<;>simp[Fm.kind]at c;exact⟨_,_,rfl⟩
  rw[e]at d;have P:=ip h e;refine aP r ?_;refine mH (L:=[a.body,b.body]) d.sl (j:=0) rfl (by simp) ?_;refine aP r ?_;refine mH (L:=[a.body,b.body]) d.sl (j:=1) rfl (by simp) ?_;show∀G,bA m G->_;intro G g;refine gA (LD (r':=a.body) F.cell) λH N=>⟨N,λah I=>?_⟩
  refine gA (LD (r':=b.body) F.cell) λbk J=>?_;intro bl X;refine Mm λbb bm bw K av=>λbn aj=>?_;have O:=((g.trans N).trans (I.trans J)).trans (X.trans (K.trans aj));refine aA ((jM (S.ext O) (ps:=[(L,a.body),(L,b.body)]) (Eg.two (p:=(L,a.body)) (q:=(L,b.body)) (av.ext aj) (l.ext O) (l.ext O)) λp y=>A _ _ (P.sq p y) (P.lt p y)).mono ?_);rintro z ck ⟨b,ar,az⟩;intro cl bp;exact(ar.ext (k.trans O) bp).val (js P az)
 refine BA (dA (λD=>?_) (λD=>?_))
 ·obtain⟨a,b,e⟩:∃a b,fT s= .imp a b:=by
   cases e:fT s<;>rw[e]at D<;>simp[Fm.kind]at D;exact⟨_,_,rfl⟩
  rw[e]at d;have P:=jp h e;refine aP r ?_;refine mH (L:=[a.body,b.body]) d.sl (j:=0) rfl (by simp) ?_;refine mH (L:=[a.body,b.body]) d.sl (j:=1) rfl (by simp) ?_;show∀ai,bA m ai->_;intro ai bq;refine fF rfl rfl λbb cm bx ak aw=>⟨ak,λcn al=>?_⟩
  have ao:=bq.trans (ak.trans al);refine aA ((Z2 (ts:=[a.body]) (l.ext ao) (Ow.ofBlk (lo:=0) (n:=1) (aw.ext al) (Nat.zero_le _) rfl (by decide)) (by simp only[List.length_singleton];omega)).mono ?_);rintro z co ⟨am,v',rfl,ho⟩;refine⟨am,λcp br=>?_⟩;refine gA (LD (r':=b.body) ho.cell) λcr bs=>?_;intro bo bt;have ap:=br.trans (bs.trans bt);have ab:=(k.trans ao).trans (am.trans ap);have bj:c4 (qG (L++[a.body])) b.body:=P.sq _ (List.mem_singleton_self _);have bi:mT (qG (L++[a.body]))+wT b.body<mT L+wT s:=P.lt _ (List.mem_singleton_self _);refine aA ((A _ _ bj bi bo v' (R.ext ab) ((ho.ext ap).mono (Nat.zero_le _))).mono ?_);rintro z cs au;intro ct bu;refine(au.ext ab bu).val (js P ?_);simp only[List.mem_singleton,forall_eq];exact DG
 ·have bd:∀a b,fT s≠ .and a b/\fT s≠ .imp a b:=λa b=>⟨λe=>c (by rw[e];rfl),λe=>D (by rw[e];rfl)⟩
  refine pB (mA r rfl ?_);refine ZA l.sl ?_;refine MB (λi:Nat=>[iv i]) (λi w'=>i<=L.length/\bA m w'/\ ∀j,j<i->(cC L s (gt L j)).2=false) (λi=>L.length-i) 0 rfl ⟨Nat.zero_le _,bA.refl _,λj W=>by omega⟩ ?_;rintro i G Kn ⟨hi,g,ad⟩ ax;intro _;simp only[gx];have ag:oP 0 G v L:=l.ext g;have ac:=r.ext g;refine jB ?_;refine dA (λbc=>?_) (λbc=>?_)
  ·have V:i<L.length:=by omega
   have E:gt L i∈L:=by rw[LA V];exact List.getElem_mem _
   obtain⟨bh,ae,cg⟩:=(h.left _ E).at;have cj:=h.wt_left E;have ci:=Fm.wt_size ae;have ch:=Di (h.left _ E);refine mH ag.sl rfl V ?_;refine aP ac ?_;intro H N;refine aA ((iJ (t:=gt L i) (by omega) H).mono ?_);rintro va ah ⟨I,T⟩;have T:iL H.heap.size ah va (fT (gt L i)):=T;refine⟨I,λbk J=>?_⟩;have an:=g.trans (N.trans (I.trans J));refine aA ((PZ (l.ext an) (T.sl.ext J) bh ae (by omega) (by omega)).mono ?_);rintro z bl ⟨X,cu,rfl,hx⟩;refine lD (mD ?_);intro bm K;have aa:=an.trans (X.trans K);refine kB (λc=>?_) (λc=>?_)
   ·have P:=Tr h E c;refine aA ((jM (S.ext aa) ((hx c).ext K) λp y=>A _ _ (P.sq p y) (P.lt p y)).mono ?_);rintro z bn ⟨b,aq,ay⟩;exact(aq.ext (k.trans aa) (bA.refl _)).val (js P ay)
   ·refine qA (by omega) ?_;refine ax (i+1) _ ⟨V,aa,λj W=>?_⟩ (by omega);by_cases ba:j=i
    ·subst ba;exact c
    ·exact ad j (by omega)
  ·refine aP ac ?_;refine aA ((fU (S.ext g) ag (U.ext g) h A u.1 u.2 (λt d=>?_) bd).mono ?_)
   ·obtain⟨j,W,rfl⟩:=List.getElem_of_mem d;rw[<-LA W];exact ad j (by omega)
   ·rintro z H h9;exact h9.ext (k.trans g) (bA.refl _)
theorem HR{r:jA}(h:c4 k r)(z:∀(w:World) (v:Value),Fp w x f->oP 0 w v k->nA prog 567 #[dp x,.agg #[v,sv r]] w (DQ Qp f w (vB k r))):Pv x f k r:=by
 intro w v t d;apply KT;unfold DJ;have H:=Tm h.left;have J:=Sn h.right;have K:=h.small;refine iC λL N I D c=>?_;refine pB (mA c rfl ?_);refine pB (mA c rfl ?_);refine fF rfl rfl λF O G l s=>?_;refine ZG d.cell rfl ?_;have g:=D.trans l;refine gA (UZ (r:=r) (d.ext g).sl (Sl.ofBlk (n:=1) s rfl (by decide)) (by omega)) λC m=>?_;have b:=g.trans m;have a:=t.ext b;refine bB ?_;refine pB (mA a.blk rfl ?_);refine Lq a.map qx Uu uu ?_ ?_
 ·refine lD (mD (cA rfl ?_));refine aP (c.ext (l.trans m)) ?_;refine aA ((z C v a (d.ext b)).mono ?_);rintro B P q;obtain⟨rfl,j,i⟩:=id q;have u:=a.tr j i;refine bB ?_;refine pB (mA u.blk rfl ?_);refine jt j qx Uu ⟨k,r,rfl,h.left,h.right,rfl⟩ λQ A y=>?_;exact⟨rfl,A,(S9 b i).trans y λ_ e=>.inl e⟩
 ·rintro B ⟨E,M,e,o,p,rfl⟩;obtain⟨rfl,rfl⟩:=Kj h.left o h.right p e;exact lD (mD (iA rfl ⟨rfl,a.map,b.ch⟩))
theorem ix:∀(a:Nat) (L:List jA) (r:jA),c4 L r->mT L+wT r<a->Pv x n L r:=by
 intro a
 induction a with
 |zero=>intro L r _ h;omega
 |succ a ih=>
  intro L r h i;exact HR h λw v d e=>GR d e h λb f c g=>ih b f c (by omega)
theorem SZ(w:World):nA prog 157 #[] w λv d=>bA w d/\ ∃a c,v=dp a/\Fp d a c/\w.heap.size<=c:=by
 apply z1;unfold bO;refine Mq (Q:=Qp) λb k i h g=>?_;refine GD (cs:=#[.map (some b)]) (by simp[Instr.fill,Value.cells]) ?_;refine xC λq l j e f=>?_;exact⟨h.trans e,q,b,rfl,⟨by simpa[Value.cells]using f,g.ext e⟩,by omega⟩
theorem R5{L:List jA}(c:oP 0 w v L)(h:c4 (qG L) s)(p:L.length<=549755813888):CB prog 155 #[v,sv s] w (.bool (vB (qG L) s)):=by
 apply T7;unfold kS;refine aA ((SZ w).mono ?_);rintro n b ⟨e,g,l,rfl,j,q⟩;refine aA (nA.mono (R:=DQ Qp l b (vB (qG L) s)) ?_ ?_)
 ·show nA prog 261 #[dp g,v,sv s] b _;apply SP;unfold XH;refine aA ((FO (A:=L) (B:=[]) (c.ext e).sl (Sl.nil b) c.cell rfl (by simp only[List.length_nil];omega)).mono ?_);rintro u d ⟨f,a⟩;rw[List.append_nil]at a;refine ZG a.cell rfl ?_;refine aA ((ix _ _ _ h (Nat.lt_succ_self _) d u (j.ext f) (a.mono (Nat.zero_le _))).mono ?_);rintro u r i;exact i.ext f (bA.refl _)
 ·rintro u d ⟨rfl,_,k⟩;exact⟨rfl,e.thenCh k λm o=>by omega⟩
def Fm.v6:Fm->Prop
 | .var v=>v<=5
 | .fls=>True
 | .and a b=>a.v6/\b.v6
 | .or a b=>a.v6/\b.v6
 | .imp a b=>a.v6/\b.v6
 | .box _=>False
 | .dia _=>False
def d4(r:Nat):Fm->Bool
 | .var v=>r.testBit v
 | .fls=>false
 | .and a b=>d4 r a&&d4 r b
 | .or a b=>d4 r a||d4 r b
 | .imp a b=>!d4 r a||d4 r b
 | .box _=>false
 | .dia _=>false
theorem Pq(a:x<2^64)(b:n<2^64)(h:z (.int .u64 ((x|||n:Nat):Int))):OB g4 .u64 (.int .u64 (x:Int)) (.int .u64 (n:Int)) z:=by
 refine⟨_,_,rfl,rfl,?_⟩;have c:x|||n<2^64:=Nat.or_lt_two_pow a b
 have:g4 .u64 (x:Int) (n:Int)=((x|||n:Nat):Int):=by
  rw[show g4 .u64 (x:Int) (n:Int)=IntKind.u64.wrap ((BitVec.ofInt 64 (x:Int)|||BitVec.ofInt 64 (n:Int)).toNat:Nat)from rfl,zF,zF];rw[BitVec.toNat_or,BitVec.toNat_ofNat,BitVec.toNat_ofNat,Nat.mod_eq_of_lt a,Nat.mod_eq_of_lt b];exact IntWalk.u64_in _ (by omega)
 rw[this];exact h
theorem Iv(a:x<64)(h:z (.int .u64 ((2^x:Nat):Int))):qU cK .u64 (.int .u64 1) (.int b (x:Int)) z:=by
 refine⟨_,_,_,rfl,rfl,by omega,?_⟩;have c:(2:Nat)^x<2^64:=Nat.pow_lt_pow_right (by omega) a;have:cK .u64 1 (x:Int)=((2^x:Nat):Int):=by
  simp only[cK,IntKind.bits,Int.toNat_natCast,show min x 64=x by omega];rw[Int.one_mul,show((2:Int)^x)=((2^x:Nat):Int)by simp];generalize 2^x=m at*;exact IntWalk.u64_in _ (by omega)
 rw[this];exact h
theorem pW(v:Nat)(u:v<=5)(w:World):nA prog 247 #[iv v] w λr d=>bA w d/\ ∃m:Nat,r= .int .u64 (m:Int)/\m<2^64/\ ∀i,i<64->m.testBit i=i.testBit v:=by
 apply EX;unfold ZL;refine MB (λs:Nat×Nat=>[.int .u64 (s.1:Int),iv (s.2:Int)]) (λs d=>s.2<=64/\bA w d/\s.1<2^64/\ ∀i,i<64->s.1.testBit i=(decide (i<s.2)&&i.testBit v)) (λs=>64-s.2) (0,0) rfl ⟨Nat.zero_le _,bA.refl _,by decide,λi _=>by simp⟩ ?_;rintro⟨m,r⟩ q t ⟨j,e,b,c⟩ f;have j:r<=64:=j;have b:m<2^64:=b;have c:∀i,i<64->m.testBit i=(decide (i<r)&&i.testBit v):=c;intro _;simp only[gx];refine jB (dA (λp=>?_) (λp=>?_))
 ·have k:r<64:=by omega
  refine gA (oI r v (by omega) (by omega) q) λx o=>?_;have l:∀i,(decide (i<r+1)&&i.testBit v)=((decide (i<r)&&i.testBit v)||(decide (r=i)&&r.testBit v)):=λi=>by
   by_cases h:r=i
   ·subst h;simp
   ·rw[decide_eq_false h,Bool.false_and,Bool.or_false,decide_eq_decide.2 (show i<r+1↔i<r by omega)]
  cases n:r.testBit v with
  |true=>
   refine iA rfl ?_;refine Iv k ?_;have g:(2:Nat)^r<2^64:=Nat.pow_lt_pow_right (by omega) k;refine Pq b g ?_;refine qA (by omega) ?_;refine f (m|||2^r,r+1) _ ⟨by show r+1<=64;omega,e.trans o,Nat.or_lt_two_pow b g,λi a=>?_⟩ (by show 64-(r+1)<64-r;omega);show(m|||2^r).testBit i=(decide (i<r+1)&&i.testBit v);rw[Nat.testBit_or,Nat.testBit_two_pow,c i a,l,n,Bool.and_true]
  |false=>
   refine cA rfl ?_;refine qA (by omega) ?_;refine f (m,r+1) _ ⟨by show r+1<=64;omega,e.trans o,b,λi a=>?_⟩ (by show 64-(r+1)<64-r;omega);show m.testBit i=(decide (i<r+1)&&i.testBit v);rw[c i a,l,n,Bool.and_false,Bool.or_false]
 ·obtain rfl:r=64:=by omega
  exact⟨e,m,rfl,b,λi a=>by rw[c i a,decide_eq_true a,Bool.true_and]⟩
theorem M5:∀(f:Fm) {v:Value} {w:World},oC w v f->f.v6->f.size<=1000->nA prog 148 #[v] w λJ D=>bA w D/\ ∃y:Nat,J= .int .u64 (y:Int)/\y<2^64/\ ∀i,i<64->y.testBit i=d4 i f:=by
 intro f
 induction f with
 |var K=>
  intro v w c d e;apply kG;unfold GE;refine eB (f:=0) (j:=0) c rfl (show 0<1 by decide) (by decide) (rA c).1 ?_;refine BA (iA rfl ?_);refine eB (f:=1) (j:=0) c rfl (show 0<1 by decide) (by decide) (rA c).2 ?_;exact aA (pW K d w)
 |fls=>
  intro v w c d e;apply kG;unfold GE;refine eB (f:=0) (j:=0) c rfl (by decide) (by decide) (rA c).1 ?_;refine BA (cA rfl (BA (iA rfl ?_)));exact⟨bA.refl _,0,rfl,by decide,λi _=>by simp[d4]⟩
 |box a _=>intro v w c d;exact d.elim
 |dia a _=>intro v w c d;exact d.elim
 |and a b iha ihb=>
  intro v w c d e;have e:1+a.size+b.size<=1000:=e;apply kG;unfold GE;refine eB (f:=0) (j:=0) c rfl (show 0<1+a.size+b.size by omega) (by decide) (rA c).1 ?_;refine BA (cA rfl (BA (cA rfl (BA (iA rfl ?_)))));refine aA ((OA (g:=a) (gs:=[b]) c rfl (show 1+a.size+b.size<=_ by omega)).mono ?_);rintro B E ⟨n,s⟩;refine aA ((iha s d.1 (by omega)).mono ?_);rintro _ F ⟨o,l,rfl,p,q⟩;refine aA ((gB (g:=a) (h:=b) (c.ext (n.trans o)) rfl (show 1+a.size+b.size<=_ by omega)).mono ?_);rintro C G ⟨u,t⟩;refine aA ((ihb t d.2 (by omega)).mono ?_);rintro _ H ⟨x,A,rfl,m,r⟩;refine Hq p m ?_;exact⟨((n.trans o).trans u).trans x,_,rfl,Nat.and_lt_two_pow _ m,λi k=>by rw[Nat.testBit_and,q i k,r i k];rfl⟩
 |or a b iha ihb=>
  intro v w c d e;have e:1+a.size+b.size<=1000:=e;apply kG;unfold GE;refine eB (f:=0) (j:=0) c rfl (show 0<1+a.size+b.size by omega) (by decide) (rA c).1 ?_;refine BA (cA rfl (BA (cA rfl (BA (cA rfl (BA (iA rfl ?_)))))));refine aA ((OA (g:=a) (gs:=[b]) c rfl (show 1+a.size+b.size<=_ by omega)).mono ?_);rintro B E ⟨n,s⟩;refine aA ((iha s d.1 (by omega)).mono ?_);rintro _ F ⟨o,l,rfl,p,q⟩;refine aA ((gB (g:=a) (h:=b) (c.ext (n.trans o)) rfl (show 1+a.size+b.size<=_ by omega)).mono ?_);rintro C G ⟨u,t⟩;refine aA ((ihb t d.2 (by omega)).mono ?_);rintro _ H ⟨x,A,rfl,m,r⟩;refine Pq p m ?_;exact⟨((n.trans o).trans u).trans x,_,rfl,Nat.or_lt_two_pow p m,λi k=>by rw[Nat.testBit_or,q i k,r i k];rfl⟩
 |imp a b iha ihb=>
  intro v w c d e;have e:1+a.size+b.size<=1000:=e;apply kG;unfold GE;refine eB (f:=0) (j:=0) c rfl (show 0<1+a.size+b.size by omega) (by decide) (rA c).1 ?_;refine BA (cA rfl (BA (cA rfl (BA (cA rfl (BA (cA rfl ?_)))))));refine aA ((OA (g:=a) (gs:=[b]) c rfl (show 1+a.size+b.size<=_ by omega)).mono ?_);rintro B E ⟨n,s⟩;refine aA ((iha s d.1 (by omega)).mono ?_);rintro _ F ⟨o,l,rfl,p,q⟩;refine⟨.int .u64 ((2^64-1-l:Nat):Int),λD _=>?_,?_⟩
  ·have I:bits .xor .u64 ((18446744073709551615:Nat):Int) (l:Int)=((2^64-1-l:Nat):Int):=by
    rw[bits_xor_u64_nat _ _ (by decide) (by omega)]
    congr 1
    exact Lib.xor_ones64 l p
   rw[<-I];rfl
  refine aA ((gB (g:=a) (h:=b) (c.ext (n.trans o)) rfl (show 1+a.size+b.size<=_ by omega)).mono ?_);rintro C G ⟨u,t⟩;refine aA ((ihb t d.2 (by omega)).mono ?_);rintro _ H ⟨x,A,rfl,m,r⟩;have z:2^64-1-l<2^64:=by omega
  refine Pq z m ?_;refine⟨((n.trans o).trans u).trans x,_,rfl,Nat.or_lt_two_pow z m,λi k=>?_⟩;rw[Nat.testBit_or,r i k,show 2^64-1-l=2^64-(l+1)by omega,Nat.testBit_two_pow_sub_succ p,q i k,decide_eq_true k,Bool.true_and];rfl
theorem G7:∀{f:Fm},f.good->f.plain=true->f.v6
 | .var v,h,_=>by have h:v<6:=h;show v<=5;omega
 | .fls,_,_=>trivial
 | .and _ _,h,k=>⟨G7 h.1 (Bool.and_eq_true_iff.1 k).1,G7 h.2 (Bool.and_eq_true_iff.1 k).2⟩
 | .or _ _,h,k=>⟨G7 h.1 (Bool.and_eq_true_iff.1 k).1,G7 h.2 (Bool.and_eq_true_iff.1 k).2⟩
 | .imp _ _,h,k=>⟨G7 h.1 (Bool.and_eq_true_iff.1 k).1,G7 h.2 (Bool.and_eq_true_iff.1 k).2⟩
 | .box _,_,k=>by cases k
 | .dia _,_,k=>by cases k
theorem YE:∀f:Fm,MD (cB f)=f.plain
 | .var _=>rfl
 | .fls=>rfl
 | .and a b=>by rw[Fm.plain,<-YE a,<-YE b];simp[MD,cB,C5]
 | .or a b=>by rw[Fm.plain,<-YE a,<-YE b];simp[MD,cB,C5]
 | .imp a b=>by rw[Fm.plain,<-YE a,<-YE b];simp[MD,cB,C5]
 | .box a=>by simp[MD,cB,C5,Fm.plain]
 | .dia a=>by simp[MD,cB,C5,Fm.plain]
theorem CN{r:Fm}(e:Sl w v [i])(j:oC w i r)(c:r.good)(d:r.size<=40):CB prog 147 #[v] w (iv (if r.plain then 0 else 5)):=by
 have hR:P6 w v [(i,cB r)]:=P6.one e (oC.rawS j);apply M4;unfold BP;refine gA (OG hR (λp f=>by rw[List.mem_singleton.1 f];show(cB r).length<=_;rw[ZC];omega)) λo a=>TA ?_;rw[show([(i,cB r)]:List VN).all (λq=>Jj q.2)=true by simp[WW.2 ⟨r,c,d,rfl⟩]];refine cA rfl ?_;refine gA (uE (hR.ext a) (λN=>!MD N) λq g n k=>?_) λs b=>?_
 ·refine gA (v:=.bool (!MD q.2)) ?_ λu m=>⟨rfl,m⟩
  apply nZ;unfold TM;exact gA (zQ (rB.ext ((hR.ext a).raw q g) k)) λt l=>TA ⟨rfl,l⟩
 rw[show([(i,cB r)]:List VN).any (λq=>!MD q.2)= !r.plain by simp[YE]];refine kB (λh=>?_) (λh=>?_)
 ·rw[Bool.not_eq_true']at h;rw[h];exact⟨rfl,a.trans b⟩
 ·rw[Bool.not_eq_false']at h;rw[h];exact⟨rfl,a.trans b⟩
def Fm.subs:Fm->List Fm
 | .var v=>[.var v]
 | .fls=>[.fls]
 | .and a b=>.and a b::(a.subs++b.subs)
 | .or a b=>.or a b::(a.subs++b.subs)
 | .imp a b=>.imp a b::(a.subs++b.subs)
 | .box a=>.box a::a.subs
 | .dia a=>.dia a::a.subs
theorem Fm.subs_len:∀f:Fm,f.subs.length=f.size
 | .var _=>rfl
 | .fls=>rfl
 | .and a b=>by simp[Fm.subs,Fm.size,a.subs_len,b.subs_len];omega
 | .or a b=>by simp[Fm.subs,Fm.size,a.subs_len,b.subs_len];omega
 | .imp a b=>by simp[Fm.subs,Fm.size,a.subs_len,b.subs_len];omega
 | .box a=>by simp[Fm.subs,Fm.size,a.subs_len];omega
 | .dia a=>by simp[Fm.subs,Fm.size,a.subs_len];omega
def rf(f:Fm):Prop:=∀i,i<f.size-> ∃r,f.cells.drop (i*2)=(gt f.subs i).cells++r/\i+(gt f.subs i).size<=f.size
theorem BZ(f:Fm):f.cells.length=f.size*2:=by rw[<-uD,wl,ZC]
theorem GH(f:Fm)(h:gt f.subs 0=f):∃r,f.cells.drop (0*2)=(gt f.subs 0).cells++r/\0+(gt f.subs 0).size<=f.size:=⟨[],by rw[h];simp,by rw[h];omega⟩
theorem ri{r b:Fm}{k:Nat}(c:r.subs=r::(P.subs++b.subs))(m:r.cells=nd k 0++(P.cells++b.cells))(p:r.size=1+P.size+b.size)(j:rf P)(l:rf b):rf r:=λi o=>by
 rcases i with _|i
 ·exact GH r (by rw[c];rfl)
 ·have e:r.cells.drop ((i+1)*2)=(P.cells++b.cells).drop (i*2):=by
   rw[m,show(i+1)*2=2+i*2 by omega,<-List.drop_drop];rfl
  have n:=P.subs_len;by_cases h:i<P.size
  ·obtain⟨d,a,f⟩:=j i h;have g:gt r.subs (i+1)=gt P.subs i:=by
    rw[c];show gt (P.subs++b.subs) i=_;exact Av (by omega)
   refine⟨d++b.cells,?_,by rw[g];omega⟩;rw[e,g,List.drop_append_of_le_length (by rw[BZ];omega),a,List.append_assoc]
  ·obtain⟨d,a,f⟩:=l (i-P.size) (by omega);have g:gt r.subs (i+1)=gt b.subs (i-P.size):=by
    rw[c];show gt (P.subs++b.subs) i=_;rw[LA (by rw[List.length_append,b.subs_len];omega),LA (by rw[b.subs_len];omega),List.getElem_append_right (by omega)];simp only[n]
   refine⟨d,?_,by rw[g];omega⟩;rw[e,g,List.drop_append,List.drop_of_length_le (by rw[BZ];omega),List.nil_append,BZ,show i*2-P.size*2=(i-P.size)*2 by omega,a]
theorem Gn{r:Fm}{k:Nat}(a:r.subs=r::P.subs)(d:r.cells=nd k 0++P.cells)(l:r.size=1+P.size)(c:rf P):rf r:=λi j=>by
 rcases i with _|i
 ·exact GH r (by rw[a];rfl)
 ·have e:r.cells.drop ((i+1)*2)=P.cells.drop (i*2):=by
   rw[d,show(i+1)*2=2+i*2 by omega,<-List.drop_drop];rfl
  obtain⟨f,b,h⟩:=c i (by omega);have g:gt r.subs (i+1)=gt P.subs i:=by rw[a];rfl
  exact⟨f,by rw[e,g,b],by rw[g];omega⟩
theorem Fm.sub_at:∀f:Fm,rf f
 | .var v=>λi c=>by
  have c:i<1:=c;have:i=0:=by omega
  subst this;exact GH _ rfl
 | .fls=>λi c=>by
  have c:i<1:=c;have:i=0:=by omega
  subst this;exact GH _ rfl
 | .and a b=>ri (k:=2) rfl (by simp[Fm.cells]) rfl a.sub_at b.sub_at
 | .or a b=>ri (k:=3) rfl (by simp[Fm.cells]) rfl a.sub_at b.sub_at
 | .imp a b=>ri (k:=4) rfl (by simp[Fm.cells]) rfl a.sub_at b.sub_at
 | .box a=>Gn (k:=5) rfl rfl rfl a.sub_at
 | .dia a=>Gn (k:=6) rfl rfl rfl a.sub_at
theorem Fm.subs_self(f:Fm):f∈f.subs:=by cases f<;>simp[Fm.subs]
theorem Fm.subs_good:∀{f:Fm},f.good-> ∀b∈f.subs,b.good/\b.size<=f.size
 | .var v,h,b,a=>by rw[List.mem_singleton.1 a];exact⟨h,Nat.le_refl _⟩
 | .fls,h,b,a=>by rw[List.mem_singleton.1 a];exact⟨h,Nat.le_refl _⟩
 | .and x y,h,b,a=>by
  rcases List.mem_cons.1 a with rfl|a
  ·exact⟨h,Nat.le_refl _⟩
  ·have e:(Fm.and x y).size=1+x.size+y.size:=rfl;rcases List.mem_append.1 a with a|a
   ·have:=Fm.subs_good h.1 b a;exact⟨this.1,by omega⟩
   ·have:=Fm.subs_good h.2 b a;exact⟨this.1,by omega⟩
 | .or x y,h,b,a=>by
  rcases List.mem_cons.1 a with rfl|a
  ·exact⟨h,Nat.le_refl _⟩
  ·have e:(Fm.or x y).size=1+x.size+y.size:=rfl;rcases List.mem_append.1 a with a|a
   ·have:=Fm.subs_good h.1 b a;exact⟨this.1,by omega⟩
   ·have:=Fm.subs_good h.2 b a;exact⟨this.1,by omega⟩
 | .imp x y,h,b,a=>by
  rcases List.mem_cons.1 a with rfl|a
  ·exact⟨h,Nat.le_refl _⟩
  ·have e:(Fm.imp x y).size=1+x.size+y.size:=rfl;rcases List.mem_append.1 a with a|a
   ·have:=Fm.subs_good h.1 b a;exact⟨this.1,by omega⟩
   ·have:=Fm.subs_good h.2 b a;exact⟨this.1,by omega⟩
 | .box x,h,b,a=>by
  rcases List.mem_cons.1 a with rfl|a
  ·exact⟨h,Nat.le_refl _⟩
  ·have e:(Fm.box x).size=1+x.size:=rfl;have:=Fm.subs_good (f:=x) h b a;exact⟨this.1,by omega⟩
 | .dia x,h,b,a=>by
  rcases List.mem_cons.1 a with rfl|a
  ·exact⟨h,Nat.le_refl _⟩
  ·have e:(Fm.dia x).size=1+x.size:=rfl;have:=Fm.subs_good (f:=x) h b a;exact⟨this.1,by omega⟩
def Fm.elem:Fm->Bool
 | .var _=>true
 | .box _=>true
 | .dia _=>true
 |_=>false
def FE(f:Fm):List jA:=qG (f.subs.map Fm.body)
def EA(f:Fm):List Fm:=((FE f).map fT).filter Fm.elem
theorem P2{f:Fm}(c:f.good){t:jA}(d:t∈FE f):∃a∈f.subs,t=a.body/\fT t=a:=by
 obtain⟨a,b,rfl⟩:=List.mem_map.1 (xF.1 d);exact⟨a,b,rfl,UB (Fm.subs_good c a b).1⟩
theorem DM{r:Fm}(c:r.good):P∈EA r↔P∈r.subs/\P.elem=true:=by
 unfold EA;rw[List.mem_filter,List.mem_map];constructor
 ·rintro⟨⟨t,f,rfl⟩,a⟩;obtain⟨g,d,_,e⟩:=P2 c f;rw[e]at a⊢;exact⟨d,a⟩
 ·rintro⟨b,a⟩;refine⟨⟨P.body,xF.2 (List.mem_map.2 ⟨P,b,rfl⟩),UB (Fm.subs_good c P b).1⟩,a⟩
theorem yQ(k:Nat)(w:World):CB prog 278 #[iv k] w (.bool (decide (k=5∨k=6))):=by
 apply lN;unfold GI;refine sB (decide (k=5∨k=6)) w (λJ a=>?_) (λc b=>λ_=>⟨by first|trivial|rfl,b⟩);refine BA (dA (λh=>?_) (λh=>BA ?_))
 ·rw[decide_eq_true (.inl (by omega))]at a;exact a _ (bA.refl _)
 ·rw[show decide ((k:Int)=6)=decide (k=5∨k=6)from decide_eq_decide.2 ⟨λh=>.inr (by omega),λh=>by omega⟩];exact a _ (bA.refl _)
structure Ld(w:World)(v:Value)(f:Fm):Prop where
 ex:∃vl vr,v= .agg #[vl,vr]/\iM w vl []/\iM w vr [f.body]
theorem Ld.ext{f:Fm}(h:Ld w v f)(x:bA w a):Ld a v f:=
 let⟨vl,d,e,b,c⟩:=h.ex
 ⟨vl,d,e,Sl.ext b x,Sl.ext c x⟩
def NH(L:List (Value×Fm)):List Value:=L.flatMap λp=>[sv p.2.body,p.1]
structure Dg(w:World)(v:Value)(ps:List Fm):Prop where
 ex:∃L:List (Value×Fm),L.map Prod.snd=ps/\dB 2 0 sC w v L.length (NH L)/\ ∀p∈L,iL 0 w p.1 p.2
theorem Dg.ext(h:Dg w v j)(x:bA w a):Dg a v j:=
 let⟨L,b,c,d⟩:=h.ex
 ⟨L,b,dB.ext c x,λp e=>dB.ext (d p e) x⟩
theorem tl(A B:List (Value×Fm)):NH (A++B)=NH A++NH B:=by simp[NH]
theorem XX{r:Fm}(m:Ld w v r):nA prog 449 #[v] w λb k=>bA w k/\iM k b [r.body]:=by
 obtain⟨vl,j,rfl,e,g⟩:=m.ex;apply pL;unfold fG;refine iC λC E A s d=>?_;refine pB (mA d (i:=0) (v:=vl) rfl (pB (mA d (i:=1) (v:=j) rfl ?_)));refine Z8 rfl (Sl.cellZ e) (Sl.cellZ g) λx F z t o=>?_;have a:=s.trans t;refine aA ((zH (vs:=[vl,j]) (ps:=[(0,yA []),(1,yA [r.body])]) (Sl.ofBlk (n:=2) o rfl (by decide)) rfl (λi c y=>?_) (λB f D h=>?_) (by simp)).mono ?_)
 ·have c:i<2:=c;rcases i with _|_|i
  ·exact Sl.toK (Sl.ext e a)
  ·exact Sl.toK (Sl.ext g a)
  ·omega
 ·simp only[List.mem_cons,List.not_mem_nil,or_false]at f;rcases f with rfl|rfl
  ·exact tI _ _ h
  ·exact tI _ _ h
 rintro b q ⟨u,p⟩;refine⟨a.trans u,?_⟩;have:=p.toOw;have:=this.sl;have l:Sl q b [sv r.body]:=by simpa[yA]using this
 exact l
theorem kM{r:Fm}(h:iM w v [r.body])(k:r.good)(t:r.size<=40):nA prog 291 #[v] w λB a=>bA w a/\ ∃u,Ow 0 XA a B [u]/\iL 0 a u r:=by
 apply uO;unfold FI;refine XC h ?_;refine MB (λs:Value×Nat=>[s.1,iv (s.2:Int)]) (λs a=>s.2<=1/\bA w a/\(s.2=0->s.1= .slice none 0 0)/\(0<s.2-> ∃u,Ow 0 XA a s.1 [u]/\iL 0 a u r)) (λs=>1-s.2) (.slice none 0 0,0) rfl ⟨Nat.zero_le _,bA.refl _,λ_=>rfl,λh=>absurd h (Nat.lt_irrefl 0)⟩ ?_;rintro⟨z,i⟩ f E ⟨l,g,d,e⟩ o;have l:i<=1:=l;have d:i=0->z= .slice none 0 0:=d;have e:0<i-> ∃u,Ow 0 XA f z [u]/\iL 0 f u r:=e;intro _;simp only[gx];refine jB (dA (λb=>?_) (λb=>?_))
 ·have b:(i:Int)<1:=b;have:i=0:=by omega
  subst this;rw[d rfl];refine pP (j:=0) (Sl.ext h g) (by decide) (by simp[yA]) λG y=>DD y ?_;refine aA ((BN r.body f).mono ?_);rintro u m ⟨D,c,-⟩;have c:=c (bR k t);rw[show(rd r.body).1=r from UB k]at c;refine WE aF XE rfl (Ow.nil m.heap.size _ _) (dB.cell c) (by simp) (by simp) (Nat.le_refl _) λA C x q _=>?_;have n:bA m C:=(bA.refl _).grown q (λF p=>by cases p);refine qA (by decide) ?_;exact o (A,1) _ ⟨Nat.le_refl _,(g.trans D).trans n,(λh=>absurd h (by decide:¬(1:Nat)=0)),λ_=>⟨u,x.mono (Nat.zero_le _),dB.mono (dB.ext c n) (Nat.zero_le _)⟩⟩ (by show 1-1<1-0;decide)
 ·have b:¬(i:Int)<1:=b;exact⟨g,e (by omega)⟩
theorem kW{r:Fm}(m:Sl w v [i])(n:oC w i r)(M:r.good)(hn:r.size<=40):nA prog 448 #[v] w λl a=>bA w a/\iM a l (FE r):=by
 have aa:=r.subs_len;apply rZ;unfold WM;refine XC m ?_;refine MB (λs:Value×Nat=>[s.1,iv (s.2:Int)]) (λs a=>s.2<=1/\bA w a/\Ow w.heap.size fA a s.1 (yA (if s.2=0 then[]else r.subs.map Fm.body))) (λs=>1-s.2) (.slice none 0 0,0) rfl ⟨Nat.zero_le _,bA.refl _,Ow.nil _ _ _⟩ ?_;rintro⟨z,f⟩ B Y ⟨o,g,c⟩ H;have o:f<=1:=o;have c:Ow w.heap.size fA B z (yA (if f=0 then[]else r.subs.map Fm.body)):=c;intro _;simp only[gx];refine jB (dA (λb=>?_) (λb=>?_))
 ·have b:(f:Int)<1:=b;have:f=0:=by omega
  subst this;refine pP (j:=0) (m.ext g) (by decide) (by simp) λab S=>DD S (VB (rB.ext n g) ?_);refine MB (λs:Value×Nat=>[s.1,iv (s.2:Int)]) (λs a=>s.2<=r.size/\bA w a/\Ow w.heap.size fA a s.1 (yA ((r.subs.map Fm.body).take s.2))) (λs=>r.size-s.2) (z,0) rfl ⟨Nat.zero_le _,g,by simpa using c⟩ ?_;rintro⟨C,j⟩ U X ⟨p,h,e⟩ G;have p:j<=r.size:=p;have e:Ow w.heap.size fA U C (yA ((r.subs.map Fm.body).take j)):=e;intro _;simp only[gx];refine jB (dA (λb=>?_) (λb=>?_))
  ·have q:j<r.size:=by omega
   obtain⟨l,D,E⟩:=r.sub_at j q;have P:gt r.subs j∈r.subs:=by rw[LA (by omega)];exact List.getElem_mem _
   have O:=Fm.subs_good M _ P;refine aA ((IR (rB.ext n h) D E (by omega)).mono ?_);rintro ac w5 ⟨V,F⟩;refine gA (aC F O.1 (by omega)) λw6 W=>?_;have k:=V.trans W;have t:(yA ((r.subs.map Fm.body).take j)).length=j:=by rw[AA,List.length_take,List.length_map];omega
   refine WE IB EB rfl (e.ext k) rfl (by rw[t];omega) (by rw[t];omega) (h.trans k).size λA w8 Q N _=>?_;refine qA (by omega) ?_;refine G (A,j+1) _ ⟨q,(h.trans k).grown N λd I=>((e.ext k).blk d I).1,?_⟩ (by show r.size-(j+1)<r.size-j;omega);show Ow _ _ _ A (yA ((r.subs.map Fm.body).take (j+1)));rw[List.take_succ_eq_append_getElem (by rw[List.length_map];omega),List.getElem_map,<-LA (by omega)];rw[show yA ((r.subs.map Fm.body).take j++[(gt r.subs j).body])=yA ((r.subs.map Fm.body).take j)++[sv (gt r.subs j).body]by simp[yA]];exact Q
  ·have:j=r.size:=by omega
   subst this;refine qA (by decide) ?_;refine H (C,1) _ ⟨Nat.le_refl _,h,?_⟩ (by show 1-1<1-0;decide);rw[List.take_of_length_le (by rw[List.length_map];omega)]at e;exact e
 ·have b:¬(f:Int)<1:=b;have:f=1:=by omega
  subst this;have c:Ow w.heap.size fA B z (yA (r.subs.map Fm.body)):=c;have hl:(r.subs.map Fm.body).length<=40:=by rw[List.length_map];omega
  refine aA ((NF c (by omega)).mono ?_);rintro _ w9 ⟨Z,R,K,y,T⟩;refine aA ((PE R (by rw[y.length_eq];omega)).mono ?_);rintro l ad ⟨x,L,_⟩;rw[f7 T y]at x;have u:∀d,z.ownBlock=some d->w.heap.size<=d:=λd J=>(c.blk d J).1;exact⟨(g.thenCh K u).thenCh L u,x.sl⟩
theorem Fm.elem_kind(a:Fm):a.elem=decide (a.kind=0∨a.kind=5∨a.kind=6):=by cases a<;>rfl
theorem Ff{r:Fm}(a:r.good)(b:r.size<=40):YK r.body=true:=by
 unfold YK;rw[decide_eq_true (bR a b),Bool.true_and,show(rd r.body).1=r from UB a];exact decide_eq_true rfl
def ZB:List jA:=[[75],[68],[84],[75,52],[83,52],[71,76],[83,53],[75,66]]
theorem Nf(h:pA s<10)(c:2<=pA s):s∈ZB:=by
 have g:∀k:Fin 10,2<=k.val-> ∀a,eL[k.val]?=some a->a∈ZB:=by
  intro k d a f;have:∀k:Fin 10,2<=k.val->(eL.getD k.val [])∈ZB:=by decide
  have b:=this k d;rw[List.getD_eq_getElem?_getD,f]at b;exact b
 have e:eL[pA s]?=some s:=by
  have:=List.getElem_idxOf (x:=s) (xs:=eL) h;rw[List.getElem?_eq_getElem h];exact congrArg some this
 exact g ⟨_,h⟩ c s e
theorem BH{f:Fm}(m:Ld w v f)(y:f.good)(O:f.size<=40):nA prog 288 #[v] w λad d=>bA w d/\Dg d ad (EA f):=by
 obtain⟨vl,vr,rfl,hl,hr⟩:=m.ex;apply kR;unfold EI;refine iC λaj w1 hq U hB=>DB hB rfl ?_;refine aA ((XX (m.ext U)).mono ?_);rintro v8 w2 ⟨x2,h8⟩;refine aA ((kM h8 y O).mono ?_);rintro v9 w3 ⟨x3,z,h9,g⟩;refine aA ((kW h9.sl g.sl y O).mono ?_);rintro ak C ⟨x4,F⟩;have X:=((U.trans x2).trans x3).trans x4;have ah:(FE f).length<=40:=by
  have:=IW (f.subs.map Fm.body);rw[List.length_map,f.subs_len]at this;show(qG _).length<=40;omega
 refine ZA F ?_;refine MB (λs:Value×Nat=>[s.1,iv (s.2:Int)]) (λs d=>s.2<=(FE f).length/\bA C d/\ ∃L:List (Value×Fm),L.map Prod.snd=(((FE f).take s.2).map fT).filter Fm.elem/\dB 2 C.heap.size sC d s.1 L.length (NH L)/\(∀p∈L,iL 0 d p.1 p.2)/\L.length<=s.2) (λs=>(FE f).length-s.2) (.slice none 0 0,0) rfl ⟨Nat.zero_le _,bA.refl _,[],rfl,dB.nil _ _ _ _,(λp b=>by cases b),Nat.le_refl _⟩ ?_;rintro⟨D,i⟩ R Kn ⟨N,x,L,hL,r,A,I⟩ H;have N:i<=(FE f).length:=N;have hL:L.map Prod.snd=(((FE f).take i).map fT).filter Fm.elem:=hL;have r:dB 2 C.heap.size sC R D L.length (NH L):=r;have I:L.length<=i:=I;intro _;simp only[gx];refine jB (dA (λac=>?_) (λac=>?_))
 rotate_left
 ·have:i=(FE f).length:=by omega
  subst this;rw[List.take_length]at hL;exact⟨X.trans x,L,hL,dB.mono r (Nat.zero_le _),A⟩
 have q:i<(FE f).length:=by omega
 refine mQ (Sl.ext F x) q λp b=>DD b ?_;obtain⟨a,ha,ht,ab⟩:=P2 y (List.getElem_mem q);have M:=Fm.subs_good y a ha;have tk:(((FE f).take (i+1)).map fT).filter Fm.elem=(((FE f).take i).map fT).filter Fm.elem++(if a.elem then[a]else[]):=by
  rw[List.take_succ_eq_append_getElem q,List.map_append,List.filter_append,List.map_singleton,ab];cases e:a.elem<;>simp[e]
 rw[ht];refine aA ((BN a.body R).mono ?_);rintro t T ⟨x7,c,-⟩;have c:=c (bR M.1 (by omega));rw[show(rd a.body).1=a from UB M.1]at c;have J:=a.size_pos;refine WB (λxs d=>xs=[.bool a.elem]/\bA T d) (λag G=>?_) ?_
 ·refine eB (j:=0) (f:=0) c.sl rfl J (by decide) (rA c.sl).1 (BA (dA (λe=>?_) (λe=>?_)))
  ·exact G _ _ ⟨by rw[a.elem_kind,decide_eq_true (.inl (by omega))],bA.refl _⟩
  ·refine eB (j:=0) (f:=0) c.sl rfl J (by decide) (rA c.sl).1 ?_;refine gA (yQ a.kind T) λal af=>G _ _ ⟨?_,af⟩;rw[a.elem_kind]
   congr 2
   exact decide_eq_decide.2 ⟨λm=>.inr m,λm=>m.resolve_left (by omega)⟩
 rintro _ w9 ⟨rfl,V⟩;intro _;simp only[gx];have h:=x7.trans V;refine kB (λe=>?_) (λe=>?_)
 ·refine GD (cs:=#[sv a.body,t]) (by simp[Instr.fill,sA (dB.cell c),sA (show vA (sv a.body)=true from rfl)]) ?_;refine PX λqb Q ai u aa=>?_;have B:=dB.ext r (h.trans u);refine o7 D0 IZ rfl (by decide) B (rB.ofBlk (n:=1) (k:=2) aa rfl (by decide)) (λz g=>?_) (by omega) (by omega) ((x.trans h).trans u).size λW ae ho K _=>?_
  ·simp only[List.mem_cons,List.not_mem_nil,or_false]at g;rcases g with rfl|rfl
   ·rfl
   ·exact dB.cell c
  have Y:=sE (S:=λl=>D.ownBlock=some l) K λl o=>o;have P:∀{lo:Nat} {z:Value} {E:Fm},iL lo Q z E->iL 0 ae z E:=λg=>dB.mono (dB.ch g Y λl o hS=>by
   obtain⟨Z,hh⟩:=dB.ty B hS;exact dB.ne_blk g (show GA sC Q l Z.toList by unfold GA;rw[hh]) (by decide) o) (Nat.zero_le _)
  refine qA (by omega) ?_;refine H (W,i+1) _ ⟨q,((x.trans h).trans u).grown K λl o=>(dB.blk B l o).1,L++[(t,a)],?_,?_,λp b=>?_,?_⟩ (by show(FE f).length-(i+1)<(FE f).length-i;omega)
  ·rw[tk,List.map_append,hL,e];rfl
  ·show dB 2 _ _ _ W (L++[(t,a)]).length (NH (L++[(t,a)]));rw[tl,List.length_append];exact ho
  ·rcases List.mem_append.1 b with b|b
   ·exact P (dB.ext (A p b) (h.trans u))
   ·rw[List.mem_singleton.1 b];exact P (dB.ext c (V.trans u))
  ·show(L++[(t,a)]).length<=i+1;rw[List.length_append,List.length_singleton];omega
 ·refine qA (by omega) ?_;refine H (D,i+1) _ ⟨q,x.trans h,L,?_,dB.ext r h,λp b=>dB.ext (A p b) h,by show L.length<=i+1;omega⟩ (by show(FE f).length-(i+1)<(FE f).length-i;omega);rw[tk,hL,e];simp
theorem pT(h:iM w v k)(r:k.length<=1)(g:∀t∈k,YK t=true):CB prog 447 #[v] w (.bool true):=by
 apply Td;unfold qY;refine ZA h ?_;refine MB (λi:Nat=>[iv i]) (λi b=>i<=k.length/\bA w b) (λi=>k.length-i) 0 rfl ⟨Nat.zero_le _,bA.refl _⟩ ?_;rintro i d o ⟨q,c⟩ f;intro _;simp only[gx];refine jB (dA (λs=>?_) (λ_=>⟨by first|trivial|rfl,c⟩));have a:i<k.length:=by omega
 have p:i=0:=by omega
 refine mQ (Sl.ext h c) a λu j=>DD j ?_;refine WB (λn b=>n=[.bool false]/\bA d b) (λJ e=>?_) ?_
 ·refine gA (gW k[i] d) λy m=>?_;rw[g _ (List.getElem_mem a)];refine TA (cA rfl (jB (cA (decide_eq_false (by omega)) ?_)));exact e _ _ ⟨rfl,m⟩
 rintro _ x ⟨rfl,l⟩;intro _;simp only[gx];refine cA rfl (qA (by omega) ?_);exact f (i+1) _ ⟨a,c.trans l⟩ (by omega)
theorem xQ{r:Fm}(h:Ld w v r)(k:r.good)(l:r.size<=40):CB prog 286 #[v] w (.bool true):=by
 obtain⟨vl,g,rfl,e,f⟩:=h.ex;apply OT;unfold HJ;refine iC λu n s c a=>?_;refine WB (λq m=>q=[.bool true]/\bA n m) (λJ j=>?_) ?_
 ·refine pB (mA a (i:=0) (v:=vl) rfl (ZA e (LF (iA (by decide) ?_))));refine pB (mA a (i:=1) (v:=g) rfl (ZA f (LF (iA (by simp) ?_))));refine pB (mA a (i:=0) (v:=vl) rfl ?_);refine gA (pT (Sl.ext e c) (by simp) (λt b=>by cases b)) λy d=>iA rfl ?_;refine pB (mA (a.ext d) (i:=1) (v:=g) rfl ?_);refine gA (pT (Sl.ext f (c.trans d)) (by simp) (λt b=>by rw[List.mem_singleton.1 b];exact Ff k l)) λz p=>?_;exact j _ _ ⟨rfl,d.trans p⟩
 rintro _ x ⟨rfl,o⟩;intro _;exact⟨rfl,c.trans o⟩
theorem vN{vl:Value}{b:Bool}(h:rB 2 w vl 1 [v,i])(n:∀c,bA w c->TB prog U [.agg #[v,i]] c λu w''=>u= .bool b/\bA c w''):CB prog 284 #[vl,U] w (.bool b):=by
 have g:nA prog 446 #[vl,U] w λr c=>bA w c/\r=iv (if b then 0 else-1):=by
  apply OD;unfold dC;refine VB h ?_;refine MB (λa:Nat=>[iv a]) (λa c=>a<=1/\bA w c/\(0<a->b=false)) (λa=>1-a) 0 rfl ⟨Nat.zero_le _,bA.refl _,λh=>absurd h (Nat.lt_irrefl 0)⟩ ?_;rintro a o q ⟨g,e,m⟩ l;intro _;simp only[gx];refine jB (dA (λd=>?_) (λd=>?_))
  ·have d:(a:Int)<1:=d;have:a=0:=by omega
   subst this;refine b9 (j:=0) (cs:=#[v,i]) (rB.ext h e) rfl (by decide) rfl (λj s=>by rcases j with _|_|j;rfl;rfl;omega) ?_;refine TB.mono (n o e) ?_;rintro _ x ⟨rfl,k⟩;refine kB (λf=>?_) (λf=>?_)
   ·rw[f];exact⟨e.trans k,rfl⟩
   ·refine qA (by decide) ?_;exact l 1 _ ⟨Nat.le_refl _,e.trans k,λ_=>f⟩ (by decide)
  ·have d:¬(a:Int)<1:=d;rw[m (by omega)];exact⟨e,rfl⟩
 apply tD;unfold QB;refine aA (g.mono ?_);rintro _ t ⟨p,rfl⟩;refine LF ⟨?_,p⟩;cases b<;>rfl
theorem qI{t:jA}(H:pA t<10)(B:2<=pA t){r:Fm}(s:Ld w v r)(h:∃e b,v= .agg #[e,b]/\rB 2 w i 1 [e,b])(q:r.good)(u:r.size<=40):CB prog 167 #[sv t,i] w (iv (if 8<(EA r).length then 3 else 0)):=by
 obtain⟨e,b,rfl,h⟩:=h;apply ST;unfold KJ;have E:CB prog 72 #[sv t] w (.bool true):=by
  apply PK;unfold IG;have D:nA prog 142 #[] w λy d=>bA w d/\iM d y ZB:=by
   apply iH;unfold gF;exact Jq ZB (by kernel_rfl) λx z _ c f=>⟨c,f.sltZ (n:=8) rfl (by decide)⟩
  refine aA (D.mono ?_);rintro M z ⟨c,C⟩;refine gA (fD (t:=t) C) λJ o=>⟨?_,c.trans o⟩
  rw[decide_eq_true (Nf H B)]
 refine gA E λz c=>TA (cA rfl ?_);refine gA (vN (b:=false) (rB.ext h c) λd l=>?_) λJ o=>cA rfl ?_
 ·have k:CB prog 285 #[.agg #[e,b]] d (.bool false):=by
   apply VP;unfold ZH;refine iC λx A G a f=>DB f rfl ?_;exact gA (xQ (s.ext ((c.trans l).trans a)) q u) λK p=>TA ⟨rfl,a.trans p⟩
  exact gA k λI m=>⟨rfl,m⟩
 have g:=c.trans o;refine gA (vN (b:=decide (8<(EA r).length)) (rB.ext h g) λd l=>?_) λA a=>dA (λj=>?_) (λj=>?_)
 ·have k:CB prog 287 #[.agg #[e,b]] d (.bool (decide (8<(EA r).length))):=by
   apply WP;unfold aI;refine iC λx A G a f=>DB f rfl ?_;refine aA ((BH (s.ext ((g.trans l).trans a)) q u).mono ?_);rintro y K ⟨p,L,hL,F,-⟩;refine VB F.sl (jB ⟨?_,a.trans p⟩)
   congr 1
   rw[<-hL,List.length_map];exact decide_eq_decide.2 (by omega)
  exact gA k λI m=>⟨rfl,m⟩
 ·rw[if_pos j];exact⟨rfl,g.trans a⟩
 ·rw[if_neg j];exact⟨rfl,g.trans a⟩
def tv(c:List Fm)(t:Nat):Fm->Bool
 | .fls=>false
 | .and a b=>tv c t a&&tv c t b
 | .or a b=>tv c t a||tv c t b
 | .imp a b=>!tv c t a||tv c t b
 | .var p=>t.testBit (c.idxOf (.var p))
 | .box a=>t.testBit (c.idxOf (.box a))
 | .dia a=>t.testBit (c.idxOf (.dia a))
def Fm.isBox:Fm->Bool
 | .box _=>true
 |_=>false
def Fm.modal:Fm->Bool
 | .box _=>true
 | .dia _=>true
 |_=>false
def Fm.inner:Fm->Fm
 | .box a=>a
 | .dia a=>a
 |a=>a
def hC(a:List Fm)(t:Nat)(e:Fm):Bool:=tv a t e==e.isBox
def wI(a:List Fm)(t:Nat)(e:Fm):Bool:=tv a t e.inner==e.isBox
def yF(a:List Fm):List Fm:=a.filter Fm.modal
def A7(s:Nat):Bool:=s==4||s==6||s==7
def PC(s:Nat)(a:List Fm)(t:Nat):Bool:=!A7 s|| !(yF a).any λe=>hC a t e&& !wI a t e
def lP(s:Nat)(a:List Fm)(c b:Nat):Bool:=!(yF a).any λe=>hC a c e&&(if s=5∨s=9 then !wI a b e|| !hC a b e else if s=6 then !hC a b e else !wI a b e)
def GW(s:Nat)(a:List Fm)(b c:Nat):Bool:=
 if s=7 then !(yF a).any λe=>hC a b e !=hC a c e
 else if s=8 then lP s a b c&&lP s a c b
 else if s=9 then lP s a b c&&(yF a).any λe=>hC a c e&& !hC a b e
 else lP s a b c
def EG(s:Nat)(a:List Fm)(e:Fm)(c b:Nat):Bool:=GW s a c b&&(!wI a b e&&(!(s==9)||hC a b e))
theorem mC{n:jA}(h:pA s<10){k:Nat}(b:eL[k]?=some n)(c:pA n=k):decide (s=n)=decide (pA s=k):=by
 refine decide_eq_decide.2 ⟨λe=>by rw[e];exact c,λe=>?_⟩;have a:eL[pA s]?=some s:=by
  have:=List.getElem_idxOf (x:=s) (xs:=eL) h;rw[List.getElem?_eq_getElem h];exact congrArg some this
 rw[e,b]at a;exact(Option.some.inj a).symm
theorem AG{a b:Bool}(h:z (.bool (K==(a==b)))):TE K (.bool a) (.bool b) z:=⟨a,b,rfl,rfl,h⟩
theorem Fk{r:Fm}(h:r.modal=true):tv j x r=x.testBit (j.idxOf r):=by
 cases r with
 |box _=>rfl
 |dia _=>rfl
 |var _=>cases h
 |fls=>cases h
 |and _ _=>cases h
 |or _ _=>cases h
 |imp _ _=>cases h
theorem U0(e:Fm):e.isBox=decide ((e.kind:Int)=5):=by cases e<;>rfl
theorem Qo{r:Fm}(h:r∈yF j):r∈j/\r.modal=true:=List.mem_filter.1 h
def CR(a:List Fm)(e:Fm):List Value:=(List.range (2^a.length)).map λt=>Value.bool (tv a t e.inner)
theorem Hf{e:Fm}(h:x<2^j.length):(CR j e)[x]?=some (.bool (tv j x e.inner)):=by simp[CR,h]
theorem dK(a:List Fm)(e:Fm):(CR a e).length=2^a.length:=by simp[CR]
def yG(a:List Fm)(L:List (Value×Fm)):List Value:=L.flatMap λp=>[iv ((a.idxOf p.2:Nat):Int),iv (p.2.kind:Int),p.1]
theorem Yi(a:List Fm)(A B:List (Value×Fm)):yG a (A++B)=yG a A++yG a B:=by simp[yG]
theorem Sb{ps:List Fm}:∀{L:List (Value×Fm)} {j:Nat},j<L.length-> ∀k,k<3->(yG ps L)[j*3+k]?=([iv ((ps.idxOf (gt L j).2:Nat):Int),iv ((gt L j).2.kind:Int),(gt L j).1]:List Value)[k]?
 |[],j,h,_,_=>absurd h (Nat.not_lt_zero j)
 |x::R,0,_,k,hk=>by
  rw[show yG ps (x::R)=[iv ((ps.idxOf x.2:Nat):Int),iv (x.2.kind:Int),x.1]++yG ps R by simp[yG],Nat.zero_mul,Nat.zero_add,List.getElem?_append_left (by simp;omega)];rfl
 |x::R,j+1,h,k,hk=>by
  have:=Sb (ps:=ps) (L:=R) (j:=j) (by simpa using h) k hk;rw[show yG ps (x::R)=[iv ((ps.idxOf x.2:Nat):Int),iv (x.2.kind:Int),x.1]++yG ps R by simp[yG],show(j+1)*3+k=j*3+k+3 by omega,List.getElem?_append_right (by simp)];simp only[List.length_cons,List.length_nil,Nat.add_sub_cancel];exact this
section
structure G0(w:World)(u:Value)(ps:List Fm)(e:Fm):Prop where
 ex:∃vi,u= .agg #[iv ((ps.idxOf e:Nat):Int),iv (e.kind:Int),vi]/\Ow 0 UA w vi (CR ps e)
theorem G0.ext{r:Fm}(h:G0 w v j r)(x:bA w a):G0 a v j r:=
 let⟨d,b,c⟩:=h.ex
 ⟨d,b,c.ext x⟩
structure Wk(m:Nat)(w:World)(v:Value)(ps M:List Fm):Prop where
 ex:∃L:List (Value×Fm),L.map Prod.snd=M/\dB 3 0 zC w v L.length (yG ps L)/\ ∀p∈L,Ow 0 UA w p.1 (CR ps p.2)/\ ∀c,p.1.ownBlock=some c->c<m
theorem Wk.ext{M:List Fm}(h:Wk x w v j M)(d:bA w a):Wk x a v j M:=
 let⟨L,e,f,b⟩:=h.ex
 ⟨L,e,dB.ext f d,λp c=>⟨(b p c).1.ext d,(b p c).2⟩⟩
theorem vE{k M:List Fm}{p:Fm->Bool}(l:Wk x w v k M)(A:∀e∈M,∀b u,bA w b->G0 b u k e->TB prog i [u] b λr w''=>r= .bool (p e)/\bA b w''):
  CB prog 455 #[v,i] w (.bool (M.any p)):=by
 obtain⟨L,hL,g,h⟩:=l.ex;have J:=g.sl.2;have h:nA prog 593 #[v,i] w λr b=>bA w b/\ ∃z:Int,r=iv z/\(0<=z↔ ∃e∈M,p e=true):=by
  apply HG;unfold zD;refine VB g.sl ?_;refine MB (λa:Nat=>[iv a]) (λa b=>a<=L.length/\bA w b/\ ∀j,j<a->p (gt L j).2=false) (λa=>L.length-a) 0 rfl ⟨Nat.zero_le _,bA.refl _,λj c=>absurd c (Nat.not_lt_zero j)⟩ ?_;rintro a F H ⟨f,d,m⟩ y;intro _;simp only[gx];refine jB (dA (λC=>?_) (λC=>?_))
  ·have f:a<L.length:=by omega
   have o:gt L a∈L:=by rw[LA f];exact List.getElem_mem _
   have q:(gt L a).2∈M:=by rw[<-hL];exact List.mem_map.2 ⟨_,o,rfl⟩
   refine b9 (j:=a) (cs:=#[iv ((k.idxOf (gt L a).2:Nat):Int),iv ((gt L a).2.kind:Int),(gt L a).1]) (dB.ext g d).sl rfl f rfl (λj c=>?_) ?_
   ·rw[Sb f j c];simp
   refine TB.mono (A _ q F _ d ⟨_,rfl,(h _ o).1.ext d⟩) ?_;rintro _ N ⟨rfl,t⟩;refine kB (λe=>?_) (λe=>?_)
   ·exact⟨d.trans t,_,rfl,λ_=>⟨_,q,e⟩,λ_=>by omega⟩
   ·refine qA (by have:=dB.sl g;obtain⟨_,_,_,_,_,I,_⟩:=this;omega) ?_;refine y (a+1) _ ⟨f,d.trans t,λj c=>?_⟩ (by omega);by_cases B:j=a
    ·rw[B];exact e
    ·exact m j (by omega)
  ·refine⟨d,_,rfl,λl=>by omega,λ⟨e,n,s⟩=>?_⟩;rw[<-hL]at n;obtain⟨O,D,rfl⟩:=List.mem_map.1 n;obtain⟨j,c,rfl⟩:=List.getElem_of_mem D;have:=m j (by omega);rw[LA c]at this;rw[this]at s;cases s
 apply WF;unfold UC;refine aA (h.mono ?_);rintro _ K ⟨G,z,rfl,E⟩;refine LF ⟨?_,G⟩
 congr 1
 rw[Bool.eq_iff_iff,decide_eq_true_eq,E,List.any_eq_true]
variable{ps:List Fm}{e:Fm}{t:Nat}{w:World}{u:Value}
theorem jD(h:G0 w u ps e)(d:e∈yF ps)(c:ps.length<=8)(q:t<2^ps.length):CB prog 296 #[u,iv t] w (.bool (hC ps t e)):=by
 obtain⟨s,rfl,n⟩:=h.ex;have f:=Qo d;have o:ps.idxOf e<=8:=by have:=List.idxOf_le_length (a:=e) (l:=ps);omega
 have m:2^ps.length<=2^8:=Nat.pow_le_pow_right (by decide) c;apply xX;unfold SL;refine rN λr x p j b=>?_;refine pB (mA b (i:=0) (v:=iv ((ps.idxOf e:Nat):Int)) rfl ?_);refine eC (λg _=>oI t (ps.idxOf e) (by omega) (by omega) g) ?_;refine pB (mA b (i:=1) (v:=iv (e.kind:Int)) rfl (BA (AG λy k=>⟨?_,j.trans k⟩)));unfold hC;rw[Fk f.2,U0];cases (t.testBit (ps.idxOf e)==decide ((e.kind:Int)=5))<;>rfl
theorem fP(h:G0 w u ps e)(f:t<2^ps.length):CB prog 457 #[u,iv t] w (.bool (wI ps t e)):=by
 obtain⟨g,rfl,d⟩:=h.ex;apply y1;unfold aO;refine rN λq m l c a=>?_;refine pB (mA a (i:=2) (v:=g) rfl ?_);refine pP (j:=(t:Int)) (d.ext c).sl (by omega) (by rw[dK];omega) λp b=>?_;rw[Int.toNat_natCast,Hf f]at b;refine DD b ?_;refine pB (mA a (i:=1) (v:=iv (e.kind:Int)) rfl (BA (AG λn k=>⟨?_,c.trans k⟩)));unfold wI;rw[U0];cases (tv ps t e.inner==decide ((e.kind:Int)=5))<;>rfl
theorem fW(c:pA s<10)(w:World):CB prog 454 #[sv s] w (.bool (A7 (pA s))):=by
 apply mZ;unfold RM;refine sB (A7 (pA s)) w (λJ a=>?_) (λh g=>λ_=>⟨by first|trivial|rfl,g⟩);refine yB (b:=[84]) ?_;rw[mC c (k:=4) rfl (by decide)];refine dA (λe=>?_) (λd=>?_)
 ·rw[e]at a;exact a _ (bA.refl _)
 refine yB (b:=[83,52]) ?_;rw[mC c (k:=6) rfl (by decide)];refine dA (λe=>?_) (λf=>?_)
 ·rw[e]at a;exact a _ (bA.refl _)
 refine yB (b:=[83,53]) ?_;rw[mC c (k:=7) rfl (by decide)];have:A7 (pA s)=decide (pA s=7):=by
  unfold A7;rw[Bool.eq_iff_iff];simp[d,f]
 rw[this]at a;exact a _ (bA.refl _)
structure wu(m:Nat)(w:World)(q:Nat)(l:jA)(ps:List Fm)(vp vn vc vr va:Value):Prop where
 blk:GA 304 w q [sv l,vp,vn,vc,vr,va]
 nd:Wk m w vn ps (yF ps)
variable{q m:Nat}{l:jA}{vp vn vc vr va:Value}{a b:Nat}
theorem C2{w:World}{h:Array Value}{K:Value->World->Prop}(d:nA Z W (y.toArray++h) w K):TB Z (.func (.func W) #[] h) y w K:=⟨K,.inl ⟨W,#[],h,rfl,by simpa using d⟩,λ_ _ c=>c⟩
theorem p7{w:World}{e:TypeId}{K:Value->World->Prop}(i:vA v=true)(h:∀q c,q=w.heap.size/\c.heap.size=q+1->bA w c->GA e c q [v]->K (.pointer (some ⟨q,0,none⟩)) c):PA (Value.cells v) e w K:=
 xC λq c f g d=>h q c f g (by rw[sA i]at d;exact d)
theorem wu.ext{c:World}(h:wu m w q l ps vp vn vc vr va)(x:bA w c):wu m c q l ps vp vn vc vr va:=⟨h.blk.ext x,h.nd.ext x⟩
theorem c3(z:wu m w q l ps vp vn vc vr va)(D:pA l<10)(A:ps.length<=8)(x:t<2^ps.length):CB prog 294 #[.pointer (some ⟨q,0,none⟩),iv t] w (.bool (PC (pA l) ps t)):=by
 apply oR;unfold JI;refine GZ λO E M y B=>?_;have n:=z.ext y;refine bB (pB (mA n.blk (i:=0) (v:=sv l) rfl ?_));refine gA (fW D E) λF c=>?_;have k:=y.trans c;unfold PC;refine TA (kB (λe=>?_) (λe=>?_))
 ·rw[e];exact⟨rfl,k⟩
 rw[e,Bool.false_or];have o:=n.ext c;refine bB (pB (mA o.blk (i:=2) (v:=vn) rfl ?_));refine gA (vE (p:=λe=>hC ps t e&& !wI ps t e) o.nd λe C R u H j=>?_) λS I=>TA ⟨rfl,k.trans I⟩;refine Kl ?_;have r:=B.ext (c.trans H);obtain⟨Q,rfl,L⟩:=j.ex;apply XO;unfold sH;refine rN λP G N d s=>?_;refine sB (hC ps t e&& !wI ps t e) G (λK g=>?_) (λF c=>λ_=>⟨by first|trivial|rfl,d.trans c⟩);refine DB s rfl (mA (r.ext d) (i:=0) (v:=iv t) rfl ?_);refine gA (jD (j.ext d) C A x) λT f=>kB (λh=>?_) (λh=>?_)
 ·rw[h,Bool.true_and]at g;refine DB (s.ext f) rfl (mA (r.ext (d.trans f)) (i:=0) (v:=iv t) rfl ?_);exact gA (fP (j.ext (d.trans f)) x) λU J=>TA (g _ (f.trans J))
 ·rw[h,Bool.false_and]at g;exact g _ f
end
def d5(a:List Bool):Nat:=(a.filter id).length
theorem ij:∀{AL:List Bool} {i:Nat},i<AL.length->gt AL i=true->d5 (AL.set i false)<d5 AL
 |[],i,h,_=>absurd h (Nat.not_lt_zero i)
 |x::AL,0,_,h=>by
  have h:x=true:=h;subst h;simp[d5]
 |x::AL,i+1,h,k=>by
  have:=ij (AL:=AL) (i:=i) (by simpa using h) k;unfold d5 at this⊢;cases x<;>simp<;>exact this
theorem p2(a:n<N.length):gt (N.set x K) n=if x=n then K else gt N n:=by
 rw[LA (by rw[List.length_set];exact a),LA a,List.getElem_set]
def rM(s:Nat)(a:List Fm)(b:List Bool)(t:Nat):Bool:=(List.range (2^a.length)).any λu=>gt b u&&GW s a t u
def AR(s:Nat)(a:List Fm)(b:List Bool)(t:Nat)(e:Fm):Bool:=(List.range (2^a.length)).any λu=>gt b u&&EG s a e t u
def LW(s:Nat)(a:List Fm)(b:List Bool)(t:Nat):Bool:=!(decide (s=3)&& !rM s a b t)&& !(yF a).any λe=>!hC a t e&& !AR s a b t e
theorem oL{p:Nat->Bool}(h:∀u,u<x->p u=false):(List.range x).any p=false:=List.any_eq_false.2 λu a=>by rw[h u (List.mem_range.1 a)];decide
theorem JG{p:Nat->Bool}(a:n<x)(h:p n=true):(List.range x).any p=true:=List.any_eq_true.2 ⟨n,List.mem_range.2 a,h⟩
section
variable{ps:List Fm}{e:Fm}{t:Nat}{w:World}{u:Value}{q m:Nat}{l:jA}{vp vn vc vr va:Value}{a b:Nat}
theorem gJ(j:wu m w q l ps vp vn vc vr va)(E:pA l<10)(L:ps.length<=8)(ha:a<2^ps.length)(O:b<2^ps.length):CB prog 461 #[.pointer (some ⟨q,0,none⟩),iv a,iv b] w (.bool (lP (pA l) ps a b)):=by
 apply AX;unfold VL;refine p7 rfl λq1 w1 aa x1 X=>?_;refine GZ λq2 w2 ab V Y=>?_;refine GZ λR w3 ac H N=>?_;have I:=(x1.trans V).trans H;have C:=j.ext I;have M:=X.ext (V.trans H);have Z:=Y.ext H;refine mA M (i:=0) (v:=.pointer (some ⟨q,0,none⟩)) rfl (bB (pB (mA C.blk (i:=2) (v:=vn) rfl ?_)));refine gA (vE (p:=λe=>hC ps a e&&(if pA l=5∨pA l=9 then !wI ps b e|| !hC ps b e else if pA l=6 then !hC ps b e else !wI ps b e)) C.nd λe P c u U s=>?_) λw4 g=>TA ⟨rfl,I.trans g⟩;refine C2 ?_;obtain⟨vi,rfl,hi⟩:=id s.ex;apply UT;unfold MJ;refine rN λS w4 ad g D=>?_;have y4:=U.trans g;refine DB D rfl (mA (Z.ext y4) (i:=0) (v:=iv a) rfl ?_);refine gA (jD (s.ext g) P L ha) λw5 y=>TA (kB (λd=>?_) (λd=>?_))
 ·rw[Bool.not_eq_true']at d;rw[d,Bool.false_and];exact⟨rfl,g.trans y⟩
 rw[Bool.not_eq_false']at d;rw[d,Bool.true_and];have h:=g.trans y;have z:=U.trans h;refine mA (M.ext z) (i:=0) (v:=.pointer (some ⟨q,0,none⟩)) rfl (bB (pB (mA (C.blk.ext z) (i:=0) (v:=sv l) rfl ?_)));refine yB (b:=[75,52]) ?_;rw[mC E (k:=5) rfl (by decide)];refine WB (λxs c=>xs=[.bool (decide (pA l=5∨pA l=9))]/\c=w5) (λW f=>?_) ?_
 ·refine dA (λe=>f _ _ ⟨by rw[decide_eq_true (.inl e)],rfl⟩) (λe=>yB (b:=[71,76]) ?_);rw[mC E (k:=9) rfl (by decide)];refine f _ _ ⟨?_,rfl⟩
  congr 2
  exact decide_eq_decide.2 ⟨λj=>.inr j,λj=>j.resolve_left e⟩
 rintro _ G ⟨rfl,rfl⟩;intro _;simp only[gx];have J:∀{c:World} {K:Value->World->Prop},bA G c->(∀n,bA c n->K (.bool (hC ps b e)) n)->HA c 3 (.pointer (some ⟨S,0,none⟩)) λv=>kA c (.pointer (some ⟨R,0,none⟩)) λF=>cf 296 [v,F] c K:=λx hK=>by
  refine DB (D.ext (y.trans x)) rfl (mA (N.ext (z.trans x)) (i:=0) (v:=iv b) rfl ?_);exact gA (jD (s.ext (h.trans x)) P L O) hK
 have Q:∀{c:World} {K:Value->World->Prop},bA G c->(∀n,bA c n->K (.bool (wI ps b e)) n)->HA c 3 (.pointer (some ⟨S,0,none⟩)) λv=>kA c (.pointer (some ⟨R,0,none⟩)) λF=>cf 457 [v,F] c K:=λx hK=>by
  refine DB (D.ext (y.trans x)) rfl (mA (N.ext (z.trans x)) (i:=0) (v:=iv b) rfl ?_);exact gA (fP (s.ext (h.trans x)) O) hK
 refine dA (λA=>?_) (λA=>?_)
 ·rw[if_pos A];refine sB (!wI ps b e|| !hC ps b e) G (λW f=>?_) (λw7 o=>λ_=>⟨by first|trivial|rfl,h.trans o⟩);refine Q (bA.refl _) λw7 o=>TA (kB (λd=>?_) (λd=>?_))
  ·rw[d,Bool.true_or]at f;exact f _ o
  ·rw[d,Bool.false_or]at f;exact J o λT r=>TA (f _ (o.trans r))
 rw[if_neg A];refine yB (b:=[83,52]) ?_;rw[mC E (k:=6) rfl (by decide)];refine dA (λB=>?_) (λB=>?_)
 ·rw[if_pos B];exact J (bA.refl _) λT r=>TA ⟨rfl,h.trans r⟩
 ·rw[if_neg B];exact Q (bA.refl _) λT r=>TA ⟨rfl,h.trans r⟩
theorem o3(X:wu m w q l ps vp vn vc vr va)(y:pA l<10)(s:ps.length<=8)(r:a<2^ps.length)(D:b<2^ps.length):CB prog 302 #[.pointer (some ⟨q,0,none⟩),iv a,iv b] w (.bool (GW (pA l) ps a b)):=by
 apply I1;unfold kO;refine GZ λq1 w1 ac x1 aa=>?_;refine GZ λq2 V ad W C=>?_;have E:=x1.trans W;have o:=X.ext E;have B:=aa.ext W;unfold GW;have S:∀{f z:World} {G O a:Nat} {e:Fm} {u:Value} {K:Value->World->Prop},GA zC z G [iv ((ps.idxOf e:Nat):Int),iv (e.kind:Int),u]->GA 2 f O [iv a]->G0 f (.agg #[iv ((ps.idxOf e:Nat):Int),iv (e.kind:Int),u]) ps e->e∈yF ps->a<2^ps.length->bA z f->(∀U,bA f U->K (.bool (hC ps a e)) U)->HA f 3 (.pointer (some ⟨G,0,none⟩)) λv=>kA f (.pointer (some ⟨O,0,none⟩)) λv'=>cf 296 [v,v'] f K:=λ{f z G O a e u K} Y Z j x r H hK=>by
  refine DB (Y.ext H) rfl (mA Z (i:=0) (v:=iv a) rfl ?_);exact gA (jD j x s r) hK
 refine bB (pB (mA o.blk (i:=0) (v:=sv l) rfl ?_));refine yB (b:=[83,53]) ?_;rw[mC y (k:=7) rfl (by decide)];refine dA (λL=>?_) (λL=>?_)
 ·rw[if_pos L];refine bB (pB (mA o.blk (i:=2) (v:=vn) rfl ?_));refine gA (vE (p:=λe=>hC ps a e !=hC ps b e) o.nd λe x f u Q j=>?_) λz h=>TA ⟨rfl,E.trans h⟩;refine C2 ?_;obtain⟨vi,rfl,hi⟩:=id j.ex;apply BX;unfold WL;refine rN λG z ab h F=>?_;have I:=Q.trans h;refine DB F rfl (mA (B.ext I) (i:=0) (v:=iv a) rfl ?_);refine eC (λf H=>jD (j.ext (h.trans H)) x s r) ?_;refine DB F rfl (mA (C.ext I) (i:=0) (v:=iv b) rfl ?_);refine eC (λf H=>jD (j.ext (h.trans H)) x s D) ?_;refine AG λw5 A=>⟨?_,h.trans A⟩
  cases hC ps a e<;>cases hC ps b e<;>rfl
 rw[if_neg L];refine yB (b:=[75,66]) ?_;rw[mC y (k:=8) rfl (by decide)];refine dA (λM=>?_) (λM=>?_)
 ·rw[if_pos M];refine sB (lP (pA l) ps a b&&lP (pA l) ps b a) V (λR c=>?_) (λJ n=>λ_=>⟨by first|trivial|rfl,E.trans n⟩);refine mA B (i:=0) (v:=iv a) rfl (mA C (i:=0) (v:=iv b) rfl ?_);refine gA (gJ o y s r D) λP d=>kB (λg=>?_) (λg=>?_)
  ·rw[g,Bool.true_and]at c;refine mA (C.ext d) (i:=0) (v:=iv b) rfl (mA (B.ext d) (i:=0) (v:=iv a) rfl ?_);exact gA (gJ (o.ext d) y s D r) λJ n=>c _ (d.trans n)
  ·rw[g,Bool.false_and]at c;exact c _ d
 rw[if_neg M];refine yB (b:=[71,76]) ?_;rw[mC y (k:=9) rfl (by decide)];refine dA (λN=>?_) (λN=>?_)
 ·rw[if_pos N];refine sB (lP (pA l) ps a b&&(yF ps).any λe=>hC ps b e&& !hC ps a e) V (λR c=>?_) (λJ n=>λ_=>⟨by first|trivial|rfl,E.trans n⟩);refine mA B (i:=0) (v:=iv a) rfl (mA C (i:=0) (v:=iv b) rfl ?_);refine gA (gJ o y s r D) λP d=>kB (λg=>?_) (λg=>?_)
  ·rw[g,Bool.true_and]at c;have T:=o.ext d;refine bB (pB (mA T.blk (i:=2) (v:=vn) rfl ?_));refine gA (vE (p:=λe=>hC ps b e&& !hC ps a e) T.nd λe x f u Q j=>?_) λJ n=>c _ (d.trans n);refine C2 ?_;obtain⟨vi,rfl,hi⟩:=id j.ex;apply CX;unfold XL;refine rN λG z ab h F=>?_;have I:=(d.trans Q).trans h;refine sB (hC ps b e&& !hC ps a e) z (λR c=>?_) (λJ n=>λ_=>⟨by first|trivial|rfl,h.trans n⟩);refine S F (C.ext I) (j.ext h) x D (bA.refl _) λw5 A=>kB (λg=>?_) (λg=>?_)
   ·rw[g,Bool.true_and]at c;exact S F (B.ext (I.trans A)) (j.ext (h.trans A)) x r A λP d=>TA (c _ (A.trans d))
   ·rw[g,Bool.false_and]at c;exact c _ A
  ·rw[g,Bool.false_and]at c;exact c _ d
 rw[if_neg N];refine mA B (i:=0) (v:=iv a) rfl (mA C (i:=0) (v:=iv b) rfl ?_);exact gA (gJ o y s r D) λP d=>⟨rfl,E.trans d⟩
theorem j3(r:wu m w q l ps vp vn vc vr va)(y:pA l<10)(s:ps.length<=8)(A:a<2^ps.length)(o:b<2^ps.length)(p:G0 w u ps e)(B:e∈yF ps):CB prog 299 #[.pointer (some ⟨q,0,none⟩),u,iv a,iv b] w (.bool (EG (pA l) ps e a b)):=by
 obtain⟨I,rfl,F⟩:=id p.ex;apply pR;unfold KI;refine rN λH C G g x=>?_;unfold EG;refine sB (GW (pA l) ps a b&&(!wI ps b e&&(!(pA l==9)||hC ps b e))) C (λJ c=>?_) (λN E=>λ_=>⟨by first|trivial|rfl,g.trans E⟩);refine gA (o3 (r.ext g) y s A o) λK h=>kB (λf=>?_) (λf=>?_)
 rotate_left
 ·rw[f,Bool.false_and]at c;exact c _ h
 rw[f,Bool.true_and]at c;refine DB (x.ext h) rfl (gA (fP (p.ext (g.trans h)) o) λL z=>TA (kB (λf=>?_) (λf=>?_)))
 rotate_left
 ·rw[f,Bool.false_and]at c;exact c _ (h.trans z)
 rw[f,Bool.true_and]at c;have j:=h.trans z;refine bB (pB (mA (r.blk.ext (g.trans j)) (i:=0) (v:=sv l) rfl ?_));refine j5 (b:=[71,76]) ?_;have d:=mC y (n:=[71,76]) (k:=9) rfl (by decide);refine dA (λe=>?_) (λe=>?_)
 ·rw[decide_eq_false e]at d;have d:=of_decide_eq_false d.symm;rw[show(pA l==9)=false by simpa using d,Bool.not_false,Bool.true_or]at c;exact c _ j
 ·rw[decide_eq_true (Classical.not_not.1 e)]at d;have d:=of_decide_eq_true d.symm;rw[d]at c;exact DB (x.ext j) rfl (gA (jD (p.ext (g.trans j)) B s o) λM D=>c _ (j.trans D))
structure Hg(m:Nat)(w:World)(q:Nat)(l:jA)(ps:List Fm)(vp vn vr va:Value)(AL:List Bool):Prop where
 ty:wu m w q l ps vp vn (iv ((2^ps.length:Nat):Int)) vr va
 al:Ow m UA w va (AL.map Value.bool)
 len:AL.length=2^ps.length
variable{AL:List Bool}
theorem Hg.ext{c:World}(h:Hg m w q l ps vp vn vr va AL)(x:bA w c):Hg m c q l ps vp vn vr va AL:=⟨h.ty.ext x,h.al.ext x,h.len⟩
theorem QI(c:x<AL.length):(AL.map Value.bool)[x]?=some (.bool (gt AL x)):=by rw[LA c];simp[c]
theorem l3(h:Hg m w q l ps vp vn vr va AL)(C:pA l<10)(n:ps.length<=8)(A:a<2^ps.length):nA prog 303 #[.pointer (some ⟨q,0,none⟩),iv a] w λE c=>bA w c/\ ∃z:Int,E=iv z/\(decide (z<0)= !rM (pA l) ps AL a):=by
 have K:2^ps.length<=2^8:=Nat.pow_le_pow_right (by decide) n;have M:=h.len;apply qR;unfold LI;refine bB (pB (mA h.ty.blk (i:=3) (v:=iv ((2^ps.length:Nat):Int)) rfl ?_));refine MB (λi:Nat=>[iv i]) (λi c=>i<=2^ps.length/\bA w c/\ ∀j,j<i->(gt AL j&&GW (pA l) ps a j)=false) (λi=>2^ps.length-i) 0 rfl ⟨Nat.zero_le _,bA.refl _,λj r=>absurd r (Nat.not_lt_zero j)⟩ ?_;rintro i F I ⟨L,f,p⟩ y;intro _;simp only[gx];refine jB (dA (λD=>?_) (λD=>?_))
 ·have k:i<2^ps.length:=by omega
  have g:=h.ext f;refine WB (λH c=>H=[.bool (gt AL i&&GW (pA l) ps a i)]/\bA F c) (λJ o=>?_) ?_
  ·refine bB (pB (mA g.ty.blk (i:=5) (v:=va) rfl ?_));refine pP (j:=(i:Int)) g.al.sl (by omega) (by rw[List.length_map];omega) λO s=>?_;rw[Int.toNat_natCast,QI (by omega)]at s;refine DD s (kB (λd=>?_) (λd=>?_))
   ·exact gA (o3 g.ty C n A k) λQ G=>o _ _ ⟨by rw[d,Bool.true_and],G⟩
   ·exact o _ _ ⟨by rw[d,Bool.false_and],bA.refl _⟩
  rintro _ P ⟨rfl,x⟩;intro _;simp only[gx];refine kB (λd=>?_) (λd=>?_)
  ·refine⟨f.trans x,_,rfl,?_⟩;rw[decide_eq_false (by omega),show rM (pA l) ps AL a=true from JG k d];rfl
  ·refine qA (by omega) ?_;refine y (i+1) _ ⟨k,f.trans x,λj r=>?_⟩ (by omega);by_cases B:j=i
   ·rw[B];exact d
   ·exact p j (by omega)
 ·refine⟨f,_,rfl,?_⟩;rw[show rM (pA l) ps AL a=false from oL λu N=>p u (by omega)];rfl
theorem iW(h:Hg m w q l ps vp vn vr va AL)(I:pA l<10)(r:ps.length<=8)(E:a<2^ps.length)(o:G0 w u ps e)(F:e∈yF ps):nA prog 300 #[.pointer (some ⟨q,0,none⟩),u,iv a] w λK c=>bA w c/\ ∃B:Int,K=iv B/\(decide (B<0)= !AR (pA l) ps AL a e):=by
 have R:2^ps.length<=2^8:=Nat.pow_le_pow_right (by decide) r;have S:=h.len;obtain⟨W,rfl,G⟩:=id o.ex;apply MN;unfold fH;refine rN λV L T p C=>?_;refine bB (pB (mA (h.ty.blk.ext p) (i:=3) (v:=iv ((2^ps.length:Nat):Int)) rfl ?_));refine MB (λi:Nat=>[iv i]) (λi c=>i<=2^ps.length/\bA L c/\ ∀j,j<i->(gt AL j&&EG (pA l) ps e a j)=false) (λi=>2^ps.length-i) 0 rfl ⟨Nat.zero_le _,bA.refl _,λj y=>absurd y (Nat.not_lt_zero j)⟩ ?_;rintro i M Q ⟨G,f,x⟩ D;intro _;simp only[gx];refine jB (dA (λJ=>?_) (λJ=>?_))
 ·have n:i<2^ps.length:=by omega
  have g:=p.trans f;have k:=h.ext g;refine WB (λO c=>O=[.bool (gt AL i&&EG (pA l) ps e a i)]/\bA M c) (λP s=>?_) ?_
  ·refine bB (pB (mA k.ty.blk (i:=5) (v:=va) rfl ?_));refine pP (j:=(i:Int)) k.al.sl (by omega) (by rw[List.length_map];omega) λU z=>?_;rw[Int.toNat_natCast,QI (by omega)]at z;refine DD z (kB (λd=>?_) (λd=>?_))
   ·refine DB (C.ext f) rfl ?_;exact gA (j3 k.ty I r E n (o.ext g) F) λY N=>s _ _ ⟨by rw[d,Bool.true_and],N⟩
   ·exact s _ _ ⟨by rw[d,Bool.false_and],bA.refl _⟩
  rintro _ X ⟨rfl,A⟩;intro _;simp only[gx];refine kB (λd=>?_) (λd=>?_)
  ·refine⟨g.trans A,_,rfl,?_⟩;rw[decide_eq_false (by omega),show AR (pA l) ps AL a e=true from JG n d];rfl
  ·refine qA (by omega) ?_;refine D (i+1) _ ⟨n,f.trans A,λj y=>?_⟩ (by omega);by_cases H:j=i
   ·rw[H];exact d
   ·exact x j (by omega)
 ·refine⟨p.trans f,_,rfl,?_⟩;rw[show AR (pA l) ps AL a e=false from oL λu o=>x u (by omega)];rfl
theorem T5(O:Hg m w q l ps vp vn vr va AL)(x:pA l<10)(o:ps.length<=8)(s:a<2^ps.length):CB prog 458 #[.pointer (some ⟨q,0,none⟩),iv a] w (.bool (LW (pA l) ps AL a)):=by
 apply XT;unfold OJ;refine p7 rfl λq1 w1 Y U P=>?_;refine GZ λq2 Q Z L F=>?_;have C:=U.trans L;have j:=O.ext C;have r:=P.ext L;unfold LW;refine WB (λV J=>V=[.bool (decide (pA l=3)&& !rM (pA l) ps AL a)]/\bA Q J) (λN c=>?_) ?_
 ·refine mA r (i:=0) (v:=.pointer (some ⟨q,0,none⟩)) rfl (bB (pB (mA j.ty.blk (i:=0) (v:=sv l) rfl ?_)));refine yB (b:=[68]) ?_;rw[mC x (k:=3) rfl (by decide)];refine dA (λd=>?_) (λd=>c _ _ ⟨by rw[decide_eq_false d,Bool.false_and],bA.refl _⟩);refine mA r (i:=0) (v:=.pointer (some ⟨q,0,none⟩)) rfl (mA F (i:=0) (v:=iv a) rfl ?_);refine aA ((l3 j x o s).mono ?_);rintro _ K ⟨g,W,rfl,z⟩;exact jB (c _ _ ⟨by rw[z,decide_eq_true d,Bool.true_and],g⟩)
 rintro _ w4 ⟨rfl,h⟩;intro _;simp only[gx];have D:=C.trans h;refine kB (λd=>?_) (λd=>?_)
 ·rw[d,Bool.not_true,Bool.false_and];exact⟨rfl,D⟩
 rw[d,Bool.not_false,Bool.true_and];have n:=j.ext h;have E:=r.ext h;have G:=F.ext h;refine mA E (i:=0) (v:=.pointer (some ⟨q,0,none⟩)) rfl (bB (pB (mA n.ty.blk (i:=2) (v:=vn) rfl ?_)));refine gA (vE (p:=λe=>!hC ps a e&& !AR (pA l) ps AL a e) n.ty.nd λe I J u T y=>?_) λR f=>TA ⟨rfl,D.trans f⟩;refine C2 ?_;obtain⟨vi,rfl,X⟩:=id y.ex;apply XP;unfold bI;refine rN λq4 K aa g H=>?_;have M:=T.trans g;refine sB (!hC ps a e&& !AR (pA l) ps AL a e) K (λN c=>?_) (λS A=>λ_=>⟨by first|trivial|rfl,g.trans A⟩);refine DB H rfl (mA (G.ext M) (i:=0) (v:=iv a) rfl ?_);refine gA (jD (y.ext g) I o s) λR f=>TA (kB (λd=>?_) (λd=>?_))
 ·rw[d,Bool.true_and]at c;have B:=M.trans f;refine mA (E.ext B) (i:=0) (v:=.pointer (some ⟨q,0,none⟩)) rfl (DB (H.ext f) rfl (mA (G.ext B) (i:=0) (v:=iv a) rfl ?_));refine aA ((iW (n.ext B) x o s (y.ext (g.trans f)) I).mono ?_);rintro _ S ⟨A,W,rfl,z⟩;refine jB ?_;rw[z];exact c _ (f.trans A)
 ·rw[d,Bool.false_and]at c;exact c _ f
end
theorem ph{B:List Bool}(h:∀u,u<2^j.length->gt N u=true->gt B u=true)(k:rM x j N n=true):rM x j B n=true:=by
 obtain⟨u,b,a⟩:=List.any_eq_true.1 k;rw[Bool.and_eq_true]at a;exact JG (List.mem_range.1 b) (by rw[h u (List.mem_range.1 b) a.1,a.2];rfl)
theorem wj{B:List Bool}{r:Fm}(h:∀u,u<2^j.length->gt N u=true->gt B u=true)(k:AR x j N n r=true):AR x j B n r=true:=by
 obtain⟨u,b,a⟩:=List.any_eq_true.1 k;rw[Bool.and_eq_true]at a;exact JG (List.mem_range.1 b) (by rw[h u (List.mem_range.1 b) a.1,a.2];rfl)
theorem Dd:LW x j N n=true↔(x=3->rM x j N n=true)/\ ∀e∈yF j,hC j n e=false->AR x j N n e=true:=by
 unfold LW;rw[Bool.and_eq_true,Bool.not_eq_true',Bool.not_eq_true',List.any_eq_false];refine and_congr ?_ ⟨λh e b a=>?_,λh e b=>?_⟩
 ·cases rM x j N n<;>simp
 ·have:=h e b;rw[a]at this;simpa using this
 ·cases a:hC j n e with
  |true=>simp
  |false=>rw[h e b a];simp
theorem qg{B:List Bool}(h:∀u,u<2^j.length->gt N u=true->gt B u=true)(k:LW x j N n=true):LW x j B n=true:=by
 obtain⟨a,b⟩:=Dd.1 k;exact Dd.2 ⟨λe=>ph h (a e),λe d c=>wj h (b e d c)⟩
structure Zu(s:Nat)(ps:List Fm)(B:List Bool):Prop where
 len:B.length=2^ps.length
 ok:∀t,t<2^ps.length->gt B t=true->PC s ps t=true
 sv:∀t,t<2^ps.length->gt B t=true->LW s ps B t=true
def Mx(s:Nat)(a:List Fm)(b A:List Bool):Prop:=∀B,Zu s a B->(∀t,t<2^a.length->gt B t=true->gt b t=true)-> ∀t,t<2^a.length->gt B t=true->gt A t=true
theorem Mx.drop{A:List Bool}(h:Mx x j N A)(g:A.length=2^j.length)(f:LW x j A n=false):Mx x j N (A.set n false):=λB a c t d b=>by
 rw[p2 (by omega)];split
 ·rename_i e;subst e;have:=qg (h B a c) (a.sv _ d b);rw[f]at this;cases this
 ·exact h B a c t d b
open Classical in
noncomputable def mB(s:Nat)(f:Fm):Bool:=decide (∀B,Zu s (EA f) B-> ∀t,t<2^(EA f).length->gt B t=true->tv (EA f) t f=true)
theorem Gt{r:Fm}:mB x r=true↔ ∀B,Zu x (EA r) B-> ∀t,t<2^(EA r).length->gt B t=true->tv (EA r) t r=true:=by
 unfold mB;exact @decide_eq_true_iff _ (Classical.propDecidable _)
theorem kr{r:Fm}{A:List Bool}(h:Zu x (EA r) A)(d:∀B,Zu x (EA r) B-> ∀t,t<2^(EA r).length->gt B t=true->gt A t=true):mB x r=true↔ ∀t,t<2^(EA r).length->gt A t=true->tv (EA r) t r=true:=
 Gt.trans ⟨λk=>k A h,λk B b t a c=>k t a (d B b t a c)⟩
def Nv(n:Nat)(T:List Nat):List Bool:=(List.range n).map λt=>decide (t∈T)
theorem TV(h:n<x):gt (Nv x m) n=decide (n∈m):=by
 rw[LA (by simpa[Nv]using h)];simp[Nv]
def rJ(s:Nat)(a:List Fm)(T:List Nat)(t:Nat):Bool:=((yF a).all λe=>hC a t e||T.any λu=>EG s a e t u)&&(!(s==3)||T.any λu=>GW s a t u)
theorem Cd(d:∀u∈m,u<2^j.length):rJ x j m n=true↔LW x j (Nv (2^j.length) m) n=true:=by
 have c:∀p:Nat->Bool,m.any p=true↔((List.range (2^j.length)).any λu=>gt (Nv (2^j.length) m) u&&p u)=true:=λp=>by
  rw[List.any_eq_true,List.any_eq_true];constructor
  ·rintro⟨u,a,b⟩;exact⟨u,List.mem_range.2 (d u a),by rw[TV (d u a),decide_eq_true a,b];rfl⟩
  ·rintro⟨u,a,b⟩;rw[TV (List.mem_range.1 a),Bool.and_eq_true,decide_eq_true_eq]at b;exact⟨u,b⟩
 rw[Dd];unfold rJ;rw[Bool.and_eq_true,List.all_eq_true,and_comm];refine and_congr ?_ (forall_congr' λe=>forall_congr' λ_=>?_)
 ·by_cases e:x=3
  ·subst e;show(!true||_)=true↔_;rw[Bool.not_true,Bool.false_or,c];exact⟨λh _=>h,λh=>h rfl⟩
  ·rw[show(x==3)=false by simpa using e];simp[e]
 ·cases hC j n e with
  |true=>simp
  |false=>
   rw[Bool.false_or,c];exact⟨λh _=>h,λh=>h rfl⟩
structure Fs(s:Nat)(ps:List Fm)(T:List Nat):Prop where
 lt:∀t∈T,t<2^ps.length
 ok:∀t∈T,PC s ps t=true
 all:∀B,Zu s ps B-> ∀t,t<2^ps.length->gt B t=true->t∈T
theorem Fs.next(h:Fs x j m):Fs x j (m.filter (rJ x j m)):=by
 refine⟨λt a=>h.lt t (List.mem_filter.1 a).1,λt a=>h.ok t (List.mem_filter.1 a).1,λB b t a c=>List.mem_filter.2 ⟨h.all B b t a c,?_⟩⟩;exact(Cd h.lt).2 (qg (λu d e=>by rw[TV d];exact decide_eq_true (h.all B b u d e)) (b.sv t a c))
theorem Fs.mB{r:Fm}(h:Fs x (EA r) m)(d:∀t∈m,rJ x (EA r) m t=true):mB x r=true↔ ∀t∈m,tv (EA r) t r=true:=by
 refine(kr (A:=Nv (2^(EA r).length) m) ⟨by simp[Nv],λt a b=>?_,λt a b=>?_⟩ λB c t a b=>?_).trans ⟨λk t a=>?_,λk t a b=>?_⟩
 ·rw[TV a,decide_eq_true_eq]at b;exact h.ok t b
 ·rw[TV a,decide_eq_true_eq]at b;exact(Cd h.lt).1 (d t b)
 ·rw[TV a];exact decide_eq_true (h.all B c t a b)
 ·exact k t (h.lt t a) (by rw[TV (h.lt t a)];exact decide_eq_true a)
 ·rw[TV a,decide_eq_true_eq]at b;exact k t b
theorem TY{b:Type}{p:b->Bool}:∀{L:List b},(L.filter p).length=L.length-> ∀x∈L,p x=true
 |[],_,x,h=>by cases h
 |y::L,e,x,h=>by
  have c:=List.length_filter_le p L;cases a:p y with
  |false=>rw[List.filter_cons_of_neg (by simp[a])]at e;simp at e;omega
  |true=>
   rw[List.filter_cons_of_pos a]at e;rcases List.mem_cons.1 h with rfl|h
   ·exact a
   ·exact TY (by simpa using e) x h
def aU(s:Nat)(a b c:Bool):Bool:=if s=5∨s=9 then !(a&&(!c|| !b))else if s=6 then !(a&& !b)else if s=7 then a==b else !(a&& !c)
def ld(s:Nat)(a:List Fm)(c b:Nat):Bool:=((yF a).all λe=>aU s (hC a c e) (hC a b e) (wI a b e))&&(!(s==9)||(yF a).any λe=>hC a b e&& !hC a c e)
theorem Kr:GW x j n f=(ld x j n f&&(!(x==8)||ld x j f n)):=by
 have h:∀n f,¬x=7->lP x j n f=(yF j).all λe=>aU x (hC j n e) (hC j f e) (wI j f e):=λn f a=>by
  unfold lP aU;rw[List.any_eq_not_all_not,Bool.not_not]
  congr 1
  funext e
  by_cases b:x=5∨x=9
  ·simp only[if_pos b]
  ·by_cases g:x=6
   ·simp only[if_neg b,if_pos g]
   ·simp only[if_neg b,if_neg g,if_neg a]
 unfold GW ld;by_cases a:x=7
 ·subst a;rw[if_pos rfl,List.any_eq_not_all_not,Bool.not_not];show _=((_&&(!false||_))&&(!false||_));rw[Bool.not_false,Bool.true_or,Bool.true_or,Bool.and_true,Bool.and_true]
  congr 1
  funext e
  show(!(hC j n e !=hC j f e))=aU 7 _ _ _;unfold aU;cases hC j n e<;>cases hC j f e<;>rfl
 ·rw[if_neg a,<-h n f a,<-h f n a];by_cases c:x=8
  ·subst c;rw[if_pos rfl];show _=((_&&(!false||_))&&(!true||(_&&(!false||_))));simp
  ·rw[if_neg c,show(x==8)=false by simpa using c];by_cases d:x=9
   ·subst d;rw[if_pos rfl];show _=((_&&(!true||_))&&_);simp
   ·rw[if_neg d,show(x==9)=false by simpa using d];simp
theorem aX{ps:List Fm}{p:Fm->Bool}:((List.range ps.length).all λi=>!(gt ps i).modal||p (gt ps i))=(yF ps).all p:=by
 rw[Bool.eq_iff_iff,List.all_eq_true,List.all_eq_true];constructor
 ·intro h f d;obtain⟨b,c⟩:=List.mem_filter.1 d;obtain⟨i,a,rfl⟩:=List.getElem_of_mem b;have:=h i (List.mem_range.2 a);rw[LA a,c]at this;simpa using this
 ·intro h i a;have a:=List.mem_range.1 a;rw[LA a];cases e:(ps[i]).modal with
  |false=>rfl
  |true=>rw[h _ (List.mem_filter.2 ⟨List.getElem_mem a,e⟩)];rfl
theorem D5{ps:List Fm}{p:Fm->Bool}:((List.range ps.length).any λi=>(gt ps i).modal&&p (gt ps i))=(yF ps).any p:=by
 have:=aX (ps:=ps) (p:=λe=>!p e);rw[List.any_eq_not_all_not,List.any_eq_not_all_not,<-this]
 congr 2
 funext i
 cases (gt ps i).modal<;>cases p (gt ps i)<;>rfl
abbrev VK(n:Nat):jA:=Lib.decDigits n
theorem lj(h:¬n<10):VK n=VK (n/10)++[UInt8.ofNat (48+n%10)]:=by unfold VK;conv=>lhs;rw[Lib.decDigits,dif_neg h]
def RY(w:World):Prop:=Lib.TabIs prog w "internal/strconv.uint64pow10" .u64 Lib.pow10Tab
theorem RY.ext(h:RY w)(x:bA w a):RY a:=by
 unfold RY Lib.TabIs World.var? at h⊢;cases c:prog.globalNamed "internal/strconv.uint64pow10" with
 |none=>rw[c]at h;exact h
 |some g=>
  rw[c]at h;simp only[Option.bind_some]at h⊢;have d:g<w.heap.size:=by
   rcases Nat.lt_or_ge g w.heap.size with b|b
   ·exact b
   ·rw[Array.getElem?_eq_none b]at h;cases h
  rw[Go.RowKit.Below.block x g d];exact h
theorem oT(d:x<=1099511627776)(b:RY w):CB prog 75 #[iv x] w (sv (VK x)):=by
 apply Ga;unfold xU;refine gA (v:=sv (VK x)) ?_ λa c=>⟨rfl,c⟩
 apply KX;unfold fM;refine aA (nA.mono (R:=λv a=>v=sv (VK x)/\bA w a) ⟨⟨_,Oj.f246,by kernel_rfl,by kernel_rfl⟩,?_⟩ λv a h=>h);refine(Go.Proofs.Any.internal_strconv_FormatInt_10 Oj (x:Int) (by omega) (by omega) w b).mono ?_;rintro e a ⟨rfl,k,f,rfl⟩;refine⟨_,rfl,?_,Lib.below_grow _ _ (Nat.le_refl _) _ _⟩;have:Lib.itoa (x:Int)=VK x:=by
  unfold Lib.itoa;rw[if_neg (by omega),Int.toNat_natCast]
 rw[this]
def rk:Fm->Nat->Bool
 | .and a b,n=>rk a n&&rk b n
 | .or a b,n=>rk a n||rk b n
 | .imp a b,n=>!rk a n||rk b n
 | .box a,n=>(List.range n).all (rk a)
 | .dia a,n=>(List.range n).any (rk a)
 | .var _,_=>false
 | .fls,_=>false
def uF(a:jA):List jA->jA
 |[]=>[]
 |[t]=>t
 |t::u::R=>t++a++uF a (u::R)
theorem fK:∀{R:List jA},R≠[]->uF s (Y::R)=Y++s++uF s R
 |[],h=>absurd rfl h
 |_::_,_=>rfl
theorem Hc{b t:jA}:∀{R:List jA},R≠[]->uF b (R++[t])=uF b R++b++t
 |[],h=>absurd rfl h
 |[x],_=>by simp[uF]
 |x::y::R,_=>by
  have:=Hc (b:=b) (t:=t) (R:=y::R) (by simp);rw[List.cons_append,fK (R:=y::R++[t]) (by simp),this,fK (R:=y::R) (by simp)];simp only[List.append_assoc]
theorem Kf:∀R:List jA,uF [] R=R.flatten
 |[]=>rfl
 |[t]=>by simp[uF]
 |t::u::R=>by rw[fK (by simp),Kf (u::R)];simp
theorem AM{b:jA}:∀{R:List jA} {m:Nat},(∀t∈R,t.length<=m)->(uF b R).length<=R.length*(m+b.length)
 |[],_,_=>by simp[uF]
 |[t],m,h=>by have:=h t (by simp);simp[uF];omega
 |t::u::R,m,h=>by
  have d:=h t (by simp);have a:=AM (b:=b) (R:=u::R) (m:=m) λx c=>h x (List.mem_cons_of_mem _ c);rw[fK (by simp)];simp only[List.length_append,List.length_cons]at a⊢;rw[Nat.succ_mul];omega
def QO(f:Fm):Bool:=!rk f 60
def pU(f:Fm):List Nat:=(List.range 61).filter λn=>rk f n==QO f
def tx:jA:=[97,108,108]
def lw:jA:=[110,111,110,101]
def Nk:jA:=[98,117,116]
def Jd:jA:=[111,110,108,121]
def px(f:Fm):jA:=if pU f=[]then(if QO f then lw else tx)else uF [32] ((if QO f then Jd else Nk)::(pU f).map VK)
def Tk(f:Fm)(m:Nat):Prop:=m<2^61/\ ∀n,n<61->m.testBit n=rk f n
theorem jr:x&&& (2^n-1)=2^n-1↔ ∀i,i<n->x.testBit i=true:=by
 constructor
 ·intro h i a;have:=congrArg (Nat.testBit · i) h;simpa[Nat.testBit_and,Nat.testBit_two_pow_sub_one,a]using this
 ·intro h;refine Nat.eq_of_testBit_eq λi=>?_;rw[Nat.testBit_and,Nat.testBit_two_pow_sub_one];by_cases a:i<n
  ·rw[h i a];simp
  ·simp[a]
def A4(m:Nat):Nat->Nat
 |0=>0
 |n+1=>if m&&& (2^n-1)=2^n-1 then A4 m n|||2^n else A4 m n
theorem T0(m:Nat):∀n i,(A4 m n).testBit i=(decide (i<n)&&(List.range i).all λj=>m.testBit j)
 |0,i=>by simp[A4]
 |n+1,i=>by
  have c:=T0 m n i;have a:((List.range n).all λj=>m.testBit j)=decide (m&&& (2^n-1)=2^n-1):=by
   rw[Bool.eq_iff_iff,decide_eq_true_eq,jr,List.all_eq_true];exact⟨λh i b=>h i (List.mem_range.2 b),λh i b=>h i (List.mem_range.1 b)⟩
  unfold A4;split
  ·rename_i h;rw[decide_eq_true h]at a;rw[Nat.testBit_or,c,Nat.testBit_two_pow];by_cases e:n=i
   ·subst e;rw[a];simp
   ·rw[decide_eq_false e,Bool.or_false,decide_eq_decide.2 (show i<n↔i<n+1 by omega)]
  ·rename_i h;rw[decide_eq_false h]at a;rw[c];by_cases e:i=n
   ·subst e;rw[a];simp
   ·rw[decide_eq_decide.2 (show i<n↔i<n+1 by omega)]
theorem R9(m:Nat):A4 m n<2^n:=Nat.lt_pow_two_of_testBit _ λi a=>by rw[T0,decide_eq_false (by omega),Bool.false_and]
theorem Xt{r:Fm}(h:Tk r x):Tk (.box r) (A4 x 61):=⟨R9 x,λn b=>by
 rw[T0,decide_eq_true b,Bool.true_and];show _=(List.range n).all (rk r);rw[Bool.eq_iff_iff,List.all_eq_true,List.all_eq_true];exact⟨λk i a=>by rw[<-h.2 i (by have:=List.mem_range.1 a;omega)];exact k i a,λk i a=>by rw[h.2 i (by have:=List.mem_range.1 a;omega)];exact k i a⟩⟩
theorem S2(a:x<2^61)(b:n<61):(2^61-1-x).testBit n= !x.testBit n:=by
 rw[show 2^61-1-x=2^61-(x+1)by omega,Nat.testBit_two_pow_sub_succ a,decide_eq_true b,Bool.true_and]
theorem Yt{r:Fm}(h:Tk r x):Tk (.dia r) (2^61-1-A4 (2^61-1-x) 61):=⟨by omega,λn b=>by
 rw[S2 (R9 _) b,T0,decide_eq_true b,Bool.true_and];show _=(List.range n).any (rk r);rw[List.any_eq_not_all_not]
 congr 1
 rw[Bool.eq_iff_iff,List.all_eq_true,List.all_eq_true];exact⟨λk i a=>by rw[<-h.2 i (by have:=List.mem_range.1 a;omega),<-S2 h.1 (by have:=List.mem_range.1 a;omega)];exact k i a,λk i a=>by rw[S2 h.1 (by have:=List.mem_range.1 a;omega),h.2 i (by have:=List.mem_range.1 a;omega)];exact k i a⟩⟩
theorem Wt{r:Fm}(h:Tk r x)(a:Tk P n):Tk (.and r P) (x&&& n):=⟨Nat.and_lt_two_pow _ a.1,λc b=>by rw[Nat.testBit_and,h.2 c b,a.2 c b];rfl⟩
theorem Vv{r:Fm}(h:Tk r x)(a:Tk P n):Tk (.or r P) (x|||n):=⟨Nat.or_lt_two_pow h.1 a.1,λc b=>by rw[Nat.testBit_or,h.2 c b,a.2 c b];rfl⟩
theorem iu{r:Fm}(h:Tk r x)(b:Tk P n):Tk (.imp r P) ((2^61-1-x)|||n):=⟨Nat.or_lt_two_pow (by omega) b.1,λc a=>by rw[Nat.testBit_or,S2 h.1 a,h.2 c a,b.2 c a];rfl⟩
theorem Zt:Tk .fls 0:=⟨by decide,λn _=>by simp[rk]⟩
theorem Ye(h:MO o G=true):zK o G=true/\(G.length:Int)=o:=by
 unfold MO at h;rw[Bool.and_eq_true]at h;refine⟨h.1,?_⟩;have a:=h.1;unfold zK at a;rw[Bool.and_eq_true,Bool.and_eq_true,decide_eq_true_eq,decide_eq_true_eq]at a;exact a.1.2
section
variable{f:Fr}{mask:Nat}
theorem ZW(m:Nat):(EE m).Nodup:=by
 unfold EE xI;exact List.Nodup.sublist List.filter_sublist List.nodup_range
end
def om(f:Fr)(k:Nat):List Nat:=(List.range k).filter λm=>decide (BG f.a m f.n=m)
def RA(f:Fr):List Nat:=om f (2^f.n)
theorem Hk(f:Fr)(k:Nat):om f (k+1)=if BG f.a k f.n=k then om f k++[k]else om f k:=by
 unfold om;rw[List.range_succ,List.filter_append];by_cases h:BG f.a k f.n=k
 ·rw[if_pos h];simp[h]
 ·rw[if_neg h];simp[h]
theorem tg(h:x∈RA A):x<2^A.n:=List.mem_range.1 (List.mem_filter.1 h).1
theorem Bi(f:Fr)(k:Nat):(om f k).length<=k:=by
 have:=List.length_filter_le (λm=>decide (BG f.a m f.n=m)) (List.range k)
 rwa [List.length_range]at this
theorem E0(a:A.ok):(RA A).length<=256:=by
 refine Nat.le_trans (Bi A _) ?_;exact(Nat.pow_le_pow_right (by omega) a.1:2^A.n<=2^8)
theorem F9(m:Nat)(j:m<2^63)(w:World):nA prog 490 #[iv m] w λv b=>bA w b/\Ow w.heap.size KA b v (JA (MA (EE m))):=by
 apply Va;unfold LU;refine PH λC D _ r t=>?_;refine⟨λn o b=>∃(k:Nat) (v:Value),o=[iv ((m>>>k:Nat):Int),v,iv k]/\n=64-k/\k<=63/\bA w b/\Ow w.heap.size KA b v (JA (MA (xI m k))),⟨64,0,_,rfl,rfl,by omega,r,t⟩,?_⟩;rintro n o E ⟨k,v,rfl,rfl,y,c,a⟩
 (intro _;(try simp only[gx]);(with_reducible refine jB ?_))
 refine dA (λf=>?_) (λf=>?_)
 ·have z:=Fn (m:=m) (k:=k) (Int.natCast_pos.1 f) j;have A:=ZI m k;have x:(JA (MA (xI m k))).length=(xI m k).length:=by rw[SA,WA]
  have B:m>>>k<=m:=Nat.shiftRight_le _ _;refine Rq (by omega) ?_;have q:((m>>>k:Nat):Int)%2=((m.testBit k).toNat:Nat):=by rw[<-Dk];omega
  rw[q];have i:((m>>>k:Nat):Int)/2=((m>>>(k+1):Nat):Int):=by rw[Lr];omega
  have e:=gK m k
  (with_reducible refine BA ?_)
  cases d:m.testBit k
  ·rw[d]at e;have g:xI m (k+1)=xI m k:=by simpa using e
   refine Ji ?_;refine dA (λh=>absurd h (by simp)) (λ_=>?_)
   (intro _;(try simp only[gx]);refine qA (by omega) ?_)
   refine d9 (by omega) ?_;rw[i];refine⟨64-(k+1),by omega,k+1,v,rfl,rfl,by omega,c,?_⟩;rw[g];exact a
  ·rw[d]at e;have g:xI m (k+1)=xI m k++[k]:=by simpa using e
   refine Ji ?_;refine dA (λ_=>?_) (λh=>absurd (show(((true:Bool).toNat:Nat):Int)=1 by rfl) h);refine nT TH RH rfl a rfl (by omega) (by omega) c.size λu F l s=>?_;rw[l5,<-g]at l
   (intro _;(try simp only[gx]);refine qA (by omega) ?_)
   refine d9 (by omega) ?_;rw[i];exact⟨64-(k+1),by omega,k+1,u,rfl,rfl,by omega,c.grown s (λp d=>(a.blk p d).1),l⟩
 ·rw[y5 j (Nat.eq_zero_of_not_pos λh=>f (Int.natCast_pos.2 h))]at a;exact⟨c,a⟩
def Ou(a:List Nat)(b:List Nat)(k:Nat):Nat:=((b.take k).map λi=>a.getD i 0).foldl (· ||| ·) 0
theorem Zj(b a:List Nat)(k:Nat)(h:k<a.length):Ou b a (k+1)=Ou b a k|||b.getD a[k] 0:=by
 unfold Ou;rw[List.take_succ_eq_append_getElem h,List.map_append,List.foldl_append];rfl
theorem Tl(h:∀x∈m,x<2^n)(a:List Nat):∀k,k<=a.length->Ou m a k<2^n
 |0,_=>by simp[Ou];exact Nat.two_pow_pos n
 |k+1,hk=>by
  rw[Zj m a k (by omega)];refine Nat.or_lt_two_pow (Tl h a k (by omega)) ?_;by_cases b:a[k]<m.length
  ·simp only[List.getD_eq_getElem?_getD,List.getElem?_eq_getElem b,Option.getD_some];exact h _ (List.getElem_mem _)
  ·simp[List.getD_eq_getElem?_getD,List.getElem?_eq_none (Nat.le_of_not_lt b)];exact Nat.two_pow_pos n
theorem Rj(b:n<=62)(a:x<2^n):xI x n=EE x:=
 y5 (Nat.lt_of_lt_of_le a (Nat.pow_le_pow_right (by omega) (by omega))) (by rw[Nat.shiftRight_eq_div_pow];exact Nat.div_eq_of_lt a)
theorem Br(b:n<=62)(a:x<2^n):Ou m (EE x) (EE x).length=BG m x n:=by
 unfold Ou BG;rw[List.take_length,Rj b a]
theorem Ih(b:n<=62)(a:x<2^n):∀d∈EE x,d<n:=by
 rw[<-Rj b a];exactλ_ c=>Ht c
theorem Re(s:jL w v m)(n:m.length<=8)(e:∀x∈m,x<2^m.length)(a:Nat)(f:a<2^m.length):CB prog 685 #[v,iv a] w (iv ((BG m a m.length:Nat):Int)):=by
 apply Ng;unfold L0;have c:∀z,z<2^m.length->z<2^8:=λz y=>Nat.lt_of_lt_of_le y (Nat.pow_le_pow_right (by omega) n);have G:=c a f;refine aA ((eJ a (by omega) w).mono ?_);rintro B i ⟨g,q⟩;have H:(EE a).length<=63:=ZI _ _;have p:=Ih (by omega) f;have u:jL i B (EE a):=q.sl
 (with_reducible refine WC (by assumption) ?_)
 refine MB (λk:Nat=>[iv ((Ou m (EE a) k:Nat):Int),iv k]) (λk C=>k<=(EE a).length/\bA i C) (λk=>(EE a).length-k) 0 rfl ⟨Nat.zero_le _,bA.refl _⟩ ?_;rintro k M D ⟨F,b⟩ l;have L:=u.ext b;have K:=(s.ext g).ext b
 (intro _;(try simp only[gx]);(with_reducible refine jB ?_))
 refine dA (λj=>?_) (λj=>?_)
 ·have d:k<(EE a).length:=by omega
  have o:(EE a).getD k 0=(EE a)[k]:=FZ d;have h:=p _ (List.getElem_mem d)
  (with_reducible refine tE (by assumption) ?_ (λA r=>?_));omega;(with_reducible refine DD (by assumption) ?_);(with_reducible refine tE (by assumption) ?_ (λA r=>?_));omega;(with_reducible refine DD (by assumption) ?_)
  rw[o];have I:=c _ (Tl e (EE a) k (by omega));have J:=c _ (Tl e (EE a) (k+1) (by omega));have t:=Zj m (EE a) k d;have E:m.getD (EE a)[k] 0<2^8:=by
   rw[FZ h];exact c _ (e _ (List.getElem_mem h))
  refine SV (by omega) (by omega) ?_;rw[<-t];refine qA (by omega) ?_;exact l (k+1) _ ⟨by omega,b⟩ (by omega)
 ·obtain rfl:k=(EE a).length:=by omega
  rw[Br (by omega) f];exact⟨rfl,g.trans b⟩
theorem HO{f:Fr}(m:f.ok)(P:jL w v f.a):nA prog 364 #[.agg #[iv (f.n:Int),v]] w λu a=>bA w a/\Ow w.heap.size KA a u (JA (MA (RA f))):=by
 apply U4;unfold JP;have L:=m.1;have M:=m.2.1;have W:2^f.n<=2^8:=Nat.pow_le_pow_right (by omega) L;have aa:=Nat.two_pow_pos f.n;refine xC λp w1 X q h=>?_;refine PH λS T _ r n=>?_;have I:=q.trans r;have n:=n.mono q.size;obtain⟨e,O,h⟩:∃e,KA≠e/\GA e T p [iv (f.n:Int),v]:=⟨_,by decide,h.ext r⟩
 refine MB (λs:Value×Nat=>[s.1,iv (s.2:Int)]) (λs a=>s.2<=2^f.n/\bA w a/\GA e a p [iv (f.n:Int),v]/\Ow w.heap.size KA a s.1 (JA (MA (om f s.2)))) (λs=>2^f.n-s.2) (S,0) rfl ⟨Nat.zero_le _,I,h,n⟩ ?_;rintro⟨u,k⟩ C V ⟨y,J,G,o⟩ t;have y:k<=2^f.n:=y;have o:Ow w.heap.size KA C u (JA (MA (om f k))):=o
 (intro _;(try simp only[gx]);(with_reducible refine pB ?_);refine mA (by assumption) (by first|rfl|simp) ?_)
 refine gA (oG f.n (by omega) C) λw5 d=>?_;have j:=J.trans d;have H:=G.ext d;have A:=o.ext d;have Q:=P.ext j
 (with_reducible refine LF ?_)
 refine dA (λE=>?_) (λE=>?_)
 ·have Z:k<2^f.n:=by omega
  have c:=Hk f k;have B:=b6 Q (show f.n<=62 by omega) m.2.2 (by omega) k (by omega);rw[M]at B
  (with_reducible refine pB ?_);refine mA (by assumption) (by first|rfl|simp) ?_
  refine gA B λU g=>?_;have l:=j.trans g;have i:=H.ext g;have b:=A.ext g
  (with_reducible refine BA ?_)
  refine dA (λF=>?_) (λF=>?_)
  ·rw[if_pos (show BG f.a k f.n=k by omega)]at c;have Y:(JA (MA (om f k))).length<=k:=by rw[SA,WA];exact Bi f k
   refine nT TH RH rfl b rfl (by omega) (by omega) l.size λR w8 z x=>?_;rw[l5,<-c]at z;refine qA (by omega) ?_;exact t (R,k+1) _ ⟨by show k+1<=2^f.n;omega,l.grown x (λD K=>(b.blk D K).1),i.grown x (b.ne_blk i O),z⟩ (by show 2^f.n-(k+1)<2^f.n-k;omega)
  ·rw[if_neg (show¬BG f.a k f.n=k by omega)]at c;refine qA (by omega) ?_;exact t (u,k+1) _ ⟨by show k+1<=2^f.n;omega,l,i,by show Ow w.heap.size KA U u (JA (MA (om f (k+1))));rw[c];exact b⟩ (by show 2^f.n-(k+1)<2^f.n-k;omega)
 ·have N:k=2^f.n:=by omega
  subst N;exact⟨j,A⟩
theorem bJ(n:Nat)(a:n<=8)(v:Value)(w:World):CB prog 587 #[.agg #[iv n,v]] w (iv ((2^n-1:Nat):Int)):=by
 apply C4;unfold rP;have c:2^n<=2^8:=Nat.pow_le_pow_right (by omega) a;have f:=Nat.two_pow_pos n;refine xC λb g e h d=>?_
 (with_reducible refine pB ?_);refine mA (by assumption) (by first|rfl|simp) ?_
 refine HH (by omega) ?_;refine HB (by omega) ?_;exact⟨by congr 1;omega,h⟩
theorem eU(b:A.ok)(p:jL w v A.a)(m:Nat)(n:m<2^A.n):CB prog 588 #[.agg #[iv (A.n:Int),v],iv m] w (.bool (decide (BG A.a m A.n=m))):=by
 apply xV;unfold EK;have l:=b.1;have c:=b.2.1;have t:2^A.n<=2^8:=Nat.pow_le_pow_right (by omega) l;refine xC λs e x h j=>?_;refine sB (decide (BG A.a m A.n=m)) e (λJ k=>?_) (λy g=>?_)
 ·(with_reducible refine pB ?_);refine mA (by assumption) (by first|rfl|simp) ?_
  refine gA (cW A.n m (by omega) e) λz a=>?_;have u:=j.ext a;have q:=(p.ext h).ext a;have o:(decide (A.n<=30)&&t7 A.n (m:Int))=true:=by
   unfold t7;rw[Bool.and_eq_true,decide_eq_true_eq,decide_eq_true_eq];omega
  rw[o];refine iA rfl ?_;have d:=Re q (by omega) (by rw[c];exact b.2.2) m (by rw[c];exact n);rw[c]at d
  (with_reducible refine pB ?_);refine mA (by assumption) (by first|rfl|simp) ?_
  refine gA d λr i=>?_
  (with_reducible refine BA ?_)
  have:=k r (a.trans i);have f:decide (((BG A.a m A.n:Nat):Int)=(m:Int))=decide (BG A.a m A.n=m):=decide_eq_decide.2 (by omega);rw[f];exact this
 ·(intro _;(try simp only[gx]))
  exact⟨by trivial,h.trans g⟩
theorem aL(m:A.ok)(J:jL w v A.a):nA prog 443 #[.agg #[iv (A.n:Int),v]] w λu a=>bA w a/\Ow w.heap.size KA a u (JA (MA (RA A))):=by
 apply oX;unfold KL;have q:=m.1;have T:=m.2.1;have R:2^A.n<=2^8:=Nat.pow_le_pow_right (by omega) q;have V:=Nat.two_pow_pos A.n;refine xC λn M S B h=>?_
 (with_reducible refine DB (by assumption) ?_ ?_);rfl
 refine gA (bJ A.n q v M) λN o=>?_;have E:=B.trans o;obtain⟨e,I,h⟩:∃e,KA≠e/\GA e N n [iv (A.n:Int),v]:=⟨_,by decide,h.ext o⟩
 refine qA (by omega) ?_;have z:((2^A.n-1:Nat):Int)+1=((2^A.n:Nat):Int):=by omega
 rw[z];refine MB (λs:Value×Nat=>[s.1,iv (s.2:Int)]) (λs a=>s.2<=2^A.n/\bA w a/\GA e a n [iv (A.n:Int),v]/\Ow w.heap.size KA a s.1 (JA (MA (om A s.2)))) (λs=>2^A.n-s.2) (.slice none 0 0,0) rfl ⟨Nat.zero_le _,E,h,Ow.nil _ _ _⟩ ?_;rintro⟨u,k⟩ O Q ⟨t,j,D,b⟩ p;have t:k<=2^A.n:=t;have b:Ow w.heap.size KA O u (JA (MA (om A k))):=b;have K:=J.ext j
 (intro _;(try simp only[gx]);(with_reducible refine jB ?_))
 refine dA (λC=>?_) (λC=>?_)
 ·have G:k<2^A.n:=by omega
  have d:=Hk A k
  (with_reducible refine DB (by assumption) ?_ ?_);rfl
  refine gA (eU m K k G) λP f=>?_;have l:=j.trans f;have i:=D.ext f;have c:=b.ext f;refine dA (λg=>?_) (λg=>?_)
  ·rw[if_pos g]at d;have U:(JA (MA (om A k))).length<=k:=by rw[SA,WA];exact Bi A k
   refine nT TH RH rfl c rfl (by omega) (by omega) l.size λL W x r=>?_;rw[l5,<-d]at x;refine qA (by omega) ?_;exact p (L,k+1) _ ⟨by show k+1<=2^A.n;omega,l.grown r (λy F=>(c.blk y F).1),i.grown r (c.ne_blk i I),x⟩ (by show 2^A.n-(k+1)<2^A.n-k;omega)
  ·rw[if_neg g]at d;refine qA (by omega) ?_;exact p (u,k+1) _ ⟨by show k+1<=2^A.n;omega,l,i,by show Ow w.heap.size KA P u (JA (MA (om A (k+1))));rw[d];exact c⟩ (by show 2^A.n-(k+1)<2^A.n-k;omega)
 ·have H:k=2^A.n:=by omega
  subst H;exact⟨j,b⟩
theorem M9{l:List Nat}(p:jL w v l)(n:l.length<=1099511627776):nA prog 639 #[v] w λs h=>bA w h/\ ∃g,s= .agg #[iv (l.length:Int),g]/\Ow w.heap.size KA h g (JA (MA l)):=by
 apply Hb;unfold jV;refine xC λc A z b e=>?_;have q:=p.ext b
 (with_reducible refine WC (by assumption) ?_)
 refine aA ((Uc q (by rw[WA];exact n)).mono ?_);rintro u B ⟨d,a⟩;have j:=e.ext d;have m:=b.trans d;have r:=b.size;have o:u.ownBlock≠some c:=λi=>by have:=(a.blk c i).1;have:=e.lt;omega
 obtain⟨t,y,x,rfl⟩:=a.shape;refine GD (cs:=#[iv (l.length:Int),.slice t y x]) (by simp[Instr.fill,Value.cells]) ?_;refine Ac j rfl rfl (a.pair _) λC f k=>?_;refine DB k rfl ?_;exact⟨m.upd f (by omega),_,rfl,(a.mono r).upd f o⟩
theorem Ul(h:MO o G=true):Po (Fe o G)/\o=((Fe o G).n:Int)/\G=MA (Fe o G).a:=by
 have a:=Ye h;unfold MO at h;rw[Bool.and_eq_true]at h;obtain⟨b,d,c⟩:=rc a.1;exact⟨jx b h.2,d,c⟩
def Fr.r(f:Fr)(x y:Nat):Prop:=(f.a.getD x 0).testBit y=true
theorem pm(d:Po A):x∈RA A↔x<2^A.n/\ ∀v u,x.testBit v=true->A.r v u->x.testBit u=true:=by
 unfold RA om;rw[List.mem_filter,List.mem_range,decide_eq_true_eq];refine and_congr_right λg=>?_;constructor
 ·intro h v u i e;rw[<-h,fX];exact⟨v,(TW d.ok e).1,i,e⟩
 ·intro h;apply Nat.eq_of_testBit_eq;intro j;rw[Bool.eq_iff_iff,fX];constructor
  ·rintro⟨k,_,f,a⟩;exact h k j f a
  ·intro a;have c:j<A.n:=by
    rcases Nat.lt_or_ge j A.n with b|b
    ·exact b
    ·rw[Nat.testBit_lt_two_pow (Nat.lt_of_lt_of_le g (Nat.pow_le_pow_right (by omega) b))]at a;cases a
   exact⟨j,c,a,d.refl j c⟩
def zt(f:Fr)(a b:Nat):Nat:=dL ((List.range f.n).filter λi=>decide (bD (f.a.getD i 0) (bD (2^f.n-1) a|||b)=0))
section
universe u
variable{α:Type u}{enc:α->Value}
end
def Aa(a:List Nat)(m k:Nat):Nat:=dL ((List.range k).filter λi=>decide (bD (a.getD i 0) m=0))
theorem xf(a:List Nat)(m k:Nat):Aa a m (k+1)=if bD (a.getD k 0) m=0 then Aa a m k|||2^k else Aa a m k:=by
 unfold Aa;rw[List.range_succ,List.filter_append];by_cases h:bD (a.getD k 0) m=0
 ·rw[if_pos h,<-HN,List.filter_cons,if_pos (decide_eq_true h),List.filter_nil]
 ·rw[if_neg h,List.filter_cons,if_neg (by rw[decide_eq_true_eq];exact h),List.filter_nil,List.append_nil]
theorem Cm(a:List Nat)(m k:Nat):Aa a m k<2^k:=HW λ_ b=>List.mem_range.1 (List.mem_filter.1 b).1
theorem wm:x&&& n=x↔bD x n=0:=by
 rw[EH];constructor
 ·intro h i a;rw[<-h,Nat.testBit_and,Bool.and_eq_true]at a;exact a.2
 ·intro h;apply Nat.eq_of_testBit_eq;intro i;rw[Nat.testBit_and];cases b:x.testBit i
  ·rfl
  ·rw[h i b];rfl
theorem Xj(n:jL w v m)(u:m.length<=8)(i:∀x∈m,x<2^8)(a:Nat)(l:a<2^63):CB prog 718 #[v,iv a] w (iv ((Aa m a m.length:Nat):Int)):=by
 apply ll;unfold na
 (with_reducible refine WC (by assumption) ?_)
 refine MB (λk:Nat=>[iv ((Aa m a k:Nat):Int),iv k]) (λk o=>k<=m.length/\bA w o) (λk=>m.length-k) 0 rfl ⟨Nat.zero_le _,bA.refl w⟩ ?_;rintro k p q ⟨t,b⟩ f;have z:=n.ext b
 (intro _;(try simp only[gx]);(with_reducible refine jB ?_))
 refine dA (λh=>?_) (λh=>?_)
 ·have j:k<m.length:=by omega
  have r:m.getD k 0<2^8:=j2 i j;have s:Aa m a k<2^8:=Nat.lt_of_lt_of_le (Cm m a k) (Nat.pow_le_pow_right (by omega) (by omega));have c:=xf m a k
  (with_reducible refine tE (by assumption) ?_ (λA y=>?_));omega;(with_reducible refine DD (by assumption) ?_)
  refine gA (qW _ a (by omega) l p) λB e=>?_;refine dA (λd=>?_) (λd=>?_)
  ·rw[if_pos d]at c;have g:2^k<2^63:=Nat.pow_lt_pow_right (by omega) (by omega);refine HH (by omega) ?_;refine SV (by omega) g ?_;rw[<-c];refine qA (by omega) ?_;exact f (k+1) _ ⟨by omega,b.trans e⟩ (by omega)
  ·rw[if_neg d]at c;rw[<-c];refine qA (by omega) ?_;exact f (k+1) _ ⟨by omega,b.trans e⟩ (by omega)
 ·obtain rfl:k=m.length:=by omega
  exact⟨rfl,b⟩
theorem Tc(q:jL w v m)(B:m.length<=8)(l:∀x∈m,x<2^8)(a:Nat)(o:a<2^63):CB prog 727 #[v,iv a] w (iv ((Aa m a m.length:Nat):Int)):=by
 apply me;unfold CY;refine MB (λk:Nat=>[iv ((Aa m a k:Nat):Int),iv k]) (λk s=>k<=m.length/\bA w s) (λk=>m.length-k) 0 rfl ⟨Nat.zero_le _,bA.refl w⟩ ?_;rintro k D u ⟨A,c⟩ g;have C:=q.ext c
 (intro _;(try simp only[gx]);(with_reducible refine WC (by assumption) ?_;refine jB ?_))
 refine dA (λi=>?_) (λi=>?_)
 ·have n:k<m.length:=by omega
  have y:m.getD k 0<2^8:=j2 l n;have z:Aa m a k<2^8:=Nat.lt_of_lt_of_le (Cm m a k) (Nat.pow_le_pow_right (by omega) (by omega));have d:=xf m a k
  (with_reducible refine tE (by assumption) ?_ (λr p=>?_));omega;(with_reducible refine DD (by assumption) ?_)
  refine yc (by omega) o ?_
  (with_reducible refine tE (by assumption) ?_ (λr p=>?_));omega;(with_reducible refine DD (by assumption) ?_;refine BA ?_)
  intro t f;refine dA (λb=>?_) (λb=>?_)
  ·have b:m.getD k 0&&& a=m.getD k 0:=by exact_mod_cast b
   rw[if_pos (wm.1 b)]at d;have h:2^k<2^63:=Nat.pow_lt_pow_right (by omega) (by omega);refine gA (SG k (by omega) t) λE j=>?_;refine SV (by omega) h ?_;rw[<-d];refine qA (by omega) ?_;exact g (k+1) _ ⟨by omega,(c.trans f).trans j⟩ (by omega)
  ·have b:¬m.getD k 0&&& a=m.getD k 0:=λe=>b (by exact_mod_cast e);rw[if_neg (λe=>b (wm.2 e))]at d;rw[<-d];refine qA (by omega) ?_;exact g (k+1) _ ⟨by omega,c.trans f⟩ (by omega)
 ·obtain rfl:k=m.length:=by omega
  exact⟨rfl,c⟩
theorem Se(c:A.ok)(k:jL w v A.a)(a b:Nat)(q:a<2^A.n)(j:b<2^A.n):CB prog 689 #[.agg #[iv (A.n:Int),v],iv a,iv b] w (iv ((zt A a b:Nat):Int)):=by
 apply hZ;unfold JM;have d:=c.1;have i:2^A.n<=2^8:=Nat.pow_le_pow_right (by omega) d;refine xC λs t r f p=>?_;have l:=k.ext f
 (with_reducible refine pB ?_);refine mA (by assumption) (by first|rfl|simp) ?_;(with_reducible refine DB (by assumption) ?_ ?_);rfl
 refine eC (λe _=>bJ A.n d v e) ?_;refine VI (by omega) (by omega) ?_;have h:bD (2^A.n-1) a<2^A.n:=vd (by have:=Nat.two_pow_pos A.n;omega);refine SV (by omega) (by omega) ?_;have o:bD (2^A.n-1) a|||b<2^A.n:=Nat.or_lt_two_pow h j
 refine eC (λe g=>Xj (l.ext g) (by rw[c.2.1];exact d) (λx m=>Nat.lt_of_lt_of_le (c.2.2 x m) i) _ (by omega)) ?_;intro u n;rw[c.2.1];exact⟨rfl,f.trans n⟩
theorem o6(c:A.ok)(k:jL w v A.a)(a b:Nat)(q:a<2^A.n)(j:b<2^A.n):CB prog 704 #[.agg #[iv (A.n:Int),v],iv a,iv b] w (iv ((zt A a b:Nat):Int)):=by
 apply D8;unfold JS;have d:=c.1;have i:2^A.n<=2^8:=Nat.pow_le_pow_right (by omega) d;refine xC λs t r f p=>?_;have l:=k.ext f
 (with_reducible refine pB ?_);refine mA (by assumption) (by first|rfl|simp) ?_;(with_reducible refine pB ?_);refine mA (by assumption) (by first|rfl|simp) ?_
 refine eC (λe _=>oG A.n (by omega) e) ?_;refine VI (by omega) (by omega) ?_;have h:bD (2^A.n-1) a<2^A.n:=vd (by have:=Nat.two_pow_pos A.n;omega);refine SV (by omega) (by omega) ?_;have o:bD (2^A.n-1) a|||b<2^A.n:=Nat.or_lt_two_pow h j
 refine eC (λe g=>Tc (l.ext g) (by rw[c.2.1];exact d) (λx m=>Nat.lt_of_lt_of_le (c.2.2 x m) i) _ (by omega)) ?_;intro u n;rw[c.2.1];exact⟨rfl,f.trans n⟩
def zM(f:Fr)(V:Nat->Nat):Fm->Nat
 | .var v=>V v
 | .fls=>0
 | .and a b=>zM f V a&&& zM f V b
 | .or a b=>zM f V a|||zM f V b
 | .imp a b=>zt f (zM f V a) (zM f V b)
 | .box _=>0
 | .dia _=>0
def xu(f:Fr)(V:Nat->Nat):Prop:=∀v,V v∈RA f
theorem jq(b:x<2^n)(h:x.testBit f=true):f<n:=by
 rcases Nat.lt_or_ge f n with a|a
 ·exact a
 ·rw[Nat.testBit_lt_two_pow (Nat.lt_of_lt_of_le b (Nat.pow_le_pow_right (by omega) a))]at h;cases h
theorem UR(a:Po A):0∈RA A:=(pm a).2 ⟨Nat.two_pow_pos _,λv u h=>by rw[Nat.zero_testBit]at h;cases h⟩
def Fm.has(v:Nat):Fm->Prop
 | .var x=>x=v
 | .fls=>False
 | .and a b=>Fm.has v a∨Fm.has v b
 | .or a b=>Fm.has v a∨Fm.has v b
 | .imp a b=>Fm.has v a∨Fm.has v b
 | .box a=>Fm.has v a
 | .dia a=>Fm.has v a
theorem jI{V d:Nat->Nat}:∀c:Fm,(∀v,Fm.has v c->V v=d v)->zM A V c=zM A d c
 | .var v,h=>h v rfl
 | .fls,_=>rfl
 | .and c b,h=>by simp only[zM];rw[jI c λv a=>h v (.inl a),jI b λv a=>h v (.inr a)]
 | .or c b,h=>by simp only[zM];rw[jI c λv a=>h v (.inl a),jI b λv a=>h v (.inr a)]
 | .imp c b,h=>by simp only[zM];rw[jI c λv a=>h v (.inl a),jI b λv a=>h v (.inr a)]
 | .box _,_=>rfl
 | .dia _,_=>rfl
def Ni(f:Fr)(a:Fm):Prop:=∀V,xu f V->zM f V a=2^f.n-1
def Xn(n:Nat):List Nat:=(List.range n).map λx=>bD (2^n-1) (2^x-1)
def Ii(n:Nat):Fr:=⟨n,Xn n⟩
def wR(a:List Nat):List Nat->Nat->List Nat->List Nat
 |[],_,c=>c
 |v::R,j,c=>wR a R (j/a.length) (c.set v (a.getD (j%a.length) 0))
theorem W1(a:List Nat):∀R j c,(wR a R j c).length=c.length
 |[],_,_=>rfl
 |v::R,j,c=>by rw[wR,W1 a R,List.length_set]
theorem tj(h:x<m.length):(m.set x f).getD n 0=if n=x then f else m.getD n 0:=by
 simp only[List.getD_eq_getElem?_getD,List.getElem?_set];by_cases e:x=n
 ·subst e;simp[h]
 ·rw[if_neg e,if_neg (λk=>e k.symm)]
theorem Xb(a:0<m.length):∀R j c,(∀v∈R,v<c.length)->(∀i,i<c.length->c.getD i 0∈m)-> ∀i,i<c.length->(wR m R j c).getD i 0∈m
 |[],_,c,_,h,i,hi=>h i hi
 |v::R,j,c,hR,h,i,hi=>by
  rw[wR];have f:=hR v (List.mem_cons_self ..);have b:j%m.length<m.length:=Nat.mod_lt _ a;refine Xb a R _ _ (λu e=>by rw[List.length_set];exact hR u (List.mem_cons_of_mem _ e)) (λk d=>?_) i (by rw[List.length_set];exact hi);rw[List.length_set]at d;rw[tj f];split
  ·simp only[List.getD_eq_getElem?_getD,List.getElem?_eq_getElem b,Option.getD_some];exact List.getElem_mem b
  ·exact h k d
theorem mj(f:0<m.length){V:Nat->Nat}:∀(R:List Nat) (c:List Nat),R.Nodup->(∀v∈R,v<c.length)->(∀v∈R,V v∈m)-> ∃j,j<m.length^R.length/\ ∀i,(wR m R j c).getD i 0=if i∈R then V i else c.getD i 0
 |[],c,_,_,_=>⟨0,by simp,λi=>by simp[wR]⟩
 |v::R,c,hn,hR,hV=>by
  have o:=hR v (List.mem_cons_self ..);have g:=List.nodup_cons.1 hn;obtain⟨k,d,h⟩:=List.getElem_of_mem (hV v (List.mem_cons_self ..));obtain⟨j,n,l⟩:=mj f R (c.set v (V v)) g.2 (λu e=>by rw[List.length_set];exact hR u (List.mem_cons_of_mem _ e)) λu e=>hV u (List.mem_cons_of_mem _ e);refine⟨j*m.length+k,?_,λi=>?_⟩
  ·rw[List.length_cons,Nat.pow_succ];have:(j+1)*m.length<=m.length^R.length*m.length:=Nat.mul_le_mul_right _ n;rw[Nat.succ_mul]at this;omega
  ·rw[wR,show(j*m.length+k)/m.length=j by rw[Nat.mul_comm,Nat.mul_add_div f,Nat.div_eq_of_lt d,Nat.add_zero],show(j*m.length+k)%m.length=k by rw[Nat.mul_comm,Nat.mul_add_mod,Nat.mod_eq_of_lt d]];rw[show m.getD k 0=V v by simp[List.getD_eq_getElem?_getD,d,h],l i,tj o];by_cases b:i=v
   ·subst b;rw[if_neg g.1,if_pos rfl,if_pos (List.mem_cons_self ..)]
   ·rw[if_neg b];by_cases a:i∈R
    ·rw[if_pos a,if_pos (List.mem_cons_of_mem _ a)]
    ·rw[if_neg a,if_neg (by simp[b,a])]
theorem nq(h:x<=7):MO x (MA (Xn x))=true:=by
 have a:∀x:Fin 8,MO x.val (MA (Xn x.val))=true:=by decide+kernel
 exact a ⟨x,by omega⟩
theorem ov(n:Nat):Fe n (MA (Xn n))=Ii n:=by
 unfold Fe Ii MA;simp[List.map_map,Function.comp_def]
theorem xl(h:x<=7):Po (Ii x):=by
 have:=(Ul (nq h)).1
 rwa [ov]at this
def NB(s:FG):Prop:=s.2=true∨(32:UInt8)∈s.1
theorem NB.nx{q:UInt8}(h:NB B)(a:tk q B=true)(c:q≠32):NB (nx B):=by
 have b:=Ln a;rcases h with h|h
 ·rw[Ur a]at h;cases h
 ·rw[b]at h;exact .inr ((List.mem_cons.1 h).resolve_left λe=>c e.symm)
theorem NB.ndd{q:UInt8}(h:NB B)(a:q≠32):NB (ndd q B):=by
 unfold Go.Proofs.YtoojmhgpadkhmaaGreatDoor.ndd;split
 ·rename_i b;exact h.nx b a
 ·exact .inl rfl
theorem NB.prs:∀(n lv:Nat) (b:Fm) (s:FG),NB s->NB (prs n lv b s).2:=by
 intro n
 induction n with
 |zero=>intro lv b s h;rw[Go.Proofs.YtoojmhgpadkhmaaGreatDoor.prs];exact h
 |succ n ih=>
  intro lv b s h
  match lv with
  |0=>
   rw[Wf];split
   ·rename_i a;exact ih _ _ _ ((ih _ _ _ h).nx a (by decide))
   ·exact ih _ _ _ h
  |1=>rw[Xf];exact ih _ _ _ (ih _ _ _ h)
  |2=>rw[Yf];exact ih _ _ _ (ih _ _ _ h)
  |3=>
   refine Zf (Q:=λr=>NB r.2) (λt=>ih _ _ _ (h.nx t (by decide))) (λt=>ih _ _ _ ((h.nx t (by decide)).ndd (by decide))) (λt=>ih _ _ _ ((h.nx t (by decide)).ndd (by decide))) (λt=>h.nx t (by decide)) (λt=>h.nx t (by decide)) (λt=>(ih _ _ _ (h.nx t (by decide))).ndd (by decide)) (λv c t=>h.nx t ?_) (λ_ _ _ _ _ _ _=>.inl rfl);rcases(show v=0∨v=1∨v=2∨v=3∨v=4∨v=5 by omega)with e|e|e|e|e|e<;>subst e<;>decide
  |4=>
   rw[ig];split
   ·rename_i a;exact ih _ _ _ (ih _ _ _ (h.nx a (by decide)))
   ·exact h
  |k+5=>
   rw[od];split
   ·rename_i a;exact ih _ _ _ (ih _ _ _ (h.nx a (by decide)))
   ·exact h
theorem Zk{g:jA->jA}(t:jA)(h:(32:UInt8)∈t):(32:UInt8)∈SB g (CA t):=by
 induction t using T1 with
 |h0 t b=>rw[iI b,nN];exact h
 |h1 a n r ha hn hr ih=>
  rw[fQ ha hn hr,iQ];rcases List.mem_append.1 h with h|h
  ·exact List.mem_append_left _ h
  ·refine List.mem_append_right _ (List.mem_cons_of_mem _ (List.mem_append_right _ (List.mem_cons_of_mem _ (ih ?_))));rcases List.mem_cons.1 h with h|h
   ·cases h
   ·rcases List.mem_append.1 h with h|h
    ·have:=List.all_eq_true.1 hn _ h;cases this
    ·exact h
theorem jh(h:AC s=true):¬(32:UInt8)∈s:=λa=>by
 unfold AC at h;rw[Bool.and_eq_true,Bool.and_eq_true,Bool.not_eq_true',decide_eq_true_eq]at h;have:NB (rd (SB (λ_=>[112]) (CA s))).2:=NB.prs _ _ _ _ (show NB (SB (λ_=>[112]) (CA s),false)from .inr (Zk (g:=λ_=>[112]) s a));rcases this with k|k
 ·rw[h.2.1]at k;cases k
 ·rw[h.2.2]at k;cases k
def Y9(G:List Fm):Nat:=(G.map Fm.w2).sum
theorem Q2(a:Fm)(G:List Fm):Y9 (a::G)=a.w2+Y9 G:=by simp[Y9]
theorem Jh(A B:List Fm):Y9 (A++B)=Y9 A+Y9 B:=by simp[Y9]
theorem DR(a:Fm):Y9 [a]=a.w2:=by simp[Y9]
theorem Kh(a b:Fm):Y9 [a,b]=a.w2+b.w2:=by simp[Y9]
theorem Lt(G:List Fm):2*G.length<=Y9 G:=by
 induction G with
 |nil=>simp
 |cons a G ih=>rw[Q2,List.length_cons];have:=a.w2_ge;omega
theorem qn{r:Fm}:∀{G:List Fm},r∈G->r.w2<=Y9 G
 |[],h=>by simp at h
 |b::G,h=>by
  rw[Q2];rcases List.mem_cons.1 h with rfl|h
  ·omega
  ·have:=qn h;omega
def IC(a:List Fm)(i:Nat):List Fm:=a.take i++a.drop (i+1)
theorem B7(a:x<j.length):j=j.take x++j[x]::j.drop (x+1):=by
 have:=List.take_append_drop x j;rw[List.drop_eq_getElem_cons a]at this;exact this.symm
theorem Sj(a:x<j.length):Y9 (IC j x)+j[x].w2=Y9 j:=by
 have h:=congrArg Y9 (B7 a);rw[Jh,Q2]at h;rw[IC,Jh];omega
theorem NG(b:x<j.length)(u:Fm):u∈j↔u=j[x]∨u∈IC j x:=by
 have h:=B7 b;rw[IC,List.mem_append];constructor
 ·intro a;rw[h,List.mem_append,List.mem_cons]at a;rcases a with a|a|a
  ·exact .inr (.inl a)
  ·exact .inl a
  ·exact .inr (.inr a)
 ·rintro(rfl|a|a)
  ·exact List.getElem_mem _
  ·exact List.mem_of_mem_take a
  ·exact List.mem_of_mem_drop a
def XB(b c:List Fm):List Fm:=c.foldl (λa x=>if x∈a then a else a++[x]) b
theorem sQ{r:Fm}:∀{c b:List Fm},r∈XB b c↔r∈c∨r∈b
 |[],b=>by simp[XB]
 |x::c,b=>by
  rw[show XB b (x::c)=XB (if x∈b then b else b++[x]) c from rfl,sQ,List.mem_cons];split
  ·rename_i h;constructor
   ·rintro(a|a)
    ·exact .inl (.inr a)
    ·exact .inr a
   ·rintro((rfl|a)|a)
    ·exact .inr h
    ·exact .inl a
    ·exact .inr a
  ·rw[List.mem_append,List.mem_singleton];constructor
   ·rintro(a|a|a)
    ·exact .inl (.inr a)
    ·exact .inr a
    ·exact .inl (.inl a)
   ·rintro((a|a)|a)
    ·exact .inr (.inr a)
    ·exact .inl a
    ·exact .inr (.inl a)
theorem Nc:∀(b a:List Fm),Y9 (XB a b)<=Y9 a+Y9 b
 |[],a=>by simp[XB]
 |x::b,a=>by
  rw[show XB a (x::b)=XB (if x∈a then a else a++[x]) b from rfl,Q2];have:=Nc b (if x∈a then a else a++[x]);split at this
  ·rename_i h;rw[if_pos h];omega
  ·rename_i h;rw[if_neg h];rw[Jh,DR]at this;omega
theorem rm(a l:List Fm)(x:Fm):XB a (l++[x])=if x∈XB a l then XB a l else XB a l++[x]:=by unfold XB;rw[List.foldl_append];rfl
structure Hi(G:List Fm)(c:Fm):Prop where
 left:∀a∈G,a.plain=true
 right:c.plain=true
 small:Y9 G+c.w2<=1099511627776
theorem Hi.wt_left{r:Fm}(h:Hi j r)(a:P∈j):P.wt<=40:=by
 have:=qn a;have:=h.small;exact Z3 (n:=40) (by omega)
theorem Hi.wt_right{r:Fm}(h:Hi j r):r.wt<=40:=by
 have:=h.small;exact Z3 (n:=40) (by omega)
theorem Hi.sz_left{r:Fm}(h:Hi j r)(a:P∈j):P.size<=40:=by
 have:=h.wt_left a;have:=Fm.wt_size (h.left P a);omega
theorem Hi.sz_right{r:Fm}(h:Hi j r):r.size<=40:=by
 have:=h.wt_right;have:=Fm.wt_size h.right;omega
abbrev Li(G:List Fm)(c:Fm)(a:List Fm)(b:Fm):Prop:=Hi G c/\Y9 G+c.w2<Y9 a+b.w2
theorem Hi.inst{r:Fm}(h:Hi j r)(c:x<j.length){b:List Fm}(d:∀u∈b,u.plain=true)(e:P.plain=true)(k:Y9 b+P.w2<j[x].w2+r.w2):Li (XB (IC j x) b) P j r:=by
 have f:=Nc b (IC j x);have g:=Sj c;have i:=h.small;refine⟨⟨λu a=>?_,e,by omega⟩,by omega⟩;rcases sQ.1 a with a|a
 ·exact d u a
 ·exact h.left u ((NG c u).2 (.inr a))
theorem Hi.rest{r:Fm}(h:Hi j r)(a:x<j.length):Li (IC j x) r j r:=by
 have c:=Sj a;have d:=h.small;have:=j[x].w2_ge;exact⟨⟨λu b=>h.left u ((NG a u).2 (.inr b)),h.right,by omega⟩,by omega⟩
theorem Up{r:Fm}(h:r.plain=true):∀u∈[r],u.plain=true:=λu a=>by rw[List.mem_singleton.1 a];exact h
theorem jv{r:Fm}(h:r.plain=true)(k:P.plain=true):∀u∈[r,P],u.plain=true:=λu a=>by
 simp only[List.mem_cons,List.not_mem_nil,or_false]at a;rcases a with rfl|rfl
 ·exact h
 ·exact k
theorem FN{r:Fm}(h:(Fm.imp r P).plain=true):r.plain=true/\P.plain=true:=by simpa[Fm.plain]using h
theorem Uh{r:Fm}(h:(Fm.and r P).plain=true):r.plain=true/\P.plain=true:=by simpa[Fm.plain]using h
theorem xn{r:Fm}(h:(Fm.or r P).plain=true):r.plain=true/\P.plain=true:=by simpa[Fm.plain]using h
theorem Dc{r:Fm}(h:r.plain=true)(k:P.plain=true):(Fm.imp r P).plain=true:=by simp[Fm.plain,h,k]
theorem iK{r:Fm}:P∈XB j [r]↔P=r∨P∈j:=by rw[sQ,List.mem_singleton]
theorem A5{r u:Fm}:u∈XB j [r,P]↔u=r∨u=P∨u∈j:=by rw[sQ];simp only[List.mem_cons,List.not_mem_nil,or_false,or_assoc]
def BE(a:List Fm)(b:Fm):Bool:=
 match b with
 | .or x y=>decide (x∈a)||decide (y∈a)
 | .imp x y=>decide (x= .fls)||decide (y∈a)
 |_=>false
section
variable{fs:List Fm}{c:Fm}{i:Nat}(h:Hi fs c)(hi:i<fs.length)
 include h hi
theorem qo(a:BE (IC fs i) fs[i]=true):Li (IC fs i) c fs c/\(dD (IC fs i) c↔dD fs c):=by
 refine⟨h.rest hi,?_⟩;have b:=NG hi;unfold BE at a;split at a
 ·rename_i x y e;rw[e]at b;rw[Bool.or_eq_true,decide_eq_true_eq,decide_eq_true_eq]at a;exact Wh b a
 ·rename_i x y e;rw[e]at b;rw[Bool.or_eq_true,decide_eq_true_eq,decide_eq_true_eq]at a;rcases a with rfl|a
  ·exact ZY b
  ·exact Ze b a
 ·cases a
theorem rv{r:Fm}(e:fs[i]= .and r P):Li (XB (IC fs i) [r,P]) c fs c/\(dD (XB (IC fs i) [r,P]) c↔dD fs c):=by
 have a:=h.left _ (List.getElem_mem hi);have b:=NG hi;rw[e]at a b;refine⟨h.inst hi (jv (Uh a).1 (Uh a).2) h.right ?_,Pu b λu=>A5⟩;rw[Kh,e];have:=Hh r P;omega
theorem Ew{r:Fm}(e:fs[i]= .or r P):Li (XB (IC fs i) [r]) c fs c/\Li (XB (IC fs i) [P]) c fs c/\(dD fs c↔dD (XB (IC fs i) [r]) c/\dD (XB (IC fs i) [P]) c):=by
 have a:=h.left _ (List.getElem_mem hi);have b:=NG hi;rw[e]at a b;have:=Zm r P;have:=r.w2_ge;have:=P.w2_ge;refine⟨h.inst hi (Up (xn a).1) h.right ?_,h.inst hi (Up (xn a).2) h.right ?_,lx b (λu=>iK) (λu=>iK)⟩
 ·rw[DR,e];omega
 ·rw[DR,e];omega
theorem Cl{r b:Fm}(e:fs[i]= .imp (.and r P) b):Li (XB (IC fs i) [.imp r (.imp P b)]) c fs c/\(dD (XB (IC fs i) [.imp r (.imp P b)]) c↔dD fs c):=by
 have a:=h.left _ (List.getElem_mem hi);have d:=NG hi;rw[e]at a d;have f:=Uh (FN a).1;refine⟨h.inst hi (Up (Dc f.1 (Dc f.2 (FN a).2))) h.right ?_,jg d λu=>iK⟩;rw[DR,e];have:=Lc r P b;omega
theorem po{r b:Fm}(e:fs[i]= .imp (.or r P) b):Li (XB (IC fs i) [.imp r b,.imp P b]) c fs c/\(dD (XB (IC fs i) [.imp r b,.imp P b]) c↔dD fs c):=by
 have a:=h.left _ (List.getElem_mem hi);have d:=NG hi;rw[e]at a d;have f:=xn (FN a).1;refine⟨h.inst hi (jv (Dc f.1 (FN a).2) (Dc f.2 (FN a).2)) h.right ?_,lk d λu=>A5⟩;rw[Kh,e];have:=Pf r P b;omega
theorem oo{r:Fm}(e:fs[i]= .imp r P)(d:r∈IC fs i):Li (XB (IC fs i) [P]) c fs c/\(dD (XB (IC fs i) [P]) c↔dD fs c):=by
 have b:=h.left _ (List.getElem_mem hi);have a:=NG hi;rw[e]at b a;refine⟨h.inst hi (Up (FN b).2) h.right ?_,jk a (λu=>iK) d⟩;rw[DR,e];have:=LZ r P;omega
theorem Em{r z:Fm}(e:fs[i]= .imp (.imp r P) z):Li (XB (IC fs i) [.imp P z,r]) P fs c/\Li (XB (IC fs i) [z]) c fs c/\(dD (XB (IC fs i) [.imp P z,r]) P↔dD fs (.imp r P))/\(dD fs (.imp r P)->(dD (XB (IC fs i) [z]) c↔dD fs c)):=by
 have a:=h.left _ (List.getElem_mem hi);have b:=NG hi;rw[e]at a b;have d:=FN (FN a).1;refine⟨h.inst hi (jv (Dc d.2 (FN a).2) d.1) d.2 ?_,h.inst hi (Up (FN a).2) h.right ?_,ur b λu=>A5,λk=>Pc b (λu=>iK) k⟩
 ·rw[Kh,e];have:=Ym r P z;have:=LZ r P;omega
 ·rw[DR,e];have:=LZ (.imp r P) z;omega
end
section
variable{fs:List Fm}{c:Fm}(h:Hi fs c)
 include h
theorem qj{r:Fm}(e:c= .and r P):Li fs r fs c/\Li fs P fs c/\(dD fs c↔dD fs r/\dD fs P):=by
 subst e;have:=Hh r P;have:=r.w2_ge;have:=P.w2_ge;have:=h.small;have a:=Uh h.right;exact⟨⟨⟨h.left,a.1,by omega⟩,by omega⟩,⟨⟨h.left,a.2,by omega⟩,by omega⟩,dD.and⟩
theorem Dl{r:Fm}(e:c= .or r P):Li fs r fs c/\Li fs P fs c/\(dD fs r∨dD fs P->dD fs c):=by
 subst e;have:=Zm r P;have:=r.w2_ge;have:=P.w2_ge;have:=h.small;have a:=xn h.right;exact⟨⟨⟨h.left,a.1,by omega⟩,by omega⟩,⟨⟨h.left,a.2,by omega⟩,by omega⟩,λk M w b=>k.imp (λk=>k M w b) (λk=>k M w b)⟩
theorem rj{r:Fm}(e:c= .imp r P):Li (XB fs [r]) P fs c/\(dD fs c↔dD (XB fs [r]) P):=by
 subst e;have:=LZ r P;have d:=Nc [r] fs;rw[DR]at d;have:=h.small;have b:=FN h.right;refine⟨⟨⟨λu a=>?_,b.2,by omega⟩,by omega⟩,dD.imp λu=>iK⟩;rcases iK.1 a with rfl|a
 ·exact b.1
 ·exact h.left u a
def Ki(fs:List Fm)(a:Fm):Prop:=(∃p,a= .var p)∨ ∃x y,a= .imp x y/\((∃p,x= .var p/\Fm.var p∉fs)∨ ∃b d,x= .imp b d)
theorem Yv(m:¬c∈fs)(n:∀i (d:i<fs.length),Ki fs fs[i])(k:∀a b,c≠ .and a b/\c≠ .imp a b)(p:∀a b,c= .or a b-> ¬dD fs a/\ ¬dD fs b)
  (o:∀i (d:i<fs.length) x y z,fs[i]= .imp (.imp x y) z-> ¬(dD (XB (IC fs i) [.imp y z,x]) y/\dD (XB (IC fs i) [z]) c)):¬dD fs c:=by
 by_cases j:∃i,∃d:i<fs.length,∃x y z,fs[i]= .imp (.imp x y) z/\dD fs (.imp x y)
 ·obtain⟨i,d,x,y,z,e,f⟩:=j;obtain⟨-,-,r,s⟩:=Em h d e;exactλg=>o i d x y z e ⟨r.2 f,(s f).2 g⟩
 ·refine Su (λa l=>?_) ?_
  ·obtain⟨i,d,rfl⟩:=List.getElem_of_mem l;rcases n i d with g|⟨x,y,e,q⟩
   ·exact .inl g
   ·refine .inr ⟨x,y,e,q.imp id ?_⟩;rintro⟨u,v,rfl⟩ g;exact j ⟨i,d,u,v,y,e,g⟩
  ·have f:=h.right;cases c with
   |var t=>exact .inl ⟨t,rfl,m⟩
   |fls=>exact .inr (.inl rfl)
   |and a b=>exact absurd rfl (k a b).1
   |imp a b=>exact absurd rfl (k a b).2
   |box a=>cases f
   |dia a=>cases f
   |or a b=>exact .inr (.inr ⟨a,b,rfl,p a b rfl⟩)
end
theorem Xq{r:Fm}(h:Hi j r)(d:n<j.length)(l:Fm.fls∉j)(f:BE (IC j n) j[n]=false)(g:∀a b,j[n]≠ .and a b)(i:∀a b,j[n]≠ .or a b)
  (k:∀x y,j[n]= .imp x y->(∀a b,x≠ .and a b)/\(∀a b,x≠ .or a b)/\x∉IC j n):Ki j j[n]:=by
 have c:=h.left _ (List.getElem_mem d);cases e:j[n]with
 |var p=>exact .inl ⟨p,rfl⟩
 |fls=>exact absurd (e▸List.getElem_mem d) l
 |and a b=>exact absurd e (g a b)
 |or a b=>exact absurd e (i a b)
 |box a=>rw[e]at c;cases c
 |dia a=>rw[e]at c;cases c
 |imp x y=>
  obtain⟨o,q,s⟩:=k x y e;refine .inr ⟨x,y,rfl,?_⟩;cases x with
  |var p=>
   refine .inl ⟨p,rfl,λm=>?_⟩;rcases(NG d _).1 m with h|h
   ·rw[e]at h;cases h
   ·exact s h
  |fls=>rw[e]at f;simp[BE]at f
  |and a b=>exact absurd rfl (o a b)
  |or a b=>exact absurd rfl (q a b)
  |imp a b=>exact .inr ⟨a,b,rfl⟩
  |box a=>rw[e]at c;cases c
  |dia a=>rw[e]at c;cases c
open Classical in
noncomputable def vF(G:List Fm)(c:Fm):Bool:=decide (dD G c)
theorem dG{r:Fm}:vF j r=true↔dD j r:=by unfold vF;exact @decide_eq_true_iff _ (Classical.propDecidable _)
theorem Gd{r:Fm}:vF j r=false↔ ¬dD j r:=by unfold vF;exact @decide_eq_false_iff_not _ (Classical.propDecidable _)
theorem ug{a:List Fm}{r:Fm}(h:dD j r↔dD a P):vF j r=vF a P:=Bool.eq_iff_iff.2 (dG.trans (h.trans dG.symm))
theorem ms{A B:List Fm}{r b:Fm}(h:dD j r↔dD A P/\dD B b):vF j r=(vF A P&&vF B b):=Bool.eq_iff_iff.2 (dG.trans (h.trans (by rw[Bool.and_eq_true,dG,dG])))
def Ep(b:Bool):jA:=if b then[121,101,115]else[110,111]
def Q3(f:Fm):Bool:=(List.range 64).all λr=>d4 r f
def cE(f:Fm):List Nat:=EE (pD (cB f))
def ir(f:Fm):jA:=if cE f=[]then[45]else((cE f).map λv=>[vl v]).flatten
noncomputable def RX(f:Fm):List jA:=ZB.filter λl=>mB (pA l) f
def Yq(f:Fm):Nat:=(cE f).length
def Ku(f:Fm):Nat:=(RA (Ii (Yq f+1))).length
open Classical in
noncomputable def ww(f:Fm):Bool:=decide (Ni (Ii (Yq f+1)) f)
theorem Um{r:Fm}:ww r=true↔Ni (Ii (Yq r+1)) r:=by unfold ww;exact @decide_eq_true_iff _ (Classical.propDecidable _)
noncomputable def WG(k:Nat)(f:Fm):jA×Int:=
 match k with
 |0=>(f.body,0)
 |1=>(ir f,0)
 |2=>if f.plain then(Ep (Q3 f),0)else([],5)
 |3=>if f.plain then(if 20<f.size then([],3)else(Ep (vF [] f),0))else([],5)
 |4=>if 8<(EA f).length then([],3)else(if RX f=[]then[45]else uF [32] (RX f),0)
 |5=>if 8<(EA f).length then([],3)else(Ep (mB 9 f),0)
 |6=>if f.plain then(if 4096<Ku f^Yq f then([],3)else(Ep (ww f),0))else([],5)
 |7=>if cE f=[]then(px f,0)else([],5)
 |_=>(VK f.size,0)
def mU:List (List jA):=[[[115,104,111,119]],[[108,101,116,116,101,114,115]],[[99,108,97,115,115,105,99,97,108]],[[105,110,116]],[[108,111,103,105,99,115]],[[109,111,100,97,108],[71,76]],[[109,105,100,100,108,101],[76,67]],[[116,114,97,99,101]],[[110,111,100,101,115]]]
def G6(k:Nat):jA:=(gt mU k).flatMap λt=>t++[32]
theorem rB.cellOk'(h:rB x w v n y):vA v=true:=by
 obtain⟨_,a,c,rfl,_⟩:=h;rfl
section
variable{P:Program}{w:World}
theorem Fu(h:∀b w',b=w.heap.size->w'.heap.size=b+1->bA w w'->GA u w' b []->t (.slice (some ⟨b,0,none⟩) 0 0) w'):xB u (Value.cells v) 1 0 [] w t:=
 ⟨_,rfl,h _ _ rfl (by simp) (bA.alloc w _) (by simpa[show Array.range 0=#[]from rfl]using GA.new w (Array.range 0 |>.map λ_=>v) u)⟩
theorem Du{e:TypeId}(c:P.underlying u=some (.slice e))(a:(P.info? e).map (λb=>(b.zero,b.size,b.bytes))=some (some v,1,x))(N:vA v=true)
  (m:GA e w f [])(L:Sl w i y)(A:y.length*x<=140737488355328)(I:y.length<=9223372036854775807)
  (k:∀v' w',bA w w'->Ow f e w' v' y->t v' w'):nD P (Builtin.append_ #[u,u] H #[.slice (some ⟨f,0,none⟩) 0 0,i]) w t:=by
 obtain⟨b,a,l⟩:=Option.map_eq_some_iff.1 a;simp only[Prod.mk.injEq]at l;obtain⟨O,M,B⟩:=l;obtain⟨s,z,rfl,R,Q,D⟩:=L;have G:=m.lt;by_cases d:y=[]
 ·subst d;refine⟨.slice (some ⟨f,0,none⟩) 0 0,w,?_,k _ _ (bA.refl _) (Ow.ofBlk (n:=0) m (Nat.le_refl _) rfl (by decide))⟩;cases s with
  |none=>simp[Builtin.append_,run_underlying c,sizeOf,typeInfo,a,Builtin.lenOf,Builtin.firstCells,storeCells]
  |some ad=>simp[Builtin.append_,run_underlying c,sizeOf,typeInfo,a,Builtin.lenOf,Builtin.firstCells,storeCells,loadCells,loadCellsFrom]
 ·have S:0<y.length:=List.length_pos_iff.2 d;rcases D with rfl|⟨h,r,rfl,C⟩
  ·exact absurd rfl d
  have J:∀j g,y[j]?=some g->w.cell? ((⟨h,r,none⟩:Addr).add j)=some g:=λj g q=>by
   have E:j<y.length:=(List.getElem?_eq_some_iff.1 q).1;rw[XD,C j E,q]
  have K:=run_append_grow (P:=P) w u H e b v c a O ⟨f,0,none⟩ 0 0 [] (by simp) (by simp) ⟨h,r,none⟩ y.length z y (by rw[M,Nat.mul_one]) J (by omega) (by omega) (by rw[B];exact growslice_fits (by omega) (by simpa using A));have o:=grownCap_ge w (0+y.length) 0 e;have p:=grownCap_le_maxLen w (0+y.length) 0 e (by simpa[maxLen]using I);refine⟨_,_,K,k _ _ (Jl ⟨rfl,rfl,rfl,by simp,λT F _=>heap_alloc_old w.drew _ F⟩) ?_⟩;rw[Nat.zero_add]at o p⊢;refine⟨(Nat.mul_one _).symm,.inr ⟨w.heap.size,_,_,rfl,Nat.le_of_lt G,heap_alloc_new w.drew _,o,p,?_,?_⟩⟩
  ·simp only[Array.size_append,List.size_toArray,List.length_nil,size_zeroCells,sA N];simp;omega
  ·simp
end
theorem eF.mk'(e:y.length=j.length)(h:∀(i:Nat) (a:Fm),j[i]?=some a-> ∃v,y[i]?=some v/\oC w v a):eF w y j:=
 ⟨e,λi b=>by
  obtain⟨v,c,d⟩:=h i j[i] (List.getElem?_eq_getElem b);exact⟨v,c,by simpa[List.getD_eq_getElem?_getD,b]using d⟩⟩
theorem eF.at(h:eF w y j){i:Nat}{a:Fm}(e:j[i]?=some a):∃v,y[i]?=some v/\oC w v a:=by
 obtain⟨b,rfl⟩:=List.getElem?_eq_some_iff.1 e;obtain⟨v,c,d⟩:=h.2 i b;exact⟨v,c,by simpa[List.getD_eq_getElem?_getD,b]using d⟩
theorem eF.app{c:List Fm}(h:eF w y j)(k:eF w J c):eF w (y++J) (j++c):=
 eF.mk' (by rw[List.length_append,List.length_append,h.1,k.1]) λi d a=>by
  rcases Nat.lt_or_ge i j.length with b|b
  ·rw[List.getElem?_append_left b]at a;rw[List.getElem?_append_left (by have:=h.1;omega)];exact h.at a
  ·rw[List.getElem?_append_right b]at a;rw[List.getElem?_append_right (by have:=h.1;omega),h.1];exact k.at a
theorem eF.take(h:eF w y j)(n:Nat):eF w (y.take n) (j.take n):=
 eF.mk' (by rw[List.length_take,List.length_take,h.1]) λi b a=>by
  rw[List.getElem?_take]at a⊢;split at a
  ·rw[if_pos ‹_›];exact h.at a
  ·cases a
theorem eF.drop(h:eF w y j)(n:Nat):eF w (y.drop n) (j.drop n):=
 eF.mk' (by rw[List.length_drop,List.length_drop,h.1]) λi b a=>by
  rw[List.getElem?_drop]at a⊢;exact h.at a
theorem eF.cells(h:eF w y j):∀u∈y,vA u=true:=λu d=>by
 obtain⟨i,c,rfl⟩:=List.getElem_of_mem d;obtain⟨v,a,b⟩:=h.2 i (by have:=h.1;omega);rw[List.getElem?_eq_getElem c]at a;cases a;exact b.cellOk'
theorem eF.nil(w:World):eF w [] []:=⟨rfl,λi a=>by simp at a⟩
theorem eF.one{a:Fm}(h:oC w v a):eF w [v] [a]:=eF.mk' rfl λi b c=>by
 rcases i with _|i
 ·simp only[List.getElem?_cons_zero,Option.some.injEq]at c;subst c;exact⟨v,rfl,h⟩
 ·simp at c
theorem eF.two{r:Fm}(h:oC w v r)(k:oC w i P):eF w [v,i] [r,P]:=(eF.one h).app (eF.one k)
def kY(w:World)(v:Value)(b:List Fm):Prop:=∃a,Sl w v a/\eF w a b
theorem kY.ext(h:kY w v j)(x:bA w a):kY a v j:=by
 obtain⟨d,b,c⟩:=h;exact⟨d,b.ext x,c.ext x⟩
theorem kY.blk1{r:Fm}(a:GA u w x [v])(h:oC w v r):kY w (.slice (some ⟨x,0,none⟩) 1 1) [r]:=⟨_,Sl.ofBlk (n:=1) a rfl (by decide),eF.one h⟩
theorem kY.blk2{r:Fm}(a:GA u w x [v,i])(h:oC w v r)(k:oC w i P):kY w (.slice (some ⟨x,0,none⟩) 2 2) [r,P]:=⟨_,Sl.ofBlk (n:=2) a rfl (by decide),eF.two h k⟩
theorem Om(c:kY w v j)(h:z (iv (j.length:Nat))):lA v z:=by
 obtain⟨d,a,b⟩:=c;exact XC a (by rw[b.1];exact h)
theorem kY.len(c:kY w v j):j.length<=9223372036854775807:=by
 obtain⟨d,a,b⟩:=c;rw[<-b.1];exact a.len
theorem zj {w0 w:World} {v:Value} {fs:List Fm} {z:Int} {j:Nat} {k:IntKind} {K:Value → Prop} (hs:kY w0 v fs) (x:bA w0 w) (hz:z = (j:Int)) (hj:j < fs.length) (h:∀ u,oC w0 u fs[j] → K u):wA 1 v (.int k z) fun p=>kA w p K:=by
 obtain ⟨vs,h1,h2⟩:=hs
 obtain ⟨u,e1,e2⟩:=h2.at (List.getElem?_eq_getElem hj)
 subst hz
 refine pP (j:=(j:Int)) (h1.ext x) (by omega) (by have:=h2.1;omega) fun p hp=>?_
 exact DD (hp.trans (by rw [Int.toNat_natCast];exact e1)) (h u e2)
theorem wE{r:Fm}(h:kY w v j)(o:oC w i r)(s:∀x∈j,x.size<=1000000):CB prog 499 #[v,i] w (.bool (decide (r∈j))):=by
 apply ze;unfold NY;have A:=h.len;refine MB (λa:Nat=>[iv a]) (λa u=>a<=j.length/\bA w u/\ ∀b,b<a->j[b]?≠some r) (λa=>j.length-a) 0 rfl ⟨Nat.zero_le _,bA.refl _,λb g=>by omega⟩ ?_;rintro a C y ⟨z,c,l⟩ n;intro _;simp only[gx];refine Om (h.ext c) ?_;refine jB ?_;refine dA (λm=>?_) (λm=>?_)
 ·have d:a<j.length:=by omega
  refine zj h c rfl d λB t=>?_;have:=s _ (List.getElem_mem d);refine gA (GQ (t.ext c) (o.ext c) (by omega)) λD k=>?_;refine dA (λf=>?_) (λf=>?_)
  ·rw[decide_eq_true (show r∈j by rw[<-f];exact List.getElem_mem _)];exact⟨by first|trivial|rfl,c.trans k⟩
  ·refine qA (by omega) ?_;refine n (a+1) _ ⟨d,c.trans k,λb g=>?_⟩ (by omega);by_cases p:b=a
   ·subst p;rw[List.getElem?_eq_getElem d];exactλe=>f (Option.some.inj e)
   ·exact l b (by omega)
 ·rw[decide_eq_false (show¬r∈j fromλq=>by
   obtain⟨b,g,e⟩:=List.getElem_of_mem q;exact l b (by omega) (by rw[List.getElem?_eq_getElem g,e]))]
  exact⟨by first|trivial|rfl,c⟩
theorem BT{a:List Fm}(Q:kY w v j)(o:kY w i a)(N:∀x∈j,x.size<=1000000)(O:∀x∈a,x.size<=1000000)(hl:j.length+a.length<=1099511627776):
  nA prog 501 #[v,i] w λS h=>bA w h/\kY h S (XB j a):=by
 apply Ib;unfold kV;refine Fu λr w1 hb aa D I=>?_;obtain⟨C,R,y⟩:=Q;have ab:=y.1;refine Du aF XE rfl I (R.ext D) (by omega) (by omega) λU w2 X e=>?_;have F:=D.trans X;refine MB (λs:Value×Nat=>[s.1,iv (s.2:Int)]) (λs h=>s.2<=a.length/\bA w h/\ ∃b,Ow r XA h s.1 b/\eF w b (XB j (a.take s.2))/\b.length<=j.length+s.2) (λs=>a.length-s.2) (U,0) rfl ⟨Nat.zero_le _,F,C,e,y,by show C.length<=j.length+0;omega⟩ ?_;rintro⟨B,k⟩ V Y ⟨z,c,b,e,d,A⟩ t;have z:k<=a.length:=z;have e:Ow r XA V B b:=e;have d:eF w b (XB j (a.take k)):=d;have A:b.length<=j.length+k:=A;intro _;simp only[gx];refine Om (o.ext c) ?_;refine jB ?_;refine dA (λH=>?_) (λH=>?_)
 ·have f:k<a.length:=by omega
  have n:XB j (a.take (k+1))=if a[k]∈XB j (a.take k)then XB j (a.take k)else XB j (a.take k)++[a[k]]:=by
   rw[List.take_succ_eq_append_getElem f,rm]
  refine zj o c rfl f λZ K=>?_;refine gA (wE ⟨b,e.sl,d.ext c⟩ (K.ext c) (λx g=>?_)) λw4 E=>?_
  ·rcases sQ.1 g with g|g
   ·exact O x (List.mem_of_mem_take g)
   ·exact N x g
  have l:=c.trans E;have p:=e.ext E;refine TA ?_;by_cases m:a[k]∈XB j (a.take k)
  ·rw[if_pos m]at n;refine cA (by simp[m]) ?_;refine qA (by omega) ?_;exact t (B,k+1) _ ⟨f,l,b,p,by show eF _ _ (XB j (a.take (k+1)));rw[n];exact d,by show b.length<=j.length+(k+1);omega⟩ (by show a.length-(k+1)<a.length-k;omega)
  ·rw[if_neg m]at n;refine iA (by simp[m]) ?_;refine zj o l rfl f λq u=>?_;refine nT aF XE rfl p u.cellOk' (by omega) (by omega) (by have:=l.size;omega) λT W P M=>?_;have J:bA w W:=l.grown M λG L=>by have:=(p.blk G L).1;omega
   refine qA (by omega) ?_;refine t (T,k+1) _ ⟨f,J,b++[q],P,?_,by show(b++[q]).length<=j.length+(k+1);rw[List.length_append,List.length_singleton];omega⟩ (by show a.length-(k+1)<a.length-k;omega);show eF _ _ (XB j (a.take (k+1)));rw[n];exact d.app (eF.one u)
 ·have:k=a.length:=by omega
  subst this;rw[List.take_length]at d;exact⟨c,b,e.sl,d.ext c⟩
theorem Hu(N:kY w v j)(o:bA w a)(V:x<j.length)(W:j.length<=1099511627776)(F:∀v' w',bA a w'->kY w' v' (IC j x)->t v' w'):
  qP 1 v none (some (iv x)) λB=>oA .i64 (iv x) (iv 1) λR=>qP 1 v (some R) none λD=>
  ∀e,bA a e->xB XA (Value.cells (.slice none 0 0)) 1 0 [] e λQ n=>bA e n/\ ∀c,bA n c->nD prog (Builtin.append_ #[ZE,ZE] ZE #[Q,B]) c λC k=>
  bA c k/\ ∀l,bA k l->nD prog (Builtin.append_ #[ZE,ZE] ZE #[C,D]) l λh m=>∀d,bA m d->t h d:=by
 obtain⟨i,A,b⟩:=N;have Z:=b.1;have K:=b.cells;refine Ju (A.ext o) (by omega) λB G=>?_;refine qA (by omega) ?_;rw[show(x:Int)+1=((x+1:Nat):Int)by omega];refine Qm (A.ext o) (by omega) λD H=>?_;intro e r;refine Fu λS n T U s I=>⟨s,λc f=>?_⟩
 have X:(i.take x).length=x:=by rw[List.length_take];omega
 have Y:(i.drop (x+1)).length=i.length-(x+1):=List.length_drop;refine Du aF XE rfl (I.ext f) (G.ext (r.trans (s.trans f))) (by omega) (by omega) λC k p z=>⟨p,λl g=>?_⟩
 have u:=(r.trans s).trans (f.trans (p.trans g));have s8:=r.size;have aa:=(f.trans (p.trans g)).size;refine wo aF XE rfl (z.ext g) (H.ext u) (λP O=>K P (List.mem_of_mem_drop O)) (by omega) (by omega) (by omega) λh m M L=>?_;intro d q;have y:bA a m:=u.grown L λE J=>by have:=((z.ext g).blk E J).1;omega
 exact F h d (y.trans q) ⟨_,(M.ext q).sl,((b.take x).app (b.drop (x+1))).ext (o.trans (y.trans q))⟩
theorem b0{a:List Fm}{r:Fm}(n:kY w v a)(d:oC w i r)(m:∀x∈a,x.size<=1000000)(E:r.size<=1000000):CB prog 500 #[v,i] w (.bool (BE a r)):=by
 apply O1;unfold pO;refine eB (j:=0) d rfl r.size_pos (by decide) (rA d).1 ?_;cases r with
 |var F=>exact BA (cA rfl (BA (cA rfl ⟨rfl,bA.refl _⟩)))
 |fls=>exact BA (cA rfl (BA (cA rfl ⟨rfl,bA.refl _⟩)))
 |and r b=>exact BA (cA rfl (BA (cA rfl ⟨rfl,bA.refl _⟩)))
 |box r=>exact BA (cA rfl (BA (cA rfl ⟨rfl,bA.refl _⟩)))
 |dia r=>exact BA (cA rfl (BA (cA rfl ⟨rfl,bA.refl _⟩)))
 |or r b=>
  refine BA (iA rfl ?_);refine sB (BE a (.or r b)) w (λJ e=>?_) (λB q=>λ_=>⟨by first|trivial|rfl,q⟩);refine aA ((DA (f:=.or r b) d rfl (by omega)).mono ?_);rintro z t ⟨c,k⟩;refine gA (wE (n.ext c) k m) λC u=>?_;refine dA (λh=>?_) (λh=>?_)
  ·refine cast ?_ (e C (c.trans u));rw[show BE a (.or r b)=true by simp[BE,h]]
  ·have l:=c.trans u;refine aA ((zA (f:=.or r b) (d.ext l) rfl (by omega)).mono ?_);rintro A D ⟨g,o⟩;refine gA (wE (n.ext (l.trans g)) o m) λp s=>?_;refine cast ?_ (e p ((l.trans g).trans s));rw[show BE a (.or r b)=decide (b∈a)by simp[BE,h]]
 |imp r b=>
  refine BA (cA rfl (BA (iA rfl ?_)));refine sB (BE a (.imp r b)) w (λJ e=>?_) (λB q=>λ_=>⟨by first|trivial|rfl,q⟩);refine aA ((DA (f:=.imp r b) d rfl (by omega)).mono ?_);rintro z t ⟨c,k⟩;refine eB (j:=0) k rfl r.size_pos (by decide) (rA k).1 ?_;refine BA ?_;refine dA (λh=>?_) (λh=>?_)
  ·have:r= .fls:=by cases r<;>simp[Fm.kind]at h;rfl
   subst this;refine cast ?_ (e t c);rw[show BE a (.imp .fls b)=true by simp[BE]]
  ·refine aA ((zA (f:=.imp r b) (d.ext c) rfl (by omega)).mono ?_);rintro A D ⟨g,o⟩;refine gA (wE (n.ext (c.trans g)) o m) λp s=>?_;have:r≠ .fls:=λy=>h (by rw[y];rfl);refine cast ?_ (e p ((c.trans g).trans s));rw[show BE a (.imp r b)=decide (b∈a)by simp[BE,this]]
theorem C3:∀(av:Nat) {aw vc:Value} {b:List Fm} {c:Fm} {H:World},Y9 b+c.w2<av->Hi b c->kY H aw b->oC H vc c->CB prog 343 #[aw,vc] H (.bool (vF b c)):=by
 intro av
 induction av with
 |zero=>intro aw vc b c H t;omega
 |succ av ih=>
  intro aw vc b c H hn t L F;have v:∀{bd:List Fm} {c':Fm} {r:World} {v' cg:Value},Li bd c' b c->kY r v' bd->oC r cg c'->CB prog 343 #[v',cg] r (.bool (vF bd c')):=λA=>ih (by have:=A.2;omega) A.1;have ar:∀x∈b,x.size<=1000000:=λx hx=>by have:=t.sz_left hx;omega
  have dl:=t.sz_right;have fm:=Lt b;have fn:=t.small;have bm:∀i,i<b.length-> ∀x∈IC b i,x.size<=1000000:=λi W x hx=>ar x ((NG W x).2 (.inr hx));have dx:∀i,i<b.length->(IC b i).length<=b.length:=λi W=>by rw[IC,List.length_append,List.length_take,List.length_drop];omega
  have P:∀{r:World} {v' vm:Value} {au:List Fm} {i:Nat},i<b.length->kY r v' (IC b i)->kY r vm au->(∀x∈au,x.size<=1000000)->au.length<=2->nA prog 501 #[v',vm] r λdz ch=>bA r ch/\kY ch dz (XB (IC b i) au):=
   λW a d c fk=>BT a d (bm _ W) c (by have:=dx _ W;omega)
  apply W4;unfold LP;refine sB (decide (c∈b)||decide (Fm.fls∈b)) H (λab l=>?_) (λw2 x2=>?_)
  ·refine gA (wE L F ar) λw3 x3=>?_;refine dA (λX=>?_) (λX=>?_)
   ·rw[decide_eq_true X,Bool.true_or]at l;exact l _ x3
   ·rw[decide_eq_false X,Bool.false_or]at l;refine aA ((mE w3).mono ?_);rintro fo w4 ⟨x4,hu⟩;refine gA (wE (L.ext (x3.trans x4)) hu.sl ar) λw5 x5=>l _ ((x3.trans x4).trans x5)
  intro _;simp only[gx];cases hb:decide (c∈b)||decide (Fm.fls∈b)
  rotate_left
  ·refine iA rfl ⟨?_,x2⟩;rw[Bool.or_eq_true,decide_eq_true_eq,decide_eq_true_eq]at hb;rw[dG.2 (hb.elim dD.mem dD.fls)]
  rw[Bool.or_eq_false_iff,decide_eq_false_iff_not,decide_eq_false_iff_not]at hb;refine cA rfl ?_;refine MB (λi:Nat=>[iv i]) (λi r=>i<=b.length/\bA H r/\ ∀j (D:j<b.length),j<i->Ki b b[j]) (λi=>b.length-i) 0 rfl ⟨Nat.zero_le _,x2,λj D t=>by omega⟩ ?_;rintro i w7 Kn ⟨W,I,ap⟩ dj;intro _;simp only[gx];refine Om (L.ext I) ?_;refine jB ?_;refine dA (λbi=>?_) (λbi=>?_)
  ·have m:i<b.length:=by omega
   refine zj L I rfl m λva h=>?_;have G:=t.sz_left (List.getElem_mem m);have Z:=t.left _ (List.getElem_mem m);refine Hu L I m (by omega) λvr fq ew hr=>?_;have bx:=I.trans ew;refine gA (b0 hr (h.ext bx) (bm i m) (by omega)) λef cr=>?_;have o:=bx.trans cr;have ah:=hr.ext cr;refine kB (λhu=>?_) (λhu=>?_)
   ·obtain⟨A,k⟩:=qo t m hu;refine gA (v A ah (F.ext o)) λfr ex=>⟨by rw[ug k],o.trans ex⟩
   have ag:Ki b b[i]-> ∀r,bA H r->Kn [iv ((i:Int)+1)] r:=λhI r x'=>dj (i+1) r ⟨m,x',λj D dm=>by
    by_cases e:j=i
    ·subst e;exact hI
    ·exact ap j D (by omega)⟩ (by omega)
   have u:=(rA h).1;cases e:b[i]with
   |box a=>rw[e]at Z;cases Z
   |dia a=>rw[e]at Z;cases Z
   |var p=>
    rw[e]at h u;refine eB (j:=0) (h.ext o) rfl (Fm.size_pos _) (by decide) u (BA (cA rfl ?_));refine eB (j:=0) (h.ext o) rfl (Fm.size_pos _) (by decide) u (BA (cA rfl ?_));refine eB (j:=0) (h.ext o) rfl (Fm.size_pos _) (by decide) u (ZF (iA rfl ?_));exact qA (by omega) (ag (by rw[e];exact .inl ⟨p,rfl⟩) _ o)
   |fls=>exact absurd (e▸List.getElem_mem m) hb.2
   |and a d=>
    rw[e]at h u G;obtain⟨A,k⟩:=rv t m e;simp only[Fm.size]at G;refine eB (j:=0) (h.ext o) rfl (Fm.size_pos _) (by decide) u (BA (iA rfl ?_));refine aA ((DA (f:=.and a d) (h.ext o) rfl (by simp only[Fm.size];omega)).mono ?_);rintro N eg ⟨ax,q⟩;refine aA ((zA (f:=.and a d) (h.ext (o.trans ax)) rfl (by simp only[Fm.size];omega)).mono ?_);rintro u2 ft ⟨cs,w⟩;refine Z8 rfl q.cellOk' w.cellOk' λO eh Q ad C=>?_;have y:=ax.trans (cs.trans ad);refine aA ((P m (ah.ext y) (kY.blk2 C (q.ext (cs.trans ad)) (w.ext ad)) (by simp only[List.mem_cons,List.not_mem_nil,or_false];rintro x (rfl|rfl)<;>omega) (by simp)).mono ?_);rintro u3 ei ⟨al,bk⟩;refine gA (v A bk (F.ext ((o.trans y).trans al))) λej bq=>⟨by rw[ug k],((o.trans y).trans al).trans bq⟩
   |or a d=>
    rw[e]at h u G;obtain⟨l1,l2,k⟩:=Ew t m e;simp only[Fm.size]at G;refine eB (j:=0) (h.ext o) rfl (Fm.size_pos _) (by decide) u (BA (cA rfl ?_));refine eB (j:=0) (h.ext o) rfl (Fm.size_pos _) (by decide) u (BA (iA rfl ?_));refine sB (vF b c) ef (λab l=>?_) (λw2 x2=>λ_=>⟨by first|trivial|rfl,o.trans x2⟩);rw[ms k]at l;refine aA ((DA (f:=.or a d) (h.ext o) rfl (by simp only[Fm.size];omega)).mono ?_);rintro N eg ⟨ax,q⟩;refine fF rfl q.cellOk' λO eh Q ad C=>?_;have y:=ax.trans ad;refine aA ((P m (ah.ext y) (kY.blk1 C (q.ext ad)) (by simp only[List.mem_singleton];rintro x rfl;omega) (by simp)).mono ?_);rintro u3 ei ⟨al,bk⟩;refine gA (v l1 bk (F.ext ((o.trans y).trans al))) λej bq=>?_;have Y:=(y.trans al).trans bq;refine kB (λn=>?_) (λn=>?_)
    ·rw[n,Bool.true_and]at l;refine aA ((zA (f:=.or a d) (h.ext (o.trans Y)) rfl (by simp only[Fm.size];omega)).mono ?_);rintro u4 fu ⟨ey,S⟩;refine fF rfl S.cellOk' λO fv Q ct be=>?_;have y2:=Y.trans (ey.trans ct);refine aA ((P m (ah.ext y2) (kY.blk1 be (S.ext ct)) (by simp only[List.mem_singleton];rintro x rfl;omega) (by simp)).mono ?_);rintro u5 fw ⟨cu,dt⟩;refine gA (v l2 dt (F.ext ((o.trans y2).trans cu))) λfx ez=>l _ ((y2.trans cu).trans ez)
    ·rw[n,Bool.false_and]at l;exact l _ Y
   |imp x y=>
    rw[e]at h u G hu Z;simp only[Fm.size]at G;refine eB (j:=0) (h.ext o) rfl (Fm.size_pos _) (by decide) u (BA (cA rfl ?_));refine eB (j:=0) (h.ext o) rfl (Fm.size_pos _) (by decide) u (BA (cA rfl ?_));refine eB (j:=0) (h.ext o) rfl (Fm.size_pos _) (by decide) u (ZF (cA rfl ?_));refine aA ((DA (f:=.imp x y) (h.ext o) rfl (by simp only[Fm.size];omega)).mono ?_);rintro ux fy ⟨cv,s⟩;refine aA ((zA (f:=.imp x y) (h.ext (o.trans cv)) rfl (by simp only[Fm.size];omega)).mono ?_);rintro uy ck ⟨cw,aj⟩;have df:=cv.trans cw;have U:=o.trans df;have s:oC ck ux x:=s.ext cw;have aq:=ah.ext df;have M:=(rA s).1;have bo:(∀a d,x≠ .and a d)->(∀a d,x≠ .or a d)->cf 499 [vr,ux] ck λea bp=>eA ea (xB XA (Value.cells (.slice none 0 0)) 1 1 [(0,uy)] bp λeb cl=>
      cf 501 [vr,eb] cl λec cm=>cf 343 [ec,vc] cm λed cn=>ed= .bool (vF b c)/\bA H cn)
      (oA .i64 (iv i) (iv 1) λee=>Kn [ee] bp):=λq1 q2=>by
     refine gA (wE aq s (bm i m)) λbp az=>?_;refine dA (λhx=>?_) (λhx=>?_)
     ·obtain⟨A,k⟩:=oo t m e hx;refine fF rfl aj.cellOk' λO cl Q bs C=>?_;refine aA ((P m (aq.ext (az.trans bs)) (kY.blk1 C (aj.ext (az.trans bs))) (by simp only[List.mem_singleton];rintro x rfl;omega) (by simp)).mono ?_);rintro u3 cm ⟨fa,du⟩;have Y:=(az.trans bs).trans fa;refine gA (v A du (F.ext (U.trans Y))) λcn fb=>⟨by rw[ug k],(U.trans Y).trans fb⟩
     ·refine qA (by omega) (ag ?_ _ (U.trans az));refine Xq t m hb.2 (by rw[e];exact hu) (λa d E=>by rw[e]at E;cases E) (λa d E=>by rw[e]at E;cases E) λx' y' E=>?_;rw[e]at E;cases E;exact⟨q1,q2,hx⟩
    cases x with
    |box a=>cases Z
    |dia a=>cases Z
    |and a d=>
     obtain⟨A,k⟩:=Cl t m e;simp only[Fm.size]at G;refine eB (j:=0) s rfl (Fm.size_pos _) (by decide) M (BA (iA rfl ?_));refine aA ((DA (f:=.and a d) s rfl (by simp only[Fm.size];omega)).mono ?_);rintro N ek ⟨T,q⟩;refine aA ((zA (f:=.and a d) (s.ext T) rfl (by simp only[Fm.size];omega)).mono ?_);rintro u2 el ⟨aa,w⟩;refine aA ((jC (k:=4) (c:=.imp d y) rfl rfl w (aj.ext (T.trans aa)) (by simp only[Fm.size];omega)).mono ?_);rintro u3 em ⟨ae,R⟩;refine aA ((jC (k:=4) (c:=.imp a (.imp d y)) rfl rfl (q.ext (aa.trans ae)) R.sl (by simp only[Fm.size];omega)).mono ?_);rintro u4 en ⟨ay,S⟩;refine fF rfl S.cell λO eo Q af C=>?_;have Y:=(T.trans aa).trans (ae.trans (ay.trans af));refine aA ((P m (aq.ext Y) (kY.blk1 C (S.sl.ext af)) (by simp only[List.mem_singleton];rintro x rfl;simp only[Fm.size];omega) (by simp)).mono ?_);rintro u5 ep ⟨am,bl⟩;refine gA (v A bl (F.ext ((U.trans Y).trans am))) λeq br=>⟨by rw[ug k],((U.trans Y).trans am).trans br⟩
    |or a d=>
     obtain⟨A,k⟩:=po t m e;simp only[Fm.size]at G;refine eB (j:=0) s rfl (Fm.size_pos _) (by decide) M (BA (cA rfl ?_));refine eB (j:=0) s rfl (Fm.size_pos _) (by decide) M (BA (iA rfl ?_));refine aA ((DA (f:=.or a d) s rfl (by simp only[Fm.size];omega)).mono ?_);rintro N ek ⟨T,q⟩;refine aA ((jC (k:=4) (c:=.imp a y) rfl rfl q (aj.ext T) (by simp only[Fm.size];omega)).mono ?_);rintro u2 el ⟨aa,w⟩;refine aA ((zA (f:=.or a d) (s.ext (T.trans aa)) rfl (by simp only[Fm.size];omega)).mono ?_);rintro u3 em ⟨ae,R⟩;refine aA ((jC (k:=4) (c:=.imp d y) rfl rfl R (aj.ext (T.trans (aa.trans ae))) (by simp only[Fm.size];omega)).mono ?_);rintro u4 en ⟨ay,S⟩;refine Z8 rfl w.cell S.cell λO eo Q af C=>?_;have Y:=(T.trans aa).trans (ae.trans (ay.trans af));refine aA ((P m (aq.ext Y) (kY.blk2 C (w.sl.ext (ae.trans (ay.trans af))) (S.sl.ext af)) (by simp only[List.mem_cons,List.not_mem_nil,or_false];rintro x (rfl|rfl)<;>simp only[Fm.size]<;>omega) (by simp)).mono ?_);rintro u5 ep ⟨am,bl⟩;refine gA (v A bl (F.ext ((U.trans Y).trans am))) λeq br=>⟨by rw[ug k],((U.trans Y).trans am).trans br⟩
    |var p=>
     refine eB (j:=0) s rfl (Fm.size_pos _) (by decide) M (BA (cA rfl ?_));refine eB (j:=0) s rfl (Fm.size_pos _) (by decide) M (BA (cA rfl ?_));exact bo (λa d e=>by cases e) (λa d e=>by cases e)
    |fls=>
     refine eB (j:=0) s rfl (Fm.size_pos _) (by decide) M (BA (cA rfl ?_));refine eB (j:=0) s rfl (Fm.size_pos _) (by decide) M (BA (cA rfl ?_));exact bo (λa d e=>by cases e) (λa d e=>by cases e)
    |imp a d=>
     refine eB (j:=0) s rfl (Fm.size_pos _) (by decide) M (BA (cA rfl ?_));refine eB (j:=0) s rfl (Fm.size_pos _) (by decide) M (BA (cA rfl ?_));exact bo (λa d e=>by cases e) (λa d e=>by cases e)
  have ap:∀j (D:j<b.length),Ki b b[j]:=λj D=>ap j D (by omega);have V:oC w7 vc c:=F.ext I;have ai:=L.ext I;refine eB (j:=0) V rfl (Fm.size_pos _) (by decide) (rA F).1 ?_;refine BA (dA (λX=>?_) (λX=>?_))
  ·obtain⟨a,d,rfl⟩:∃a d,c= .and a d:=by
    cases c<;>simp[Fm.kind]at X;exact⟨_,_,rfl⟩
   obtain⟨l1,l2,k⟩:=qj t rfl;refine sB (vF b (.and a d)) w7 (λab l=>?_) (λw2 x2=>λ_=>⟨by first|trivial|rfl,I.trans x2⟩);rw[ms k]at l;refine aA ((DA (f:=.and a d) V rfl (by omega)).mono ?_);rintro N w8 ⟨B,q⟩;refine gA (v l1 (ai.ext B) q) λw9 J=>?_;refine kB (λn=>?_) (λn=>?_)
   ·rw[n,Bool.true_and]at l;refine aA ((zA (f:=.and a d) (V.ext (B.trans J)) rfl (by omega)).mono ?_);rintro u2 ci ⟨ak,w⟩;have y:=B.trans (J.trans ak);refine gA (v l2 (ai.ext y) w) λcj ac=>l _ (y.trans ac)
   ·rw[n,Bool.false_and]at l;exact l _ (B.trans J)
  refine BA (dA (λbg=>?_) (λbg=>?_))
  ·obtain⟨a,d,rfl⟩:∃a d,c= .imp a d:=by
    cases c<;>simp[Fm.kind]at bg;exact⟨_,_,rfl⟩
   obtain⟨A,k⟩:=rj t rfl;simp only[Fm.size]at dl;refine aA ((DA (f:=.imp a d) V rfl (by simp only[Fm.size];omega)).mono ?_);rintro N w8 ⟨B,q⟩;refine fF rfl q.cellOk' λO w9 Q J C=>?_;have y9:=B.trans J;refine aA ((BT (ai.ext y9) (kY.blk1 C (q.ext J)) ar (by simp only[List.mem_singleton];rintro x rfl;omega) (by simp only[List.length_singleton];omega)).mono ?_);rintro u2 ci ⟨ak,dr⟩;have de:=y9.trans ak;refine aA ((zA (f:=.imp a d) (V.ext de) rfl (by simp only[Fm.size];omega)).mono ?_);rintro u3 cj ⟨ac,R⟩;refine gA (v A (dr.ext ac) R) λfp eu=>⟨by rw[ug k],(I.trans (de.trans ac)).trans eu⟩
  have ds:∀a d,c≠ .and a d/\c≠ .imp a d:=λa d=>⟨λe=>X (by rw[e];rfl),λe=>bg (by rw[e];rfl)⟩
  refine BA ?_;refine WB (λxs r=>xs=[]/\bA w7 r/\ ∀a d,c= .or a d-> ¬dD b a/\ ¬dD b d) (λab l=>?_) ?_
  ·refine dA (λbh=>?_) (λbh=>?_)
   ·obtain⟨a,d,rfl⟩:∃a d,c= .or a d:=by
     cases c<;>simp[Fm.kind]at bh;exact⟨_,_,rfl⟩
    obtain⟨l1,l2,k⟩:=Dl t rfl;refine sB (vF b a||vF b d) w7 (λJ2 ao=>?_) (λw8 B=>?_)
    ·refine aA ((DA (f:=.or a d) V rfl (by omega)).mono ?_);rintro N w8 ⟨B,q⟩;refine gA (v l1 (ai.ext B) q) λw9 J=>?_;refine kB (λn=>?_) (λn=>?_)
     ·rw[n,Bool.true_or]at ao;exact ao _ (B.trans J)
     ·rw[n,Bool.false_or]at ao;refine aA ((zA (f:=.or a d) (V.ext (B.trans J)) rfl (by omega)).mono ?_);rintro u2 ci ⟨ak,w⟩;have y:=B.trans (J.trans ak);refine gA (v l2 (ai.ext y) w) λcj ac=>ao _ (y.trans ac)
    ·intro _;simp only[gx];refine kB (λn=>?_) (λn=>?_)
     ·rw[Bool.or_eq_true,dG,dG]at n;exact⟨by rw[dG.2 (k n)],I.trans B⟩
     ·rw[Bool.or_eq_false_iff,Gd,Gd]at n;refine l _ _ ⟨rfl,B,λa' b' e=>?_⟩;cases e;exact n
   ·exact l _ _ ⟨rfl,bA.refl _,λa d e=>absurd (by rw[e];rfl) bh⟩
  rintro xs fz ⟨rfl,fd,dq⟩;intro _;have di:=I.trans fd;refine MB (λi:Nat=>[iv i]) (λi r=>i<=b.length/\bA H r/\ ∀j (D:j<b.length),j<i-> ∀x y z,b[j]= .imp (.imp x y) z-> ¬(dD (XB (IC b j) [.imp y z,x]) y/\dD (XB (IC b j) [z]) c)) (λi=>b.length-i) 0 rfl ⟨Nat.zero_le _,di,λj D t=>by omega⟩ ?_;rintro i co dh ⟨W,K,cd⟩ dk;intro _;simp only[gx];refine Om (L.ext K) ?_;refine jB ?_;refine dA (λbi=>?_) (λbi=>?_)
  ·have m:i<b.length:=by omega
   refine zj L K rfl m λva h=>?_;have G:=t.sz_left (List.getElem_mem m);have u:=(rA h).1;have ag:(∀x y z,b[i]= .imp (.imp x y) z-> ¬(dD (XB (IC b i) [.imp y z,x]) y/\dD (XB (IC b i) [z]) c))-> ∀r,bA H r->dh [iv ((i:Int)+1)] r:=λhI r x'=>dk (i+1) r ⟨m,x',λj D dm=>by
    by_cases e:j=i
    ·subst e;exact hI
    ·exact cd j D (by omega)⟩ (by omega)
   by_cases bj:∃x y z,b[i]= .imp (.imp x y) z
   ·obtain⟨x,y,z,e⟩:=bj;rw[e]at h u G;obtain⟨l1,l2,k1,k2⟩:=Em t m e;simp only[Fm.size]at G;refine sB false co (λab l=>?_) (λer bt=>?_)
    ·refine eB (j:=0) (h.ext K) rfl (Fm.size_pos _) (by decide) u (ZF (cA rfl ?_));refine aA ((DA (f:=.imp (.imp x y) z) (h.ext K) rfl (by simp only[Fm.size];omega)).mono ?_);rintro N et ⟨bu,q⟩;refine eB (j:=0) q rfl (Fm.size_pos _) (by decide) (rA q).1 (ZF ?_);exact l _ bu
    intro _;simp only[gx];refine cA rfl ?_;have bz:=K.trans bt;refine Hu L bz m (by omega) λvr ga fe hr=>?_;have ba:=bz.trans fe;refine aA ((DA (f:=.imp (.imp x y) z) (h.ext ba) rfl (by simp only[Fm.size];omega)).mono ?_);rintro ux gb ⟨cx,s⟩;refine aA ((zA (f:=.imp (.imp x y) z) (h.ext (ba.trans cx)) rfl (by simp only[Fm.size];omega)).mono ?_);rintro uz cp ⟨cy,bn⟩;have dg:=cx.trans cy;have bc:=ba.trans dg;have s:oC cp ux (.imp x y):=s.ext cy;have ce:=hr.ext dg;refine sB (vF (XB (IC b i) [.imp y z,x]) y&&vF (XB (IC b i) [z]) c) cp (λab l=>?_) (λgc cz=>?_)
    ·refine aA ((zA (f:=.imp x y) s rfl (by simp only[Fm.size];omega)).mono ?_);rintro N gd ⟨bv,q⟩;refine aA ((jC (k:=4) (c:=.imp y z) rfl rfl q (bn.ext bv) (by simp only[Fm.size];omega)).mono ?_);rintro u2 ge ⟨da,w⟩;refine aA ((DA (f:=.imp x y) (s.ext (bv.trans da)) rfl (by simp only[Fm.size];omega)).mono ?_);rintro u3 gf ⟨db,R⟩;refine Z8 rfl w.cell R.cellOk' λO gg Q bw C=>?_;have Y:=(bv.trans da).trans (db.trans bw);refine aA ((P m (ce.ext Y) (kY.blk2 C (w.sl.ext (db.trans bw)) (R.ext bw)) (by simp only[List.mem_cons,List.not_mem_nil,or_false];rintro x (rfl|rfl)<;>(try simp only[Fm.size])<;>omega) (by simp)).mono ?_);rintro u4 gh ⟨fg,dv⟩;have ca:=Y.trans fg;refine aA ((zA (f:=.imp x y) (s.ext ca) rfl (by simp only[Fm.size];omega)).mono ?_);rintro u5 gi ⟨dc,dy⟩;refine gA (v l1 (dv.ext dc) dy) λgj fh=>?_;have cb:=(ca.trans dc).trans fh;refine kB (λn=>?_) (λn=>?_)
     ·rw[n,Bool.true_and]at l;refine fF rfl bn.cellOk' λO gk Q fi be=>?_;have an:=cb.trans fi;refine aA ((P m (ce.ext an) (kY.blk1 be (bn.ext an)) (by simp only[List.mem_singleton];rintro x rfl;omega) (by simp)).mono ?_);rintro u6 gl ⟨dd,dw⟩;refine gA (v l2 dw (F.ext ((bc.trans an).trans dd))) λgm fj=>l _ ((an.trans dd).trans fj)
     ·rw[n,Bool.false_and]at l;exact l _ cb
    intro _;simp only[gx];refine kB (λn=>?_) (λn=>?_)
    ·rw[Bool.and_eq_true,dG,dG]at n;exact⟨by rw[dG.2 ((k2 (k1.1 n.1)).1 n.2)],bc.trans cz⟩
    ·refine qA (by omega) (ag (λx' y' z' E hV=>?_) _ (bc.trans cz));rw[e]at E;cases E;rw[dG.2 hV.1,dG.2 hV.2]at n;cases n
   ·refine sB true co (λab l=>?_) (λer bt=>?_)
    ·refine eB (j:=0) (h.ext K) rfl (Fm.size_pos _) (by decide) u ?_;refine ZF (dA (λ_=>l _ (bA.refl _)) (λcc=>?_));obtain⟨x,z,e⟩:∃x z,b[i]= .imp x z:=by
      cases e:b[i]<;>rw[e]at cc<;>simp[Fm.kind]at cc;exact⟨_,_,rfl⟩
     refine aA ((DA (f:=b[i]) (g:=x) (gs:=[z]) (h.ext K) (by rw[e];rfl) (by omega)).mono ?_);rintro N et ⟨bu,q⟩;refine eB (j:=0) q rfl (Fm.size_pos _) (by decide) (rA q).1 (ZF ?_);rw[decide_eq_true (p:=¬((x.kind:Int)=4)) (λdn=>?_)]
     ·exact l _ bu
     ·cases x<;>simp[Fm.kind]at dn;exact bj ⟨_,_,_,e⟩
    intro _;simp only[gx];refine iA rfl (qA (by omega) (ag (λx y z e=>absurd ⟨x,y,z,e⟩ bj) _ (K.trans bt)))
  ·refine⟨?_,K⟩;rw[Gd.2 (Yv t hb.1 ap ds dq λj D x y z e=>cd j D (by omega) x y z e)]
def Fm.ks:Fm->List (Nat×Nat)
 | .var v=>[(0,v)]
 | .fls=>[(1,0)]
 | .and a b=>(2,0)::(a.ks++b.ks)
 | .or a b=>(3,0)::(a.ks++b.ks)
 | .imp a b=>(4,0)::(a.ks++b.ks)
 | .box a=>(5,0)::a.ks
 | .dia a=>(6,0)::a.ks
def Ip(l:List (Nat×Nat)):List Value:=l.flatMap λp=>nd p.1 p.2
theorem tQ(p:Nat×Nat)(l:List (Nat×Nat)):Ip (p::l)=nd p.1 p.2++Ip l:=by simp[Ip]
theorem Mh(l m:List (Nat×Nat)):Ip (l++m)=Ip l++Ip m:=by simp[Ip]
theorem Fm.cells_ks:∀f:Fm,f.cells=Ip f.ks
 | .var v=>rfl
 | .fls=>rfl
 | .and a b=>by rw[Fm.ks,tQ,Mh,<-a.cells_ks,<-b.cells_ks];simp[Fm.cells]
 | .or a b=>by rw[Fm.ks,tQ,Mh,<-a.cells_ks,<-b.cells_ks];simp[Fm.cells]
 | .imp a b=>by rw[Fm.ks,tQ,Mh,<-a.cells_ks,<-b.cells_ks];simp[Fm.cells]
 | .box a=>by rw[Fm.ks,tQ,<-a.cells_ks];simp[Fm.cells]
 | .dia a=>by rw[Fm.ks,tQ,<-a.cells_ks];simp[Fm.cells]
theorem Fm.ks_len:∀f:Fm,f.ks.length=f.size
 | .var _=>rfl
 | .fls=>rfl
 | .and a b=>by simp only[Fm.ks,Fm.size,List.length_cons,List.length_append,a.ks_len,b.ks_len];omega
 | .or a b=>by simp only[Fm.ks,Fm.size,List.length_cons,List.length_append,a.ks_len,b.ks_len];omega
 | .imp a b=>by simp only[Fm.ks,Fm.size,List.length_cons,List.length_append,a.ks_len,b.ks_len];omega
 | .box a=>by simp only[Fm.ks,Fm.size,List.length_cons,a.ks_len];omega
 | .dia a=>by simp only[Fm.ks,Fm.size,List.length_cons,a.ks_len];omega
theorem Pl:∀{l:List (Nat×Nat)} {i:Nat} (h:i<l.length),(Ip l)[i*2+0]?=some (iv (l[i].1:Int))/\(Ip l)[i*2+1]?=some (iv (l[i].2:Int))
 |[],_,h=>by simp at h
 |p::l,0,_=>⟨rfl,rfl⟩
 |p::l,i+1,h=>by
  have:=Pl (l:=l) (i:=i) (by simpa using h);have e:∀f,(Ip (p::l))[(i+1)*2+f]?=(Ip l)[i*2+f]?:=λf=>by
   rw[tQ,List.getElem?_append_right (by simp[nd];omega)]
   congr 1
   simp[nd];omega
  rw[e,e];simpa using this
def tB(p:Nat×Nat):Bool:=decide (p.1=5)||decide (p.1=6)
theorem Fm.plain_ks:∀f:Fm,f.ks.any tB= !f.plain
 | .var _=>rfl
 | .fls=>rfl
 | .and a b=>by simp only[Fm.ks,List.any_cons,List.any_append,a.plain_ks,b.plain_ks,Fm.plain];simp[tB]
 | .or a b=>by simp only[Fm.ks,List.any_cons,List.any_append,a.plain_ks,b.plain_ks,Fm.plain];simp[tB]
 | .imp a b=>by simp only[Fm.ks,List.any_cons,List.any_append,a.plain_ks,b.plain_ks,Fm.plain];simp[tB]
 | .box a=>by simp only[Fm.ks,List.any_cons,Fm.plain];simp[tB]
 | .dia a=>by simp only[Fm.ks,List.any_cons,Fm.plain];simp[tB]
theorem xm{a:Type}{e:List a}{p:a->Bool}(b:x<e.length)(h:p e[x]=true):e.any p=true:=List.any_eq_true.2 ⟨e[x],List.getElem_mem _,h⟩
theorem ym{b:Type}{e:List b}{p:b->Bool}(h:∀i (a:i<e.length),p e[i]=false):e.any p=false:=by
 rw[List.any_eq_false];intro x c;obtain⟨i,a,rfl⟩:=List.getElem_of_mem c;rw[h i a];exact Bool.false_ne_true
theorem sx{r:Fm}(h:r.good):vB [] r.body=vF [] r:=Bool.eq_iff_iff.2 (DG.trans ((by unfold VT;rw[UB h];exact Iff.rfl:VT [] r.body↔dD [] r).trans dG.symm))
theorem Kk{r:Fm}(b:r.plain=true)(c:r.size<=20):r.w2<=1099511627776:=by
 have:=(Fm.wt_size b).2;have a:r.wt<=40:=by omega
 have:=Nat.pow_le_pow_right (n:=2) (by omega) a;simpa[Fm.w2]using this
theorem p9(k:Nat)(w:World):CB prog 278 #[iv k] w (.bool (decide (k=5)||decide (k=6))):=by
 apply lN;unfold GI;refine sB (decide (k=5)||decide (k=6)) w (λJ a=>?_) (λc b=>λ_=>⟨by first|trivial|rfl,b⟩);refine BA (dA (λh=>?_) (λh=>?_))
 ·rw[decide_eq_true (show k=5 by omega),Bool.true_or]at a;exact a _ (bA.refl _)
 ·rw[decide_eq_false (show¬k=5 by omega),Bool.false_or]at a;refine BA ?_;rw[show decide ((k:Int)=6)=decide (k=6)from decide_eq_decide.2 (by omega)];exact a _ (bA.refl _)
theorem r9{r:Fm}(f:oC w v r):CB prog 162 #[v] w (.bool r.plain):=by
 apply DV;unfold QM;have E:=f.len;have D:=r.ks_len;refine gA (v:=.bool (r.ks.any tB)) ?_ λt x=>TA ⟨by rw[r.plain_ks,Bool.not_not],x⟩;apply VC;unfold YB;refine aA (nA.mono (R:=λm g=>bA w g/\ ∃z:Int,m=iv z/\(decide (0<=z)=r.ks.any tB)) ?_ ?_)
 ·apply AD;unfold tC;refine VB f ?_;refine MB (λi:Nat=>[iv i]) (λi g=>i<=r.size/\bA w g/\ ∀j (a:j<r.ks.length),j<i->tB r.ks[j]=false) (λi=>r.size-i) 0 rfl ⟨Nat.zero_le _,bA.refl _,λj a h=>by omega⟩ ?_;rintro i H A ⟨B,b,l⟩ q;intro _;simp only[gx];refine jB ?_;refine dA (λh=>?_) (λh=>?_)
  ·have k:i<r.ks.length:=by omega
   have e:=Pl k;rw[<-r.cells_ks]at e;refine b9 (cs:=#[iv (r.ks[i].1:Int),iv (r.ks[i].2:Int)]) (f.ext b) rfl (by omega) rfl (λj a=>?_) ?_
   ·rcases j with _|_|j
    ·exact e.1
    ·exact e.2
    ·omega
   refine gA (v:=.bool (tB r.ks[i])) ?_ λu c=>?_
   ·apply TP;unfold WJ;refine iC λG u F c p=>?_;refine pB (mA p rfl ?_);refine gA (p9 _ _) λI y=>⟨rfl,c.trans y⟩
   ·refine kB (λd=>?_) (λd=>?_)
    ·exact⟨b.trans c,_,rfl,by rw[xm k d];simp⟩
    ·refine qA (by omega) ?_;refine q (i+1) _ ⟨by omega,b.trans c,λj a C=>?_⟩ (by omega);by_cases n:j=i
     ·subst n;exact d
     ·exact l j a (by omega)
  ·exact⟨b,-1,rfl,by rw[ym λj a=>l j a (by omega)];rfl⟩
 ·rintro m t ⟨o,z,rfl,s⟩;refine LF ?_;rw[s];exact⟨by first|trivial|rfl,o⟩
theorem nK{r:Fm}(e:oC w v r):CB prog 361 #[v] w (.bool r.plain):=by
 apply m8;unfold yS;have z:=e.len;have y:=r.ks_len;refine MB (λi:Nat=>[iv i]) (λi q=>i<=r.size/\bA w q/\ ∀j (c:j<r.ks.length),j<i->tB r.ks[j]=false) (λi=>r.size-i) 0 rfl ⟨Nat.zero_le _,bA.refl _,λj c h=>by omega⟩ ?_;rintro i s t ⟨u,a,l⟩ p;intro _;simp only[gx];refine VB (e.ext a) ?_;refine jB ?_;refine dA (λh=>?_) (λh=>?_)
 ·have k:i<r.ks.length:=by omega
  have g:=Pl k;rw[<-r.cells_ks]at g;refine sB (tB r.ks[i]) s (λJ b=>?_) (λA m=>?_)
  ·refine eB (j:=i) (e.ext a) rfl (by omega) (by decide) g.1 ?_;unfold tB at b;refine BA (dA (λo=>?_) (λo=>?_))
   ·rw[decide_eq_true (show r.ks[i].1=5 by omega),Bool.true_or]at b;exact b _ (bA.refl _)
   ·rw[decide_eq_false (show¬r.ks[i].1=5 by omega),Bool.false_or]at b;refine eB (j:=i) (e.ext a) rfl (by omega) (by decide) g.1 ?_;refine BA ?_;rw[show decide ((r.ks[i].1:Int)=6)=decide (r.ks[i].1=6)from decide_eq_decide.2 (by omega)];exact b _ (bA.refl _)
  ·intro _;simp only[gx];refine kB (λf=>?_) (λf=>?_)
   ·have d:=r.plain_ks;rw[xm k f]at d;exact⟨by rw[show r.plain=false by simpa using d.symm],a.trans m⟩
   ·refine qA (by omega) ?_;refine p (i+1) _ ⟨by omega,a.trans m,λj c x=>?_⟩ (by omega);by_cases n:j=i
    ·subst n;exact f
    ·exact l j c (by omega)
 ·have d:=r.plain_ks;rw[ym λj c=>l j c (by omega)]at d;exact⟨by rw[show r.plain=true by simpa using d.symm],a⟩
theorem Un{r:Fm}(a:x<64)(h:d4 x r=false):Q3 r=false:=List.all_eq_false.2 ⟨x,List.mem_range.2 a,by rw[h];decide⟩
theorem Ar(b:x<2^64):x=18446744073709551615↔ ∀i,i<64->x.testBit i=true:=by
 constructor
 ·rintro rfl i a;rw[show(18446744073709551615:Nat)=2^64-1 from rfl,Nat.testBit_two_pow_sub_one,decide_eq_true a]
 ·intro h;refine Nat.eq_of_testBit_eq λi=>?_;rw[show(18446744073709551615:Nat)=2^64-1 from rfl,Nat.testBit_two_pow_sub_one];by_cases a:i<64
  ·rw[h i a,decide_eq_true a]
  ·rw[Nat.testBit_lt_two_pow (Nat.lt_of_lt_of_le b (Nat.pow_le_pow_right (by decide) (by omega))),decide_eq_false a]
theorem YV{r:Fm}(d:oC w v r)(f:r.good)(o:r.size<=40):CB prog 79 #[v] w (if r.plain then .tuple #[.bool (Q3 r),iv 0]else .tuple #[.bool false,iv 5]):=by
 apply eZ;unfold GM;refine fF rfl (rB.cellZ d) λj q _ g k=>?_;have p:Sl q (.slice (some ⟨j,0,none⟩) 1 1) [v]:=Sl.ofBlk (n:=1) k rfl (by decide);refine gA (CN p (rB.ext d g) f o) λu s=>?_;have c:=g.trans s;by_cases b:r.plain=true
 ·rw[if_pos b,if_pos b];refine ZF (cA (by decide) ?_);refine aA ((M5 r (rB.ext d c) (G7 f b) (by omega)).mono ?_);rintro _ x ⟨t,m,rfl,l,e⟩;refine BA ⟨?_,c.trans t⟩;have:decide ((m:Int)=18446744073709551615)=Q3 r:=by
   rw[Bool.eq_iff_iff,decide_eq_true_eq];unfold Q3;rw[List.all_eq_true,show((m:Int)=18446744073709551615)↔m=18446744073709551615 by omega,Ar l];exact⟨λh i a=>by rw[<-e i (List.mem_range.1 a)];exact h i (List.mem_range.1 a),λh i a=>by rw[e i a];exact h i (List.mem_range.2 a)⟩
  rw[<-this]
 ·rw[if_neg b,if_neg b];exact ZF (iA (by decide) ⟨rfl,c⟩)
theorem bU{r:Fm}(f:oC w v r)(c:r.good)(y:r.size<=40):CB prog 85 #[v] w (if r.plain then(if 20<r.size then .tuple #[.bool false,iv 3]else .tuple #[.bool (vF [] r),iv 0])else .tuple #[.bool false,iv 5]):=by
 apply kX;unfold GL;refine fF rfl (rB.cellZ f) λk o _ j t=>?_;have l:Sl o (.slice (some ⟨k,0,none⟩) 1 1) [v]:=Sl.ofBlk (n:=1) t rfl (by decide);have x:CB prog 154 #[.slice (some ⟨k,0,none⟩) 1 1] o (iv (if r.plain then(if 20<r.size then 3 else 0)else 5)):=by
  apply WO;unfold rH;refine gA (CN l (rB.ext f j) c y) λp b=>?_;by_cases a:r.plain=true
  ·rw[if_pos a,if_pos a];refine ZF (cA (by decide) ?_);refine aA ((wD (vs:=[v]) (ps:=[(r.size,r.cells)]) (l.ext b) rfl (λA s C=>?_) (λD a u m=>?_) (by simp;omega)).mono ?_)
   ·have:A=0:=by simpa using s
    subst this;exact rB.ext f (j.trans b)
   ·rw[List.mem_singleton.1 a]at m;exact r.cells_cell u m
   rintro u q ⟨g,i⟩;have i:dB 2 p.heap.size NA q u r.size (r.cells++[]):=i;refine VB i.sl (jB (dA (λh=>?_) (λh=>?_)))
   ·rw[if_pos (by omega)];exact⟨rfl,b.trans g⟩
   ·rw[if_neg (by omega)];exact⟨rfl,b.trans g⟩
  ·rw[if_neg a,if_neg a];exact ZF (iA (by decide) ⟨rfl,b⟩)
 refine gA x λp b=>?_;have d:=j.trans b;by_cases a:r.plain=true
 ·rw[if_pos a,if_pos a];by_cases e:20<r.size
  ·rw[if_pos e,if_pos e];exact ZF (iA (by decide) ⟨rfl,d⟩)
  rw[if_neg e,if_neg e];refine ZF (cA (by decide) ?_);refine gA (aC (rB.ext f d) c (by omega)) λq g=>?_;have h:c4 (qG []) r.body:=⟨λE z=>by simp[qG]at z,GT.of c a,by
   have:=Kk a (show r.size<=20 by omega);rw[DE c];show 0+_<=_;omega⟩
  refine gA (R5 (L:=[]) (Ow.nil _ _ _) h (by simp)) λF B=>⟨?_,(d.trans g).trans B⟩
  rw[show qG []=[]from rfl,sx c]
 ·rw[if_neg a,if_neg a];exact ZF (iA (by decide) ⟨rfl,d⟩)
theorem lJ{r:Fm}(c:oC w v r)(a:r.good)(b:r.size<=40):CB prog 109 #[v] w (.bool true):=by
 have:=XY (oC.rawS c) (by rw[ZC];omega)
 rwa [WW.2 ⟨r,a,b,rfl⟩]at this
theorem i6:∀(f:Fm) {v:Value} {r:Nat} {w:World},r<64->oC w v f->f.v6->f.size<=1000->CB prog 491 #[v,iv r] w (.bool (d4 r f)):=by
 intro f
 induction f with
 |var D=>
  intro v r w i c d m;have d:D<=5:=d;apply lG;unfold HE;refine eB (f:=0) (j:=0) c rfl (show 0<1 by decide) (by decide) (rA c).1 ?_;refine BA (iA rfl ?_);refine eB (f:=1) (j:=0) c rfl (show 0<1 by decide) (by decide) (rA c).2 ?_;exact gA (JB r D (by omega) (by omega) w) λy e=>⟨rfl,e⟩
 |fls=>
  intro v r w i c d m;apply lG;unfold HE;refine eB (f:=0) (j:=0) c rfl (by decide) (by decide) (rA c).1 ?_;exact BA (cA rfl (BA (iA rfl ⟨rfl,bA.refl _⟩)))
 |box a _=>intro v r w i c d;exact d.elim
 |dia a _=>intro v r w i c d;exact d.elim
 |and a b iha ihb=>
  intro v r w i c d m;have m:1+a.size+b.size<=1000:=m;apply lG;unfold HE;refine eB (f:=0) (j:=0) c rfl (show 0<1+a.size+b.size by omega) (by decide) (rA c).1 ?_;refine BA (cA rfl (BA (cA rfl (BA (iA rfl ?_)))));refine sB (d4 r (.and a b)) w (λJ n=>?_) (λC x=>λ_=>⟨by first|trivial|rfl,x⟩);refine aA ((DA (g:=a) (gs:=[b]) c rfl (show 1+a.size+b.size<=_ by omega)).mono ?_);rintro z y ⟨e,o⟩;refine gA (iha i o d.1 (by omega)) λq l=>kB (λk=>?_) (λk=>?_)
  ·refine aA ((zA (g:=a) (h:=b) (c.ext (e.trans l)) rfl (show 1+a.size+b.size<=_ by omega)).mono ?_);rintro A B ⟨t,p⟩;refine gA (ihb i p d.2 (by omega)) λs u=>?_;have:=n s (((e.trans l).trans t).trans u)
   rwa [d4,k,Bool.true_and]at this
  ·have:=n q (e.trans l)
   rwa [d4,k,Bool.false_and]at this
 |or a b iha ihb=>
  intro v r w i c d m;have m:1+a.size+b.size<=1000:=m;apply lG;unfold HE;refine eB (f:=0) (j:=0) c rfl (show 0<1+a.size+b.size by omega) (by decide) (rA c).1 ?_;refine BA (cA rfl (BA (cA rfl (BA (cA rfl (BA (iA rfl ?_)))))));refine sB (d4 r (.or a b)) w (λJ n=>?_) (λC x=>λ_=>⟨by first|trivial|rfl,x⟩);refine aA ((DA (g:=a) (gs:=[b]) c rfl (show 1+a.size+b.size<=_ by omega)).mono ?_);rintro z y ⟨e,o⟩;refine gA (iha i o d.1 (by omega)) λq l=>kB (λk=>?_) (λk=>?_)
  ·have:=n q (e.trans l)
   rwa [d4,k,Bool.true_or]at this
  ·refine aA ((zA (g:=a) (h:=b) (c.ext (e.trans l)) rfl (show 1+a.size+b.size<=_ by omega)).mono ?_);rintro A B ⟨t,p⟩;refine gA (ihb i p d.2 (by omega)) λs u=>?_;have:=n s (((e.trans l).trans t).trans u)
   rwa [d4,k,Bool.false_or]at this
 |imp a b iha ihb=>
  intro v r w i c d m;have m:1+a.size+b.size<=1000:=m;apply lG;unfold HE;refine eB (f:=0) (j:=0) c rfl (show 0<1+a.size+b.size by omega) (by decide) (rA c).1 ?_;refine BA (cA rfl (BA (cA rfl (BA (cA rfl (BA (cA rfl ?_)))))));refine sB (d4 r (.imp a b)) w (λJ n=>?_) (λC x=>λ_=>⟨by first|trivial|rfl,x⟩);refine aA ((DA (g:=a) (gs:=[b]) c rfl (show 1+a.size+b.size<=_ by omega)).mono ?_);rintro z y ⟨e,o⟩;refine gA (iha i o d.1 (by omega)) λq l=>TA (kB (λk=>?_) (λk=>?_))
  ·have:=n q (e.trans l)
   rwa [d4,k,Bool.true_or]at this
  ·refine aA ((zA (g:=a) (h:=b) (c.ext (e.trans l)) rfl (show 1+a.size+b.size<=_ by omega)).mono ?_);rintro A B ⟨t,p⟩;refine gA (ihb i p d.2 (by omega)) λs u=>?_;have:=n s (((e.trans l).trans t).trans u)
   rwa [d4,k,Bool.false_or]at this
theorem g6{r:Fm}(g:Sl w v [i])(k:oC w i r)(p:r.good)(q:r.size<=40):CB prog 337 #[v] w (iv (if r.plain then 0 else 5)):=by
 apply wb;unfold XU;refine MB (λa:Nat=>[iv a]) (λa h=>a<=1/\bA w h) (λa=>1-a) 0 rfl ⟨Nat.zero_le _,bA.refl _⟩ ?_;rintro a A x ⟨y,f⟩ o;intro _;simp only[gx];refine XC (Sl.ext g f) (jB (dA (λb=>?_) (λb=>?_)))
 ·have:a=0:=by simp at b;omega
  subst this;refine pP (j:=0) (Sl.ext g f) (by decide) (by simp) λs e=>DD e ?_;exact gA (lJ (rB.ext k f) p q) λB t=>TA (cA rfl (qA (by decide) (o 1 _ ⟨Nat.le_refl _,f.trans t⟩ (by decide))))
 ·refine MB (λa:Nat=>[iv a]) (λa h=>a<=1/\bA w h/\(a=1->r.plain=true)) (λa=>1-a) 0 rfl ⟨Nat.zero_le _,f,λm=>by cases m⟩ ?_;rintro j C u ⟨z,c,e⟩ n;intro _;simp only[gx];refine XC (Sl.ext g c) (jB (dA (λb=>?_) (λb=>?_)))
  ·have:j=0:=by simp at b;omega
   subst this;refine pP (j:=0) (Sl.ext g c) (by decide) (by simp) λs e=>DD e ?_;refine gA (nK (rB.ext k c)) λD l=>TA (kB (λd=>?_) (λd=>?_))
   ·rw[Bool.not_eq_true']at d;rw[d];exact⟨rfl,c.trans l⟩
   ·rw[Bool.not_eq_false']at d;exact qA (by decide) (n 1 _ ⟨Nat.le_refl _,c.trans l,λ_=>d⟩ (by decide))
  ·have:j=1:=by simp at b;omega
   rw[e this];exact⟨rfl,c⟩
theorem dY{r:Fm}(u:oC w v r)(D:r.good)(P:r.size<=40):CB prog 197 #[v] w (if r.plain then .tuple #[.bool (Q3 r),iv 0]else .tuple #[.bool false,iv 5]):=by
 apply vZ;unfold aN;refine fF rfl (rB.cellZ u) λH X _ E K=>?_;have R:Sl X (.slice (some ⟨H,0,none⟩) 1 1) [v]:=Sl.ofBlk (n:=1) K rfl (by decide);refine gA (g6 R (rB.ext u E) D P) λd Y=>?_;have l:=E.trans Y;by_cases b:r.plain=true
 rotate_left
 ·rw[if_neg b,if_neg b];exact ZF (iA (by decide) ⟨rfl,l⟩)
 rw[if_pos b,if_pos b];refine ZF (cA (by decide) ?_);have T:=G7 D b;have S:nA prog 339 #[v] d λx a=>bA d a/\Ow d.heap.size UA a x (((List.range 64).map λi=>d4 i r).map Value.bool):=by
  apply t8;unfold CS;refine PH λW g aa z J=>?_;refine MB (λs:Value×Nat=>[s.1,iv (s.2:Int)]) (λs a=>s.2<=64/\bA d a/\Ow d.heap.size UA a s.1 (((List.range s.2).map λi=>d4 i r).map Value.bool)) (λs=>64-s.2) (W,0) rfl ⟨Nat.zero_le _,z,J⟩ ?_;rintro⟨Z,i⟩ y G ⟨q,h,e⟩ p;have q:i<=64:=q;have e:Ow d.heap.size UA y Z (((List.range i).map λi=>d4 i r).map Value.bool):=e;have ab:(((List.range i).map λi=>d4 i r).map Value.bool).length=i:=by simp
  intro _;simp only[gx];refine jB (dA (λt=>?_) (λt=>?_))
  ·have c:i<64:=by omega
   refine gA (i6 r c (rB.ext u (l.trans h)) T (by omega)) λw5 k=>?_;refine WE U3 E2 rfl (e.ext k) rfl (by omega) (by omega) (h.trans k).size λF w6 Q N _=>?_;refine qA (by omega) ?_;refine p (F,i+1) _ ⟨c,(h.trans k).grown N λI L=>((e.ext k).blk I L).1,?_⟩ (by show 64-(i+1)<64-i;omega);show Ow _ _ _ F (((List.range (i+1)).map λi=>d4 i r).map Value.bool);rw[List.range_succ,List.map_append,List.map_append];exact Q
  ·obtain rfl:i=64:=by omega
   exact⟨h,e⟩
 refine aA (S.mono ?_);rintro V g ⟨z,B⟩;have M:nA prog 338 #[V,.bool false] g λx a=>a=g/\ ∃A:Int,x=iv A/\decide (A<0)=Q3 r:=by
  apply r8;unfold BS;refine MB (λi:Nat=>[iv i]) (λi a=>i<=64/\a=g/\ ∀j,j<i->d4 j r=true) (λi=>64-i) 0 rfl ⟨Nat.zero_le _,rfl,λj f=>absurd f (Nat.not_lt_zero j)⟩ ?_;rintro i y G ⟨q,rfl,C⟩ p;intro _;simp only[gx];refine XC B.sl ?_;rw[List.length_map,List.length_map,List.length_range];refine jB (dA (λt=>?_) (λt=>?_))
  ·have c:i<64:=by omega
   refine pP (j:=(i:Int)) B.sl (by omega) (by simp;omega) λac b=>?_;rw[Int.toNat_natCast,List.getElem?_map,List.getElem?_map,List.getElem?_range c]at b;refine DD b (AG ?_);rw[Bool.true_beq];refine kB (λm=>?_) (λm=>?_)
   ·refine⟨by first|trivial|rfl,_,rfl,?_⟩;have:Q3 r=false:=Un c (by cases o:d4 i r<;>simp[o]at m⊢);rw[this,decide_eq_false (by omega)]
   ·refine qA (by omega) ?_;refine p (i+1) _ ⟨c,rfl,λj f=>?_⟩ (by omega);by_cases O:j=i
    ·rw[O];cases o:d4 i r<;>simp[o]at m⊢
    ·exact C j (by omega)
  ·refine⟨by first|trivial|rfl,_,rfl,?_⟩;have:Q3 r=true:=List.all_eq_true.2 λj f=>C j (by have:=List.mem_range.1 f;omega);rw[this];rfl
 refine aA (M.mono ?_);rintro _ y ⟨rfl,A,rfl,U⟩;exact jB ⟨by rw[U],l.trans z⟩
theorem zW{r:Fm}(f:Sl w v [i])(k:oC w i r)(o:r.good)(q:r.size<=40):CB prog 342 #[v] w (iv (if r.plain then(if 20<r.size then 3 else 0)else 5)):=by
 apply xZ;unfold fN;refine MB (λa:Nat=>[iv ((if a=0 then 0 else r.size:Nat):Int),.bool (if a=0 then true else r.plain),iv a]) (λa l=>a<=1/\bA w l) (λa=>1-a) 0 rfl ⟨Nat.zero_le _,bA.refl _⟩ ?_;rintro a C A ⟨B,b⟩ n;intro _;simp only[gx];refine XC (Sl.ext f b) (jB (dA (λg=>?_) (λg=>?_)))
 ·have:a=0:=by simp at g;omega
  subst this;refine pP (j:=0) (Sl.ext f b) (by decide) (by simp) λp e=>DD e ?_;refine gA (lJ (rB.ext k b) o q) λs u=>TA (cA rfl ?_);have c:=b.trans u;refine pP (j:=0) (Sl.ext f c) (by decide) (by simp) λp e=>DD e (VB (rB.ext k c) ?_);refine qA (by simp;omega) ?_;refine WB (λz l=>z=[.bool r.plain]/\bA s l) (λJ m=>?_) ?_
  ·refine iA rfl (pP (j:=0) (Sl.ext f c) (by decide) (by simp) λp e=>DD e ?_);exact gA (nK (rB.ext k c)) λD y=>m _ _ ⟨rfl,y⟩
  rintro _ t ⟨rfl,x⟩;intro _;refine qA (by decide) ?_;have:=n 1 t ⟨Nat.le_refl _,c.trans x⟩ (by decide);simpa[gx]using this
 ·have:a=1:=by simp at g;omega
  subst this;refine TA (kB (λd=>?_) (λd=>?_))
  ·have d:r.plain=false:=by simpa using d
   rw[d];exact⟨rfl,b⟩
  ·have d:r.plain=true:=by simpa using d
   rw[d,if_pos rfl];refine jB (dA (λh=>?_) (λh=>?_))
   ·have h:20<r.size:=by simp at h;omega
    rw[if_pos h];exact⟨rfl,b⟩
   ·have h:¬20<r.size:=by simp at h;omega
    rw[if_neg h];exact⟨rfl,b⟩
theorem uW{r:Fm}(d:oC w v r)(l:r.good)(m:r.size<=40):CB prog 202 #[v] w (if r.plain then(if 20<r.size then .tuple #[.bool false,iv 3]else .tuple #[.bool (vF [] r),iv 0])else .tuple #[.bool false,iv 5]):=by
 apply GX;unfold bM;refine fF rfl (rB.cellZ d) λg p _ e j=>?_;have o:Sl p (.slice (some ⟨g,0,none⟩) 1 1) [v]:=Sl.ofBlk (n:=1) j rfl (by decide);refine gA (zW o (rB.ext d e) l m) λy q=>?_;have b:=e.trans q;by_cases a:r.plain=true
 rotate_left
 ·rw[if_neg a,if_neg a];exact ZF (iA (by decide) ⟨rfl,b⟩)
 rw[if_pos a,if_pos a];by_cases c:20<r.size
 ·rw[if_pos c,if_pos c];exact ZF (iA (by decide) ⟨rfl,b⟩)
 rw[if_neg c,if_neg c];refine ZF (cA (by decide) (PH λx z u f i=>?_));have h:Hi [] r:=⟨λt k=>by simp at k,a,by have:=Kk a (show r.size<=20 by omega);show 0+_<=_;omega⟩
 exact gA (C3 _ (Nat.lt_succ_self _) h ⟨[],i.sl,eF.nil _⟩ (rB.ext d (b.trans f))) λA s=>⟨rfl,(b.trans f).trans s⟩
theorem Bt(f:Fr)(a b:Nat):zt f a b<2^f.n:=HW λ_ c=>List.mem_range.1 (List.mem_filter.1 c).1
def Fm.pl:Fm->Prop
 | .var v=>v<6
 | .fls=>True
 | .and a b=>Fm.pl a/\Fm.pl b
 | .or a b=>Fm.pl a/\Fm.pl b
 | .imp a b=>Fm.pl a/\Fm.pl b
 | .box _=>False
 | .dia _=>False
theorem Tt{r:Fm}(h:Fm.pl r):∀g∈r.kids,Fm.pl g:=by
 intro g c;cases r with
 |var v=>cases c
 |fls=>cases c
 |and a b=>simp only[Fm.kids,List.mem_cons,List.not_mem_nil,or_false]at c;rcases c with rfl|rfl<;>first|exact h.1|exact h.2
 |or a b=>simp only[Fm.kids,List.mem_cons,List.not_mem_nil,or_false]at c;rcases c with rfl|rfl<;>first|exact h.1|exact h.2
 |imp a b=>simp only[Fm.kids,List.mem_cons,List.not_mem_nil,or_false]at c;rcases c with rfl|rfl<;>first|exact h.1|exact h.2
 |box a=>exact h.elim
 |dia a=>exact h.elim
def wd:List Fm->Nat->List Fm
 |fs,0=>fs
 |[],_+1=>[]
 |f::fs,n+1=>wd (f.kids++fs) n
theorem xk:∀(n:Nat) (a:List Fm),wd a (n+1)=match wd a n with|f::r=>f.kids++r|[]=>[]
 |0,[]=>rfl
 |0,f::a=>by simp[wd]
 |n+1,[]=>rfl
 |n+1,f::a=>xk n (f.kids++a)
theorem N3:∀(n:Nat) (a:List Fm),wB (wd a n)=wB a-n
 |0,a=>by simp[wd]
 |n+1,[]=>by simp[wd,wB]
 |n+1,f::a=>by
  show wB (wd (f.kids++a) n)=_;have b:=f.size_kids;rw[N3 n,rK,show wB (f::a)=f.size+wB a by simp[wB]];omega
theorem ng:∀(n:Nat) (a:List Fm),(nB a).drop (n*2)=nB (wd a n)
 |0,a=>by simp[wd]
 |n+1,[]=>by simp[wd,nB]
 |n+1,f::a=>by
  show _=nB (wd (f.kids++a) n);rw[<-ng n,uR,show nB (f::a)=f.cells++nB a by simp[nB],f.cells_kids,List.append_assoc,show(n+1)*2=n*2+2 by omega,<-List.drop_drop];rw[show(nd f.kind f.sym++(nB f.kids++nB a)).drop (n*2)=(nd f.kind f.sym++(nB f.kids++nB a)).drop (n*2)from rfl,List.drop_drop,show n*2+2=2+n*2 by omega,<-List.drop_drop];rfl
theorem Dn{Q:Fm->Prop}(hQ:∀f,Q f-> ∀g∈f.kids,Q g):∀(n:Nat) (a:List Fm),(∀f∈a,Q f)-> ∀f∈wd a n,Q f
 |0,a,h=>by simpa[wd]using h
 |n+1,[],h=>by simp[wd]
 |n+1,f::a,h=>by
  show∀g∈wd (f.kids++a) n,Q g;refine Dn hQ n _ λg b=>?_;rcases List.mem_append.1 b with b|b
  ·exact hQ f (h f List.mem_cons_self) g b
  ·exact h g (List.mem_cons_of_mem _ b)
def ku(f:Fr)(V:Nat->Nat)(a:Fm)(n:Nat):List Nat:=((wd [a] n).map (zM f V)).reverse
theorem pM{V:Nat->Nat}(a:∀v,V v<2^A.n):∀c,zM A V c<2^A.n
 | .var v=>a v
 | .fls=>Nat.two_pow_pos _
 | .and _ b=>Nat.and_lt_two_pow _ (pM a b)
 | .or c b=>Nat.or_lt_two_pow (pM a c) (pM a b)
 | .imp _ _=>Bt _ _ _
 | .box _=>Nat.two_pow_pos _
 | .dia _=>Nat.two_pow_pos _
theorem nI(a:GA u w n [v])(b:Ow x KA w v (y++[U]))(m:KA≠u):
  nA prog 688 #[.pointer (some ⟨n,0,none⟩)] w λr d=>r=U/\ ∃c,GA u d n [c]/\Ow x KA d c y/\Ch (λf=>f=n) w d:=by
 have k:=b.sl.len;rw[List.length_append,List.length_singleton]at k;apply IT;unfold BJ;refine mA a (v:=v) rfl (mA a (v:=v) rfl ?_);refine XC b.sl ?_;rw[List.length_append,List.length_singleton];refine HB (by omega) ?_;rw[show((y.length+1:Nat):Int)-1=(y.length:Int)by omega];refine pP (j:=(y.length:Int)) b.sl (by omega) (by simp;omega) λp o=>?_;refine DD (v:=U) (by rw[o];simp) ?_;refine mA a (v:=v) rfl (mA a (v:=v) rfl ?_);refine XC b.sl ?_;rw[List.length_append,List.length_singleton];refine HB (by omega) ?_;rw[show((y.length+1:Nat):Int)-1=(y.length:Int)by omega];refine qt b λc h e=>?_;have l:c.ownBlock≠some n:=by rw[h];exact b.ne_blk a m
 refine QH a (i:=0) (by simp) e.cell λg=>?_;exact⟨rfl,c,g,e.other l _,(PI.setCell w n 0 c).ch rfl⟩
theorem Sc{f:Fr}(hf:f.ok){vv vn:Value}(hs:jL w U f.a)(hv:jL w vv m)(h6:m.length=6)(al:∀x∈m,x<2^f.n){r:Fm}(ha:oC w vn r)(aq:Fm.pl r)(bk:r.size<=1000000):
  CB prog 590 #[.agg #[iv (f.n:Int),U],vv,vn] w (iv ((zM f (λv=>m.getD v 0) r:Nat):Int)):=by
 obtain⟨V,ac⟩:∃V:Nat->Nat,V=λv=>m.getD v 0:=⟨_,rfl⟩
 rw[<-ac];have hV:∀v,V v<2^f.n:=λv=>by
  rw[ac];show m.getD v 0<_;rcases Nat.lt_or_ge v m.length with o|o
  ·exact j2 al o
  ·rw[List.getD_eq_getElem?_getD,List.getElem?_eq_none o];exact Nat.two_pow_pos _
 have T:∀g,zM f V g<2^63:=λg=>Nat.lt_of_lt_of_le (pM hV g) (Nat.pow_le_pow_right (by omega) (by have:=hf.1;omega));apply nX;unfold JL;refine xC λI w1 be x1 e=>?_;have e:GA _ w1 I [iv (f.n:Int),U]:=e;refine xC λa w2 bg x2 h=>?_;have h:GA _ w2 a [.slice none 0 0]:=h;have hx:=x1.trans x2;refine VB (ha.ext hx) ?_;refine HB (by omega) ?_;have bh:w.heap.size<=w2.heap.size:=hx.size;have af:wB [r]=r.size:=by simp[wB]
 refine MB (λs:Nat=>[iv ((s:Int)-1)]) (λs E=>s<=r.size/\bA w E/\GA 211 E I [iv (f.n:Int),U]/\ ∃v,GA 42 E a [v]/\Ow w.heap.size KA E v (JA (MA (ku f V r s)))) (λs=>s) r.size rfl ⟨Nat.le_refl _,hx,e.ext x2,_,h,?_⟩ ?_
 ·have:ku f V r r.size=[]:=by
   have D:=N3 r.size [r];rw[af,Nat.sub_self]at D;have h2:=TQ (wd [r] r.size);have:wd [r] r.size=[]:=List.length_eq_zero_iff.1 (by omega);unfold ku;rw[this];rfl
  rw[this];exact Ow.nil _ _ _
 rintro s u Kn ⟨hn,F,e,v,h,k⟩ aj;intro _;simp only[gx];have bj:=hs.ext F;have aw:=hv.ext F;have ah:=ha.ext F;have X:∀{E},Ch (λc=>c=a) u E->bA w E:=λhc=>F.thenCh hc λc o=>by subst o;have:=x1.size;omega
 refine LF (dA (λo=>?_) (λo=>?_))
 ·obtain⟨d,rfl⟩:∃d,s=d+1:=⟨s-1,by omega⟩
  have hm:d<r.size:=by omega
  rw[show((d+1:Nat):Int)-1=(d:Int)by omega];obtain⟨g,l,N⟩:∃g l,wd [r] d=g::l:=by
   have D:=N3 d [r];rw[af]at D;cases hc:wd [r] d with
   |nil=>rw[hc]at D;simp[wB]at D;omega
   |cons g l=>exact⟨g,l,rfl⟩
  have ae:Fm.pl g:=Dn (Q:=Fm.pl) (λ_ o=>Tt o) d [r] (by simpa using aq) g (by rw[N];simp);have ak:r.cells.drop (d*2)=nB (g::l)++[]:=by
   rw[List.append_nil,<-N,<-ng];simp[nB]
  obtain⟨hk,av,-⟩:=Eh ak;have ap:wd [r] (d+1)=g.kids++l:=by rw[xk,N]
  have ar:ku f V r (d+1)=(l.map (zM f V)).reverse++(g.kids.map (zM f V)).reverse:=by
   unfold ku;rw[ap,List.map_append,List.reverse_append]
  have au:ku f V r d=(l.map (zM f V)).reverse++[zM f V g]:=by
   unfold ku;rw[N,List.map_cons,List.reverse_cons]
  rw[ar]at k
  --the way on:the stack without the parts,and the value
  have L:∀n z,bA w n->GA 211 n I [iv (f.n:Int),U]->GA 42 n a [z]->Ow w.heap.size KA n z (JA (MA ((l.map (zM f V)).reverse)))->
    kA n (.pointer (some ⟨a,0,none⟩)) λay=>xB KA (Value.cells (iv 0)) 1 1 [(0,(iv ((zM f V g:Nat):Int)))] n λaz bb=>nD prog (Builtin.append_ #[42,42] 42 #[ay,az]) bb λba bc=>
    KC bc (.pointer (some ⟨a,0,none⟩)) ba λbd=>KB .i64 (iv d) (iv 1) λax=>Kn [ax] bd:=by
   intro n z G W p A;refine mA p (v:=z) rfl ?_;have bi:l.length<=r.size:=by
    have D:=N3 d [r];rw[af,N]at D;have h2:=TQ (g::l);rw[List.length_cons]at h2;omega
   refine nT TH RH rfl A rfl (by simp[JA,MA];omega) (by simp[JA,MA];omega) (by have:=G.size;omega) λY R P ad=>?_;have an:=A.ne_blk p (show KA≠42 by decide);have M:GA 42 R a [z]:=by
    unfold GA at p⊢;rw[ad.block a (OE p) λC=>an C.symm];exact p
   have am:=A.ne_blk W (show KA≠211 by decide);have ag:GA 211 R I [iv (f.n:Int),U]:=by
    unfold GA at W⊢;rw[ad.block I (OE W) λC=>am C.symm];exact W
   have x7:bA w R:=G.grown ad λy b=>(A.blk y b).1;refine QH M (i:=0) (by simp) P.cell λai=>?_;have ao:=P.ne_blk M (show KA≠42 by decide);refine HB (by omega) ?_;refine aj d _ ⟨by omega,?_,ag.other (ag.ne_blk M (by decide)) _,Y,ai,?_⟩ (by omega)
   ·exact kh x7 (by have:=x1.size;show w.heap.size<=a;omega) _
   ·have:=P.other (i:=0) ao Y;rw[au];simpa[JA,MA]using this
  refine eB (f:=0) ah rfl hm (by decide) hk ?_;cases g with
  |var aa=>
   refine BA (iA (by first|rfl|decide) ?_);refine eB (f:=1) ah rfl hm (by decide) av ?_;have hz:aa<6:=ae;refine tE (j:=aa) aw (by omega) λt hp=>DD hp ?_;intro _;simp only[gx];have C:zM f V (.var aa)=m.getD aa 0:=by simp only[zM,ac]
   have:=L u v F e h (by simpa[Fm.kids]using k);rw[C]at this;exact this
  |fls=>
   refine BA (cA (by first|rfl|decide) ?_);refine BA (cA (by first|rfl|decide) ?_);refine BA (cA (by first|rfl|decide) ?_);refine BA (cA (by first|rfl|decide) ?_);intro _;intro _;intro _;intro _;simp only[gx];exact L u v F e h (by simpa[Fm.kids]using k)
  |and t q=>
   refine BA (cA (by first|rfl|decide) ?_);refine BA (iA (by first|rfl|decide) ?_);have k:Ow w.heap.size KA u v (JA (MA ((l.map (zM f V)).reverse))++[iv ((zM f V q:Nat):Int)]++[iv ((zM f V t:Nat):Int)]):=by simpa[Fm.kids,JA,MA]using k
   refine lQ rfl ((nI h k (by decide)).mono ?_);rintro u1 w5 ⟨rfl,v5,H,O,B⟩;refine lQ rfl ((nI H O (by decide)).mono ?_);rintro u2 n ⟨rfl,z,p,A,c6⟩;refine yc (T _) (T _) ?_;intro _;intro _;simp only[gx];have J:Ch (λc=>c=a) u n:=B.trans c6 λy b=>.inl b;exact L n z (X J) (e.ch J (e.ne_blk h (by decide))) p A
  |or t q=>
   refine BA (cA (by first|rfl|decide) ?_);refine BA (cA (by first|rfl|decide) ?_);refine BA (iA (by first|rfl|decide) ?_);have k:Ow w.heap.size KA u v (JA (MA ((l.map (zM f V)).reverse))++[iv ((zM f V q:Nat):Int)]++[iv ((zM f V t:Nat):Int)]):=by simpa[Fm.kids,JA,MA]using k
   refine lQ rfl ((nI h k (by decide)).mono ?_);rintro u1 w5 ⟨rfl,v5,H,O,B⟩;refine lQ rfl ((nI H O (by decide)).mono ?_);rintro u2 n ⟨rfl,z,p,A,c6⟩;refine SV (T _) (T _) ?_;intro _;intro _;intro _;simp only[gx];have J:Ch (λc=>c=a) u n:=B.trans c6 λy b=>.inl b;exact L n z (X J) (e.ch J (e.ne_blk h (by decide))) p A
  |imp t q=>
   refine BA (cA (by first|rfl|decide) ?_);refine BA (cA (by first|rfl|decide) ?_);refine BA (cA (by first|rfl|decide) ?_);refine BA (iA (by first|rfl|decide) ?_);have k:Ow w.heap.size KA u v (JA (MA ((l.map (zM f V)).reverse))++[iv ((zM f V q:Nat):Int)]++[iv ((zM f V t:Nat):Int)]):=by simpa[Fm.kids,JA,MA]using k
   refine lQ rfl ((nI h k (by decide)).mono ?_);rintro u1 w5 ⟨rfl,v5,H,O,B⟩;have ab:=e.ch B (e.ne_blk h (by decide));refine⟨λc=>c=a,DB ab rfl ⟨λR K=>DB (ab.ch K (ab.ne_blk H (by decide))) rfl rfl,λn G=>?_⟩⟩;have p:=H.ext G;refine lQ rfl ((nI p (O.ext G) (by decide)).mono ?_);rintro u2 R ⟨rfl,Y,M,P,K⟩;refine⟨K,_,λZ c8=>aA ((Se hf ?_ _ _ (pM hV t) (pM hV q)).mono λ_ _ o=>o),?_⟩
   ·have S:Ch (λc=>c=a) u Z:=((B.trans G.ch (S':=λc=>c=a) λy b=>.inl b).trans K λy b=>.inl b).trans c8 λy b=>.inl b;exact hs.ext (X S)
   ·intro Z x8;have S:Ch (λc=>c=a) u Z:=((B.trans G.ch (S':=λc=>c=a) λy b=>.inl b).trans K λy b=>.inl b).trans x8.ch (S':=λc=>c=a) λy b=>.inl b;intro _;intro _;intro _;intro _;simp only[gx];exact L Z Y (X S) (e.ch S (e.ne_blk h (by decide))) (M.ext x8) (P.ext x8)
  |box t=>exact ae.elim
  |dia t=>exact ae.elim
 ·have h0:s=0:=by omega
  subst h0;have C:ku f V r 0=[zM f V r]:=by simp[ku,wd]
  rw[C]at k;refine mA h (v:=v) rfl ?_;refine pP (j:=0) k.sl (by omega) (by simp[JA,MA]) λt hp=>?_;refine DD (v:=iv ((zM f V r:Nat):Int)) (by rw[hp];simp[JA,MA]) ⟨rfl,F⟩
theorem NR:∀{a:Fm},Fm.pl a->a.good
 | .var _,h=>h
 | .fls,_=>trivial
 | .and _ _,h=>⟨NR h.1,NR h.2⟩
 | .or _ _,h=>⟨NR h.1,NR h.2⟩
 | .imp _ _,h=>⟨NR h.1,NR h.2⟩
 | .box _,h=>h.elim
 | .dia _,h=>h.elim
theorem CW(q:RN)(N:List RN):MD (q::N)=(!C5 q&&MD N):=by simp[MD]
theorem o0(M N:List RN):MD (M++N)=(MD M&&MD N):=by simp[MD]
theorem AW:∀{a:Fm},Fm.pl a↔a.good/\MD (cB a)=true
 | .var v=>by simp[Fm.pl,Fm.good,cB,MD,C5]
 | .fls=>by simp[Fm.pl,Fm.good,cB,MD,C5]
 | .and a b=>by
  have c:=AW (a:=a);have d:=AW (a:=b);simp only[Fm.pl,Fm.good,cB,CW,o0,c,d,Bool.and_eq_true];exact⟨λh=>⟨⟨h.1.1,h.2.1⟩,rfl,h.1.2,h.2.2⟩,λh=>⟨⟨h.1.1,h.2.2.1⟩,h.1.2,h.2.2.2⟩⟩
 | .or a b=>by
  have c:=AW (a:=a);have d:=AW (a:=b);simp only[Fm.pl,Fm.good,cB,CW,o0,c,d,Bool.and_eq_true];exact⟨λh=>⟨⟨h.1.1,h.2.1⟩,rfl,h.1.2,h.2.2⟩,λh=>⟨⟨h.1.1,h.2.2.1⟩,h.1.2,h.2.2.2⟩⟩
 | .imp a b=>by
  have c:=AW (a:=a);have d:=AW (a:=b);simp only[Fm.pl,Fm.good,cB,CW,o0,c,d,Bool.and_eq_true];exact⟨λh=>⟨⟨h.1.1,h.2.1⟩,rfl,h.1.2,h.2.2⟩,λh=>⟨⟨h.1.1,h.2.2.1⟩,h.1.2,h.2.2.2⟩⟩
 | .box a=>by simp[Fm.pl,cB,MD,C5]
 | .dia a=>by simp[Fm.pl,cB,MD,C5]
abbrev vV(a:List Nat):Nat->Nat:=λv=>a.getD v 0
theorem Vu(b:Po A)(h:∀x∈m,x∈RA A):xu A (vV m):=λv=>by
 show m.getD v 0∈_;rcases Nat.lt_or_ge v m.length with a|a
 ·exact h _ (Cq a)
 ·rw[List.getD_eq_getElem?_getD,List.getElem?_eq_none a];exact UR b
theorem lK{r:Fm}{gs:List Fm}(c:oC w v r)(a:r.kids=P::gs)(g:r.size<=1099511627776):nA prog 222 #[v] w λu f=>bA w f/\oC f u P:=by
 apply GV;unfold cN;have d:=r.size_kids;rw[a]at d;simp only[wB,List.map_cons,List.sum_cons]at d;refine gA (pG (i:=1) c (TI a) g) λh b=>?_;refine Jv (i:=1) (j:=1+P.size) (c.ext b) (by omega) (by omega) λu e=>⟨b,?_⟩
 rw[TI a,Nat.add_sub_cancel_left,<-P.cells_len,List.take_left]at e;exact e
theorem nJ{r h:Fm}(c:oC w v r)(b:r.kids=[P,h])(g:r.size<=1099511627776):nA prog 223 #[v] w λu e=>bA w e/\oC e u h:=by
 apply eT;unfold mL;obtain⟨f,j⟩:=Yb b;refine gA (pG (i:=1) c (TI b) g) λk a=>?_;refine sN (i:=1+P.size) (c.ext a) (by omega) λu d=>⟨a,?_⟩
 rw[f,List.append_nil,j,Nat.add_sub_cancel_left]at d;exact d
theorem p6{f:Fr}(L:f.ok)(W:m.length=6)(U:∀x∈m,x<2^f.n):∀(v:Fm) {i n l:Value} {w:World},jL w i f.a->jL w n m->oC w l v->Fm.pl v->v.size<=1000000->
  CB prog 641 #[.agg #[iv (f.n:Int),i],n,l] w (iv ((zM f (vV m) v:Nat):Int)):=by
 have K:∀H,vV m H<2^f.n:=λH=>by
  show m.getD H 0<_;rcases Nat.lt_or_ge H m.length with J|J
  ·exact j2 U J
  ·rw[List.getD_eq_getElem?_getD,List.getElem?_eq_none J];exact Nat.two_pow_pos _
 have F:∀I,zM f (vV m) I<2^63:=λI=>Nat.lt_of_lt_of_le (pM K I) (Nat.pow_le_pow_right (by omega) (by have:=L.1;omega));intro v
 induction v with
 |var T=>
  intro i n l w e g a d _;have X:T<6:=d;apply mG;unfold IE;refine xC λt u G b c=>?_;refine eB (f:=0) (a.ext b) rfl (by simp[Fm.size]) (by decide) (rA a).1 ?_;refine BA (iA (by first|rfl|decide) ?_);refine eB (f:=1) (a.ext b) rfl (by simp[Fm.size]) (by decide) (rA a).2 ?_;refine tE (j:=T) (g.ext b) (by omega) λy V=>DD V ⟨rfl,b⟩
 |fls=>
  intro i n l w e g a d _;apply mG;unfold IE;refine xC λt u G b c=>?_;refine eB (f:=0) (a.ext b) rfl (by simp[Fm.size]) (by decide) (rA a).1 ?_;refine BA (cA (by first|rfl|decide) ?_);exact BA (iA (by first|rfl|decide) ⟨rfl,b⟩)
 |and y q ihp ihq=>
  intro i n l w e g a d A;simp only[Fm.size]at A;apply mG;unfold IE;refine xC λt u G b c=>?_;have c:GA _ u t [iv (f.n:Int),i]:=c;refine eB (f:=0) (a.ext b) rfl (by simp[Fm.size];omega) (by decide) (rA a).1 ?_;refine BA (cA (by first|rfl|decide) ?_);refine BA (cA (by first|rfl|decide) ?_);refine BA (iA (by first|rfl|decide) ?_);refine DB c rfl (DB c rfl ?_);intro O p;refine aA ((lK (gs:=[q]) ((a.ext b).ext p) rfl (by simp only[Fm.size];omega)).mono ?_);rintro M P ⟨r,B⟩;have k:=(b.trans p).trans r;refine⟨r,?_⟩;refine eC (λz x=>ihp ((e.ext k).ext x) ((g.ext k).ext x) (B.ext x) d.1 (by omega)) ?_;intro Q D;have o:=k.trans D;refine aA ((nJ (a.ext o) rfl (by simp only[Fm.size];omega)).mono ?_);rintro N R ⟨s,C⟩;refine⟨s,?_⟩;have h:=o.trans s;refine eC (λz x=>ihq ((e.ext h).ext x) ((g.ext h).ext x) (C.ext x) d.2 (by omega)) ?_;refine yc (F _) (F _) ?_;exactλS E=>⟨rfl,h.trans E⟩
 |or y q ihp ihq=>
  intro i n l w e g a d A;simp only[Fm.size]at A;apply mG;unfold IE;refine xC λt u G b c=>?_;have c:GA _ u t [iv (f.n:Int),i]:=c;refine eB (f:=0) (a.ext b) rfl (by simp[Fm.size];omega) (by decide) (rA a).1 ?_;refine BA (cA (by first|rfl|decide) ?_);refine BA (cA (by first|rfl|decide) ?_);refine BA (cA (by first|rfl|decide) ?_);refine BA (iA (by first|rfl|decide) ?_);refine DB c rfl (DB c rfl ?_);intro O p;refine aA ((lK (gs:=[q]) ((a.ext b).ext p) rfl (by simp only[Fm.size];omega)).mono ?_);rintro M P ⟨r,B⟩;have k:=(b.trans p).trans r;refine⟨r,?_⟩;refine eC (λz x=>ihp ((e.ext k).ext x) ((g.ext k).ext x) (B.ext x) d.1 (by omega)) ?_;intro Q D;have o:=k.trans D;refine aA ((nJ (a.ext o) rfl (by simp only[Fm.size];omega)).mono ?_);rintro N R ⟨s,C⟩;refine⟨s,?_⟩;have h:=o.trans s;refine eC (λz x=>ihq ((e.ext h).ext x) ((g.ext h).ext x) (C.ext x) d.2 (by omega)) ?_;refine SV (F _) (F _) ?_;exactλS E=>⟨rfl,h.trans E⟩
 |imp y q ihp ihq=>
  intro i n l w e g a d A;simp only[Fm.size]at A;apply mG;unfold IE;refine xC λt u G b c=>?_;have c:GA _ u t [iv (f.n:Int),i]:=c;refine eB (f:=0) (a.ext b) rfl (by simp[Fm.size];omega) (by decide) (rA a).1 ?_;refine BA (cA (by first|rfl|decide) ?_);refine BA (cA (by first|rfl|decide) ?_);refine BA (cA (by first|rfl|decide) ?_);refine BA (cA (by first|rfl|decide) ?_);refine DB c rfl (DB c rfl (DB c rfl ?_));intro O p;refine aA ((lK (gs:=[q]) ((a.ext b).ext p) rfl (by simp only[Fm.size];omega)).mono ?_);rintro M P ⟨r,B⟩;have k:=(b.trans p).trans r;refine⟨r,?_⟩;refine eC (λz x=>ihp ((e.ext k).ext x) ((g.ext k).ext x) (B.ext x) d.1 (by omega)) ?_;intro Q D;have o:=k.trans D;refine aA ((nJ (a.ext o) rfl (by simp only[Fm.size];omega)).mono ?_);rintro N R ⟨s,C⟩;refine⟨s,?_⟩;have h:=o.trans s;refine eC (λz x=>ihq ((e.ext h).ext x) ((g.ext h).ext x) (C.ext x) d.2 (by omega)) ?_;refine eC (λz x=>o6 L ((e.ext h).ext x) _ _ (pM K y) (pM K q)) ?_;exactλS E=>⟨rfl,h.trans E⟩
 |box y _=>intro i n l w e g a d _;exact d.elim
 |dia y _=>intro i n l w e g a d _;exact d.elim
theorem UI:∀{a:Fm},Fm.has n a->(0,(n:Int))∈cB a
 | .var x,h=>by
  have h:x=n:=h;subst h;exact List.mem_cons_self
 | .fls,h=>h.elim
 | .and a b,h=>List.mem_cons_of_mem _ (List.mem_append.2 (h.imp UI UI))
 | .or a b,h=>List.mem_cons_of_mem _ (List.mem_append.2 (h.imp UI UI))
 | .imp a b,h=>List.mem_cons_of_mem _ (List.mem_append.2 (h.imp UI UI))
 | .box a,h=>List.mem_cons_of_mem _ (UI (a:=a) h)
 | .dia a,h=>List.mem_cons_of_mem _ (UI (a:=a) h)
theorem xc{r:Fm}(h:Fm.has x r):(pD (cB r)).testBit x=true:=(Qf r x).2 (UI h)
theorem RE(r:SO w v T)(q:T.all cP=true):nA prog 336 #[v] w λs d=>bA w d/\Ow w.heap.size KA d s (JA (MA (EE (pD T)))):=by
 have H:=r.len;apply JX;unfold eM;have o:∀k,(T.take k).all cP=true:=λk=>List.all_eq_true.2 λD B=>List.all_eq_true.1 q D (List.mem_of_mem_take B);have A:∀k (g:k<T.length),pD (T.take (k+1))=if T[k].1=0 then pD (T.take k)|||2^T[k].2.toNat else pD (T.take k):=λk g=>by
  unfold pD;rw[List.take_succ_eq_append_getElem g,List.filter_append,List.map_append];by_cases h:T[k].1=0
  ·rw[if_pos h,List.filter_cons_of_pos (by simpa using h)];exact HN _ _
  ·rw[if_neg h,List.filter_cons_of_neg (by simpa using h)];simp
 refine MB (λk:Nat=>[iv ((pD (T.take k):Nat):Int),iv k]) (λk d=>k<=T.length/\bA w d) (λk=>T.length-k) 0 rfl ⟨Nat.zero_le _,bA.refl _⟩ ?_;rintro k u E ⟨g,b⟩ n;have i:=rB.ext r b;intro _;simp only[gx];refine VB i ?_;refine jB (dA (λh=>?_) (λh=>?_))
 ·have a:k<T.length:=by omega
  have p:=tG a;have y:=bX.1 (List.all_eq_true.1 q _ (List.getElem_mem a));have l:=YI (o k);have c:=A k a;refine eB (f:=0) i rfl a (by decide) p.1 ?_;refine BA (dA (λe=>?_) (λe=>?_))
  ·refine eB (f:=1) i rfl a (by decide) p.2 ?_;rw[if_pos e]at c;generalize G:T[k].2=t at*;have z:0<=t/\t<=5:=y.2.1;obtain⟨m,rfl⟩:=Int.eq_ofNat_of_zero_le z.1;refine gA (SG m (by omega) u) λC j=>?_;have F:2^m<2^6:=Nat.pow_lt_pow_right (by omega) (by omega);refine SV (by omega) (by omega) ?_;refine qA (by omega) ?_;rw[show pD (T.take k)|||2^m=pD (T.take (k+1))by rw[c];rfl];exact n (k+1) _ ⟨by omega,b.trans j⟩ (by omega)
  ·rw[if_neg e]at c;refine qA (by omega) ?_;rw[<-c];exact n (k+1) _ ⟨by omega,b⟩ (by omega)
 ·have l:=YI (o k);rw[List.take_of_length_le (by omega)]at l⊢;refine aA ((F9 _ (by omega) u).mono ?_);rintro s C ⟨j,x⟩;exact⟨b.trans j,x.mono b.size⟩
theorem RR(a:x<2^n):bD (2^n-1) x=2^n-1-x:=by
 refine Nat.eq_of_testBit_eq λi=>?_;unfold bD;rw[Nat.testBit_xor,Nat.testBit_and,Nat.testBit_two_pow_sub_one,show 2^n-1-x=2^n-(x+1)by omega,Nat.testBit_two_pow_sub_succ a];cases decide (i<n)<;>cases x.testBit i<;>rfl
theorem vQ{m:Nat}(j:m<2^61)(w:World):CB prog 314 #[iv m] w (iv ((A4 m 61:Nat):Int)):=by
 apply M7;unfold ZR;refine MB (λn:Nat=>[iv ((A4 m n:Nat):Int),iv n]) (λn g=>n<=61/\g=w) (λn=>61-n) 0 rfl ⟨Nat.zero_le _,rfl⟩ ?_;rintro n c h ⟨k,rfl⟩ a;intro _;simp only[gx];refine jB (dA (λf=>?_) (λf=>?_))
 ·have b:n<61:=by omega
  have l:(2:Nat)^n<=2^60:=Nat.pow_le_pow_right (by decide) (by omega);have o:0<(2:Nat)^n:=Nat.pow_pos (by decide);have i:=R9 m (n:=n);refine HH (by omega) (HB (by omega) ?_);rw[show((2^n:Nat):Int)-1=((2^n-1:Nat):Int)by omega];refine yc (by omega) (by omega) (BA (dA (λd=>?_) (λd=>?_)))
  ·have d:m&&& (2^n-1)=2^n-1:=by omega
   refine HH (by omega) (SV (by omega) (by omega) (qA (by omega) ?_));have:=a (n+1) c ⟨b,rfl⟩ (by omega)
   rwa [A4,if_pos d]at this
  ·have d:¬m&&& (2^n-1)=2^n-1:=λe=>d (by rw[e]);refine qA (by omega) ?_;have:=a (n+1) c ⟨b,rfl⟩ (by omega)
   rwa [A4,if_neg d]at this
 ·obtain rfl:n=61:=by omega
  exact⟨by first|trivial|rfl,bA.refl _⟩
theorem B9:∀(f:Fm) {v:Value} {w:World},oC w v f->(∀x,¬Fm.has x f)->f.size<=1000->nA prog 185 #[v,iv 0] w λG H=>bA w H/\ ∃m:Nat,G=iv m/\Tk f m:=by
 intro f
 induction f with
 |var x=>intro v w c d _;exact(d x rfl).elim
 |fls=>
  intro v w c d e;apply rF;unfold nE;refine eB (f:=0) (j:=0) c rfl (by decide) (by decide) (rA c).1 ?_;exact BA (cA rfl (BA (iA rfl ⟨bA.refl _,0,rfl,Zt⟩)))
 |box a ih=>
  intro v w c d e;have e:1+a.size<=1000:=e;apply rF;unfold nE;refine eB (f:=0) (j:=0) c rfl (show 0<1+a.size by omega) (by decide) (rA c).1 ?_;refine BA (cA rfl (BA (cA rfl (BA (iA rfl ?_)))));refine aA ((OA (g:=a) (gs:=[]) c rfl (show 1+a.size<=_ by omega)).mono ?_);rintro y z ⟨k,o⟩;refine aA ((ih o d (by omega)).mono ?_);rintro _ r ⟨l,m,rfl,i⟩;exact gA (vQ i.1 r) λA p=>⟨(k.trans l).trans p,_,rfl,Xt i⟩
 |dia a ih=>
  intro v w c d e;have e:1+a.size<=1000:=e;apply rF;unfold nE;refine eB (f:=0) (j:=0) c rfl (show 0<1+a.size by omega) (by decide) (rA c).1 ?_;refine BA (cA rfl (BA (cA rfl (BA (cA rfl (BA (iA rfl ?_)))))));refine aA ((OA (g:=a) (gs:=[]) c rfl (show 1+a.size<=_ by omega)).mono ?_);rintro y z ⟨k,o⟩;refine aA ((ih o d (by omega)).mono ?_);rintro _ r ⟨l,m,rfl,i⟩;have t:=i.1;refine VI (a:=2^61-1) (b:=m) (by decide) (by omega) ?_;rw[RR t];refine gA (vQ (m:=2^61-1-m) (by omega) r) λA p=>?_;have F:=R9 (2^61-1-m) (n:=61);refine VI (a:=2^61-1) (b:=A4 (2^61-1-m) 61) (by decide) (by omega) ?_;rw[RR F];exact⟨(k.trans l).trans p,_,rfl,Yt i⟩
 |and a b iha ihb=>
  intro v w c d e;have e:1+a.size+b.size<=1000:=e;apply rF;unfold nE;refine eB (f:=0) (j:=0) c rfl (show 0<1+a.size+b.size by omega) (by decide) (rA c).1 ?_;refine BA (cA rfl (BA (cA rfl (BA (cA rfl (BA (cA rfl ?_)))))));refine aA ((OA (g:=a) (gs:=[b]) c rfl (show 1+a.size+b.size<=_ by omega)).mono ?_);rintro y z ⟨k,o⟩;refine aA ((iha o (λx h=>d x (.inl h)) (by omega)).mono ?_);rintro _ r ⟨l,m,rfl,i⟩;refine aA ((gB (g:=a) (h:=b) (c.ext (k.trans l)) rfl (show 1+a.size+b.size<=_ by omega)).mono ?_);rintro D A ⟨p,s⟩;refine aA ((ihb s (λx h=>d x (.inr h)) (by omega)).mono ?_);rintro _ E ⟨u,C,rfl,q⟩;have t:=i.1;have B:=q.1;have X:=((k.trans l).trans p).trans u;refine eB (f:=0) (j:=0) (c.ext X) rfl (show 0<1+a.size+b.size by omega) (by decide) (rA (c.ext X)).1 ?_;exact BA (iA rfl (yc (by omega) (by omega) ⟨X,_,rfl,Wt i q⟩))
 |or a b iha ihb=>
  intro v w c d e;have e:1+a.size+b.size<=1000:=e;apply rF;unfold nE;refine eB (f:=0) (j:=0) c rfl (show 0<1+a.size+b.size by omega) (by decide) (rA c).1 ?_;refine BA (cA rfl (BA (cA rfl (BA (cA rfl (BA (cA rfl ?_)))))));refine aA ((OA (g:=a) (gs:=[b]) c rfl (show 1+a.size+b.size<=_ by omega)).mono ?_);rintro y z ⟨k,o⟩;refine aA ((iha o (λx h=>d x (.inl h)) (by omega)).mono ?_);rintro _ r ⟨l,m,rfl,i⟩;refine aA ((gB (g:=a) (h:=b) (c.ext (k.trans l)) rfl (show 1+a.size+b.size<=_ by omega)).mono ?_);rintro D A ⟨p,s⟩;refine aA ((ihb s (λx h=>d x (.inr h)) (by omega)).mono ?_);rintro _ E ⟨u,C,rfl,q⟩;have t:=i.1;have B:=q.1;have X:=((k.trans l).trans p).trans u;refine eB (f:=0) (j:=0) (c.ext X) rfl (show 0<1+a.size+b.size by omega) (by decide) (rA (c.ext X)).1 ?_;exact BA (cA rfl (BA (iA rfl (SV (by omega) (by omega) ⟨X,_,rfl,Vv i q⟩))))
 |imp a b iha ihb=>
  intro v w c d e;have e:1+a.size+b.size<=1000:=e;apply rF;unfold nE;refine eB (f:=0) (j:=0) c rfl (show 0<1+a.size+b.size by omega) (by decide) (rA c).1 ?_;refine BA (cA rfl (BA (cA rfl (BA (cA rfl (BA (cA rfl ?_)))))));refine aA ((OA (g:=a) (gs:=[b]) c rfl (show 1+a.size+b.size<=_ by omega)).mono ?_);rintro y z ⟨k,o⟩;refine aA ((iha o (λx h=>d x (.inl h)) (by omega)).mono ?_);rintro _ r ⟨l,m,rfl,i⟩;refine aA ((gB (g:=a) (h:=b) (c.ext (k.trans l)) rfl (show 1+a.size+b.size<=_ by omega)).mono ?_);rintro D A ⟨p,s⟩;refine aA ((ihb s (λx h=>d x (.inr h)) (by omega)).mono ?_);rintro _ E ⟨u,C,rfl,q⟩;have t:=i.1;have B:=q.1;have X:=((k.trans l).trans p).trans u;refine eB (f:=0) (j:=0) (c.ext X) rfl (show 0<1+a.size+b.size by omega) (by decide) (rA (c.ext X)).1 ?_;refine BA (cA rfl (BA (cA rfl (VI (a:=2^61-1) (by decide) (by omega) ?_))));rw[RR t];exact SV (by omega) (by omega) ⟨X,_,rfl,iu i q⟩
theorem tV(p:Nat->Bool)(n:Nat):(List.range (n+1)).all p=((List.range n).all p&&p n):=by simp[List.range_succ]
theorem uV(p:Nat->Bool)(n:Nat):(List.range (n+1)).any p=((List.range n).any p||p n):=by simp[List.range_succ]
def VR(a:Nat)(w:World)(v:Value)(f:Fm)(n:Nat):Prop:=∃A:List Bool,A.length=61/\Ow a UA w v (A.map Value.bool)/\ ∀j,j<n->gt A j=rk f j
theorem VR.ext{f:Fm}(h:VR x w v f n)(e:bA w a):VR x a v f n:=
 let⟨A,b,c,d⟩:=h
 ⟨A,b,c.ext e,d⟩
theorem VR.wr{r:Fm}(h:VR x w v r n)(m:n<61)(i:K=rk r n)(hK:∀a,VR x a v r (n+1)->Ch (λc=>v.ownBlock=some c) w a->l a):wA 1 v (iv n) λp=>KC w p (.bool K) l:=by
 obtain⟨A,b,d,g⟩:=h;refine xt d rfl (by rw[List.length_map];omega) rfl λa f c=>hK a ⟨A.set n K,by rw[List.length_set];exact b,by rw[List.map_set];exact f,λj k=>?_⟩ c;rw[p2 (by omega)];split
 ·rename_i e;rw[<-e];exact i
 ·exact g j (by omega)
theorem VR.rd{j:Nat}{r:Fm}(h:VR x w v r n)(d:j<n)(f:n<=61)(hK:z (.bool (rk r j))):wA 1 v (iv j) λp=>kA w p z:=by
 obtain⟨A,e,b,c⟩:=h;refine pP (j:=(j:Int)) b.sl (by omega) (by rw[List.length_map];omega) λp a=>?_;rw[Int.toNat_natCast,QI (by omega),c j d]at a;exact DD a hK
theorem VR.ln{r:Fm}(h:VR x w v r n)(hK:z (iv ((61:Nat):Int))):lA v z:=by
 obtain⟨A,a,b,c⟩:=h;exact XC b.sl (by rw[List.length_map,a];exact hK)
theorem VR.ch{r:Fm}{S:Nat->Prop}(h:VR x w v r n)(c:Ch S w a)(g:∀d,x<=d-> ¬S d):VR x a v r n:=
 let⟨A,e,b,f⟩:=h
 ⟨A,e,b.ch c λd i=>g d (b.blk d i).1,f⟩
theorem VR.old{r:Fm}(h:VR x w v r n):∀d,v.ownBlock=some d->x<=d/\d<w.heap.size:=
 let⟨_,_,a,_⟩:=h
 a.blk
theorem kd:∀(f:Fm) {B:Value} {w:World},oC w B f->(∀y,¬Fm.has y f)->f.size<=1000->nA prog 358 #[B] w λbb c=>bA w c/\VR w.heap.size c bb f 61:=by
 intro f;have aa:∀{f:Fm} {w:World} {an:Value->World->Prop},(∀e s,bA w s->VR w.heap.size s e f 0->(∀d,e.ownBlock=some d->d<s.heap.size)->(f= .fls->VR w.heap.size s e f 61)->an e s)->tu UA (Value.cells (.bool false)) 1 1 (iv 61) (iv 61) w an:=λ{f w an} h=>by
  refine uw (n:=61) (by decide) (by decide) rfl λb s hb q hB=>?_;have L:Ow w.heap.size UA s (.slice (some ⟨b,0,none⟩) 61 61) ((List.replicate 61 false).map Value.bool):=by
   rw[List.map_replicate];exact Ow.ofBlk hB (by omega) (by simp) (by decide)
  refine h _ s q ⟨_,by simp,L,λj hj=>absurd hj (Nat.not_lt_zero j)⟩ (λd G=>(L.blk d G).2) λaz=>⟨_,by simp,L,λj hj=>?_⟩
  subst az;rw[LA (by rw[List.length_replicate];exact hj)];exact List.getElem_replicate _
 induction f with
 |var y=>intro B w u v _;exact(v y rfl).elim
 |fls=>
  intro B w u v x;apply sG;unfold VE;refine aa (f:=.fls) λe s q K _ ba=>?_;refine eB (f:=0) (j:=0) (rB.ext u q) rfl (by decide) (by decide) (rA (rB.ext u q)).1 ?_;exact BA (iA rfl ⟨q,ba rfl⟩)
 |box a ih=>
  intro B w u v x;have x:1+a.size<=1000:=x;apply sG;unfold VE;refine aa (f:=.box a) λe s q K G _=>?_;have k:=rB.ext u q;refine eB (f:=0) (j:=0) k rfl (show 0<1+a.size by omega) (by decide) (rA k).1 ?_;refine BA (cA rfl (BA ?_));refine WB (λz c=>z=[.bool true]/\c=s) (λV t=>iA rfl (t _ _ ⟨rfl,rfl⟩)) ?_;rintro _ _ ⟨rfl,rfl⟩;intro _;simp only[gx];refine iA rfl (sN (i:=1) (ki:=.i64) k (show 1<=1+a.size by omega) λap hu=>?_);have hu:oC _ ap a:=Z1 (f:=.box a) hu rfl;refine eB (f:=0) (j:=0) k rfl (show 0<1+a.size by omega) (by decide) (rA k).1 (BA λw4 x4=>?_);refine aA ((ih (rB.ext hu x4) v (by omega)).mono ?_);rintro aq w5 ⟨x5,ao⟩;refine⟨x5,λw6 x6=>?_⟩;have X6:=(x4.trans x5).trans x6;have s4:=x4.size;refine MB (λn:Nat=>[.bool ((List.range n).all (rk a)),iv n]) (λn c=>n<=61/\bA w c/\VR w.heap.size c e (.box a) n/\VR w4.heap.size c aq a 61) (λn=>61-n) 0 rfl ⟨Nat.zero_le _,q.trans X6,K.ext X6,ao.ext x6⟩ ?_;rintro n w8 W ⟨hn,x8,M,g8⟩ F;intro _;simp only[gx];refine M.ln (jB (dA (λN=>?_) (λN=>?_)))
  ·have l:n<61:=by omega
   refine M.wr l rfl λw9 h9 c9=>?_;have X:=g8.ch c9 λd Y r=>by have:=G d r;omega
   have x9:bA w w9:=x8.thenCh c9 λd r=>(M.old d r).1;refine X.rd l (Nat.le_refl _) (AG (kB (λd=>?_) (λd=>?_)))
   ·have d:(false==(rk a n==true))=true:=d;have Z:rk a n=false:=by revert d;cases rk a n<;>decide
    refine TA (qA (by omega) ?_);have:=F (n+1) w9 ⟨l,x9,h9,X⟩ (by omega);rw[tV,Z,Bool.and_false]at this;exact this
   ·have d:(false==(rk a n==true))=false:=d;have Z:rk a n=true:=by revert d;cases rk a n<;>decide
    refine qA (by omega) ?_;have:=F (n+1) w9 ⟨l,x9,h9,X⟩ (by omega);rw[tV,Z,Bool.and_true]at this;exact this
  ·obtain rfl:n=61:=by omega
   exact⟨x8,M⟩
 |dia a ih=>
  intro B w u v x;have x:1+a.size<=1000:=x;apply sG;unfold VE;refine aa (f:=.dia a) λe s q K G _=>?_;have k:=rB.ext u q;refine eB (f:=0) (j:=0) k rfl (show 0<1+a.size by omega) (by decide) (rA k).1 ?_;refine BA (cA rfl (BA ?_));refine WB (λz c=>z=[.bool true]/\c=s) (λV t=>cA rfl (BA (t _ _ ⟨rfl,rfl⟩))) ?_;rintro _ _ ⟨rfl,rfl⟩;intro _;simp only[gx];refine iA rfl (sN (i:=1) (ki:=.i64) k (show 1<=1+a.size by omega) λap hu=>?_);have hu:oC _ ap a:=Z1 (f:=.dia a) hu rfl;refine eB (f:=0) (j:=0) k rfl (show 0<1+a.size by omega) (by decide) (rA k).1 (BA λw4 x4=>?_);refine aA ((ih (rB.ext hu x4) v (by omega)).mono ?_);rintro aq w5 ⟨x5,ao⟩;refine⟨x5,λw6 x6=>?_⟩;have X6:=(x4.trans x5).trans x6;have s4:=x4.size;refine MB (λn:Nat=>[.bool ((List.range n).any (rk a)),iv n]) (λn c=>n<=61/\bA w c/\VR w.heap.size c e (.dia a) n/\VR w4.heap.size c aq a 61) (λn=>61-n) 0 rfl ⟨Nat.zero_le _,q.trans X6,K.ext X6,ao.ext x6⟩ ?_;rintro n w8 W ⟨hn,x8,M,g8⟩ F;intro _;simp only[gx];refine M.ln (jB (dA (λN=>?_) (λN=>?_)))
  ·have l:n<61:=by omega
   refine M.wr l rfl λw9 h9 c9=>?_;have X:=g8.ch c9 λd Y r=>by have:=G d r;omega
   have x9:bA w w9:=x8.thenCh c9 λd r=>(M.old d r).1;refine X.rd l (Nat.le_refl _) (AG (kB (λd=>?_) (λd=>?_)))
   ·have d:(false==(rk a n==false))=true:=d;have Z:rk a n=true:=by revert d;cases rk a n<;>decide
    refine TA (qA (by omega) ?_);have:=F (n+1) w9 ⟨l,x9,h9,X⟩ (by omega);rw[uV,Z,Bool.or_true]at this;exact this
   ·have d:(false==(rk a n==false))=false:=d;have Z:rk a n=false:=by revert d;cases rk a n<;>decide
    refine qA (by omega) ?_;have:=F (n+1) w9 ⟨l,x9,h9,X⟩ (by omega);rw[uV,Z,Bool.or_false]at this;exact this
  ·obtain rfl:n=61:=by omega
   exact⟨x8,M⟩
 |and a b iha ihb=>
  intro B w u v x;have x:1+a.size+b.size<=1000:=x;apply sG;unfold VE;refine aa (f:=.and a b) λe s q K G _=>?_;have k:=rB.ext u q;refine eB (f:=0) (j:=0) k rfl (show 0<1+a.size+b.size by omega) (by decide) (rA k).1 ?_;refine BA (cA rfl (BA ?_));refine WB (λz c=>z=[.bool false]/\c=s) (λV t=>cA rfl (BA (t _ _ ⟨rfl,rfl⟩))) ?_;rintro _ w3 ⟨rfl,rfl⟩;intro _;simp only[gx];refine cA rfl ?_;refine aA ((DA (g:=a) (gs:=[b]) k rfl (show 1+a.size+b.size<=_ by omega)).mono ?_);rintro u1 al ⟨A,R⟩;refine aA ((iha R (λy h=>v y (.inl h)) (by omega)).mono ?_);rintro ai av ⟨H,ae⟩;refine aA ((zA (g:=a) (h:=b) (k.ext (A.trans H)) rfl (show 1+a.size+b.size<=_ by omega)).mono ?_);rintro u3 am ⟨I,h3⟩;refine aA ((ihb h3 (λy h=>v y (.inr h)) (by omega)).mono ?_);rintro aj aw ⟨U,af⟩;have C:=((A.trans H).trans I).trans U;have ar:=A.size;have au:=((A.trans H).trans I).size;refine MB (λn:Nat=>[iv n]) (λn c=>n<=61/\bA w c/\oC c B (.and a b)/\VR w.heap.size c e (.and a b) n/\VR al.heap.size c ai a 61/\VR am.heap.size c aj b 61) (λn=>61-n) 0 rfl ⟨Nat.zero_le _,q.trans C,rB.ext k C,K.ext C,ae.ext (I.trans U),af⟩ ?_;rintro n T W ⟨hn,J,Q,p,O,P⟩ F;intro _;simp only[gx];refine p.ln (jB (dA (λN=>?_) (λN=>?_)))
  rotate_left
  ·obtain rfl:n=61:=by omega
   exact⟨J,p⟩
  have l:n<61:=by omega
  refine eB (f:=0) (j:=0) Q rfl (show 0<1+a.size+b.size by omega) (by decide) (rA Q).1 ?_;refine BA (iA rfl ?_);have ad:∀m,VR w.heap.size m e (.and a b) (n+1)->Ch (λD=>e.ownBlock=some D) T m->oA .i64 (iv n) (iv 1) λak=>W [ak] m:=λm E o=>by
   have S:∀d,w3.heap.size<=d-> ¬e.ownBlock=some d:=λd R L=>by have:=G d L;omega
   refine qA (by omega) ?_;refine F (n+1) m ⟨l,J.thenCh o λd r=>(p.old d r).1,?_,E,O.ch o λd Y=>S d (by omega),P.ch o λd Y=>S d (by omega)⟩ (by omega);exact rB.ext u (J.thenCh o λd r=>(p.old d r).1)
  refine WB (λz c=>z=[]/\VR w.heap.size c e (.and a b) (n+1)/\Ch (λD=>e.ownBlock=some D) T c) (λV t=>?_) ?_
  ·refine O.rd l (Nat.le_refl _) (kB (λd=>?_) (λd=>?_))
   ·refine P.rd l (Nat.le_refl _) (p.wr l (by show _=(rk a n&&rk b n);rw[d,Bool.true_and]) λax ag ab=>t _ _ ⟨rfl,ag,ab⟩)
   ·exact p.wr l (by show _=(rk a n&&rk b n);rw[d,Bool.false_and]) λay ah ac=>t _ _ ⟨rfl,ah,ac⟩
  rintro _ m ⟨rfl,E,o⟩;intro _;exact ad m E o
 |or a b iha ihb=>
  intro B w u v x;have x:1+a.size+b.size<=1000:=x;apply sG;unfold VE;refine aa (f:=.or a b) λe s q K G _=>?_;have k:=rB.ext u q;refine eB (f:=0) (j:=0) k rfl (show 0<1+a.size+b.size by omega) (by decide) (rA k).1 ?_;refine BA (cA rfl (BA ?_));refine WB (λz c=>z=[.bool false]/\c=s) (λV t=>cA rfl (BA (t _ _ ⟨rfl,rfl⟩))) ?_;rintro _ w3 ⟨rfl,rfl⟩;intro _;simp only[gx];refine cA rfl ?_;refine aA ((DA (g:=a) (gs:=[b]) k rfl (show 1+a.size+b.size<=_ by omega)).mono ?_);rintro u1 al ⟨A,R⟩;refine aA ((iha R (λy h=>v y (.inl h)) (by omega)).mono ?_);rintro ai av ⟨H,ae⟩;refine aA ((zA (g:=a) (h:=b) (k.ext (A.trans H)) rfl (show 1+a.size+b.size<=_ by omega)).mono ?_);rintro u3 am ⟨I,h3⟩;refine aA ((ihb h3 (λy h=>v y (.inr h)) (by omega)).mono ?_);rintro aj aw ⟨U,af⟩;have C:=((A.trans H).trans I).trans U;have ar:=A.size;have au:=((A.trans H).trans I).size;refine MB (λn:Nat=>[iv n]) (λn c=>n<=61/\bA w c/\oC c B (.or a b)/\VR w.heap.size c e (.or a b) n/\VR al.heap.size c ai a 61/\VR am.heap.size c aj b 61) (λn=>61-n) 0 rfl ⟨Nat.zero_le _,q.trans C,rB.ext k C,K.ext C,ae.ext (I.trans U),af⟩ ?_;rintro n T W ⟨hn,J,Q,p,O,P⟩ F;intro _;simp only[gx];refine p.ln (jB (dA (λN=>?_) (λN=>?_)))
  rotate_left
  ·obtain rfl:n=61:=by omega
   exact⟨J,p⟩
  have l:n<61:=by omega
  refine eB (f:=0) (j:=0) Q rfl (show 0<1+a.size+b.size by omega) (by decide) (rA Q).1 ?_;refine BA (cA rfl (BA (iA rfl ?_)));have ad:∀m,VR w.heap.size m e (.or a b) (n+1)->Ch (λD=>e.ownBlock=some D) T m->oA .i64 (iv n) (iv 1) λak=>W [ak] m:=λm E o=>by
   have S:∀d,w3.heap.size<=d-> ¬e.ownBlock=some d:=λd R L=>by have:=G d L;omega
   refine qA (by omega) ?_;refine F (n+1) m ⟨l,J.thenCh o λd r=>(p.old d r).1,?_,E,O.ch o λd Y=>S d (by omega),P.ch o λd Y=>S d (by omega)⟩ (by omega);exact rB.ext u (J.thenCh o λd r=>(p.old d r).1)
  refine WB (λz c=>z=[]/\VR w.heap.size c e (.or a b) (n+1)/\Ch (λD=>e.ownBlock=some D) T c) (λV t=>?_) ?_
  ·refine O.rd l (Nat.le_refl _) (kB (λd=>?_) (λd=>?_))
   ·exact p.wr l (by show _=(rk a n||rk b n);rw[d,Bool.true_or]) λay ah ac=>t _ _ ⟨rfl,ah,ac⟩
   ·refine P.rd l (Nat.le_refl _) (p.wr l (by show _=(rk a n||rk b n);rw[d,Bool.false_or]) λax ag ab=>t _ _ ⟨rfl,ag,ab⟩)
  rintro _ m ⟨rfl,E,o⟩;intro _;exact ad m E o
 |imp a b iha ihb=>
  intro B w u v x;have x:1+a.size+b.size<=1000:=x;apply sG;unfold VE;refine aa (f:=.imp a b) λe s q K G _=>?_;have k:=rB.ext u q;refine eB (f:=0) (j:=0) k rfl (show 0<1+a.size+b.size by omega) (by decide) (rA k).1 ?_;refine BA (cA rfl (BA ?_));refine WB (λz c=>z=[.bool false]/\c=s) (λV t=>cA rfl (BA (t _ _ ⟨rfl,rfl⟩))) ?_;rintro _ w3 ⟨rfl,rfl⟩;intro _;simp only[gx];refine cA rfl ?_;refine aA ((DA (g:=a) (gs:=[b]) k rfl (show 1+a.size+b.size<=_ by omega)).mono ?_);rintro u1 al ⟨A,R⟩;refine aA ((iha R (λy h=>v y (.inl h)) (by omega)).mono ?_);rintro ai av ⟨H,ae⟩;refine aA ((zA (g:=a) (h:=b) (k.ext (A.trans H)) rfl (show 1+a.size+b.size<=_ by omega)).mono ?_);rintro u3 am ⟨I,h3⟩;refine aA ((ihb h3 (λy h=>v y (.inr h)) (by omega)).mono ?_);rintro aj aw ⟨U,af⟩;have C:=((A.trans H).trans I).trans U;have ar:=A.size;have au:=((A.trans H).trans I).size;refine MB (λn:Nat=>[iv n]) (λn c=>n<=61/\bA w c/\oC c B (.imp a b)/\VR w.heap.size c e (.imp a b) n/\VR al.heap.size c ai a 61/\VR am.heap.size c aj b 61) (λn=>61-n) 0 rfl ⟨Nat.zero_le _,q.trans C,rB.ext k C,K.ext C,ae.ext (I.trans U),af⟩ ?_;rintro n T W ⟨hn,J,Q,p,O,P⟩ F;intro _;simp only[gx];refine p.ln (jB (dA (λN=>?_) (λN=>?_)))
  rotate_left
  ·obtain rfl:n=61:=by omega
   exact⟨J,p⟩
  have l:n<61:=by omega
  refine eB (f:=0) (j:=0) Q rfl (show 0<1+a.size+b.size by omega) (by decide) (rA Q).1 ?_;refine BA (cA rfl (BA (cA rfl ?_)));have ad:∀m,VR w.heap.size m e (.imp a b) (n+1)->Ch (λD=>e.ownBlock=some D) T m->oA .i64 (iv n) (iv 1) λak=>W [ak] m:=λm E o=>by
   have S:∀d,w3.heap.size<=d-> ¬e.ownBlock=some d:=λd R L=>by have:=G d L;omega
   refine qA (by omega) ?_;refine F (n+1) m ⟨l,J.thenCh o λd r=>(p.old d r).1,?_,E,O.ch o λd Y=>S d (by omega),P.ch o λd Y=>S d (by omega)⟩ (by omega);exact rB.ext u (J.thenCh o λd r=>(p.old d r).1)
  refine WB (λz c=>z=[]/\VR w.heap.size c e (.imp a b) (n+1)/\Ch (λD=>e.ownBlock=some D) T c) (λV t=>?_) ?_
  ·refine O.rd l (Nat.le_refl _) (TA (kB (λd=>?_) (λd=>?_)))
   ·exact p.wr l (by show _=(!rk a n||rk b n);rw[d,Bool.true_or]) λay ah ac=>t _ _ ⟨rfl,ah,ac⟩
   ·refine P.rd l (Nat.le_refl _) (p.wr l (by show _=(!rk a n||rk b n);rw[d,Bool.false_or]) λax ag ab=>t _ _ ⟨rfl,ag,ab⟩)
  rintro _ m ⟨rfl,E,o⟩;intro _;exact ad m E o
theorem RJ{P:Program}{m:Value}(g:GA u w x [U,m])(j:vA v=true)(k:vA i=true)
  (h:∀a,Ch (λc=>c=x) w a->GA u a x [v,i]->l a):sD P w 2 (.pointer (some ⟨x,0,none⟩)) (.agg #[v,i]) l:=by
 obtain⟨a,d,e,f⟩:=DF (P:=P) [v,i] 0 w _ g (by simp) (λz b=>by
  simp only[List.mem_cons,List.not_mem_nil,or_false]at b;rcases b with rfl|rfl
  ·exact j
  ·exact k)
 exact⟨_,a,rfl,rfl,d,h a (e.ch rfl) (by simpa using f)⟩
theorem Qn{r:Fm}(a:r.good)(h:cE r=[]):∀x,¬Fm.has x r:=λx b=>by
 have c:pD (cB r)<2^6:=YI (List.all_eq_true.2 (BD a));have:x∈cE r:=(YW (by omega)).2 (xc b);rw[h]at this;cases this
abbrev mu:TypeId:=138
def qw(a:Nat)(w:World)(r:Value)(f:Fm):Prop:=∃u,r= .agg #[.bool (QO f),u]/\Ow a KA w u (JA (MA (pU f)))
theorem Nn(q:GA mu w f [U,v])(g:Ow x KA w v (JA (MA m)))(V:m.length<=1000)(L:x<=w.heap.size)(X:x<=f)
  (E:∀d w',Ow x KA w' d (JA (MA (m++[C])))->GA mu w' f [U,d]->(∀o,o.heap.size<=x->bA o w->bA o w')->(∀{kk lo' n:Nat} {e:TypeId} {u:Value} {ys:List Value},e≠KA->e≠mu->dB kk lo' e w u n ys->dB kk lo' e w' u n ys)->(∀h p,h≠f->GA mu w h p->GA mu w' h p)->l w'):
  FA 1 (.pointer (some ⟨f,0,none⟩)) λs=>kA w s λO=>xB KA (Value.cells (iv 0)) 1 1 [(0,iv C)] w λT P=>nD prog (Builtin.append_ #[si,si] si #[O,T]) P λd t=>FA 1 (.pointer (some ⟨f,0,none⟩)) λs=>KC t s d l:=by
 have W:(JA (MA m)).length=m.length:=by rw[SA,WA]
 refine pB (mA q (i:=1) (v:=v) rfl ?_);refine WE TH RH rfl g rfl (by omega) (by omega) L λd t A J _=>pB ?_;have j:=sE (S:=λc=>v.ownBlock=some c) J λc b=>b;have r:=q.ch j (λa=>g.ne_blk q (by decide) a);refine QX (i:=1) r (by simp) A.cell λQ I N=>?_;have k:=N.ch (S:=λc=>c=f) rfl;refine E d Q ?_ I (λo F R=>(R.thenCh j λc b=>Nat.le_trans F (g.blk c b).1).thenCh k λc b=>by omega) (λG H B=>?_) λh p M z=>(z.ch j λa=>g.ne_blk z (by decide) a).ch k λa=>M a
 ·have:Ow x KA t d (JA (MA (m++[C]))):=by
   rw[show JA (MA (m++[C]))=JA (MA m)++[iv C]by simp[JA,MA]];exact A
  exact this.ch k λc b a=>by subst a;exact this.ne_blk r (by decide) b
 ·have y:=dB.ch B j λc b a=>by
   obtain⟨D,K⟩:=Ow.ty g a;exact dB.ne_blk B (show GA KA w c D.toList by unfold GA;rw[K]) G b
  exact dB.ch y k λc b a=>by subst a;exact dB.ne_blk y r H b
theorem S3{r:Fm}:((List.range (x+1)).filter λx=>rk r x==QO r)=((List.range x).filter λx=>rk r x==QO r)++(if rk r x==QO r then[x]else[]):=by
 rw[List.range_succ,List.filter_append];cases h:rk r x==QO r<;>simp[h]
theorem y6{r:Fm}(q:VR x w v r 61):nA prog 357 #[v] w λR a=>bA w a/\qw w.heap.size a R r:=by
 apply K8;unfold QS;refine iC λP w1 X k I=>(q.ext k).ln (HB (by decide) ?_);refine(q.ext k).rd (j:=60) (by decide) (by decide) (TA (PH λi w2 Z t g=>?_));show zB _ _ [(0,.bool (QO r)),(1,i)] _;refine GD (cs:=#[.bool (QO r),i]) (by simp[Instr.fill,sA g.cell,sA (show vA (.bool (QO r))=true from rfl)]) ?_;refine iC λQ w3 Y l z=>?_;have S:=k.size;have s2:=t.size;refine RJ z rfl g.cell λC p K=>?_;have D:=(k.trans t).trans l;have E:bA w C:=D.thenCh p λo b=>by omega
 have G:Ow w.heap.size KA C i (JA (MA ((List.range 0).filter λn=>rk r n==QO r))):=((g.mono S).ext l).ch p λo b h=>by subst h;exact(g.ext l).ne_blk z (by decide) b
 have J:=((I.ext (t.trans l)).ch p λh=>by omega)
 refine MB (λn:Nat=>[iv n]) (λn a=>n<=61/\bA w a/\(GA mu a P [.bool false,.slice none 0 0])/\ ∃u,GA mu a Q [.bool (QO r),u]/\Ow w.heap.size KA a u (JA (MA ((List.range n).filter λn=>rk r n==QO r)))) (λn=>61-n) 0 rfl ⟨Nat.zero_le _,E,J,i,K,G⟩ ?_;rintro n w6 U ⟨W,e,f,u,m,c⟩ A;have B:=q.ext e;intro _;simp only[gx];refine B.ln (jB (dA (λM=>?_) (λM=>?_)))
 ·have s:n<61:=by omega
  refine B.rd s (Nat.le_refl _) (AG ?_);rw[Bool.true_beq];have V:((List.range n).filter λn=>rk r n==QO r).length<=61:=by
   have:=List.length_filter_le (λn=>rk r n==QO r) (List.range n);rw[List.length_range]at this;omega
  refine kB (λd=>?_) (λd=>?_)
  ·refine Nn m c (by omega) e.size (by omega) λT w9 N L F _ O=>?_;refine qA (by omega) ?_;refine A (n+1) _ ⟨s,F w (Nat.le_refl _) e,O _ _ (by omega) f,T,L,?_⟩ (by omega);have d:(rk r n==QO r)=true:=d;rw[S3,if_pos d];exact N
  ·refine qA (by omega) ?_;refine A (n+1) _ ⟨s,e,f,u,m,?_⟩ (by omega);have d:(rk r n==QO r)=false:=d;rw[S3,d,if_neg (by decide),List.append_nil];exact c
 ·obtain rfl:n=61:=by omega
  refine DB m rfl (RJ f rfl c.cell λaa y H=>DB H rfl ⟨e.thenCh y λo b=>by omega,u,rfl,c.ch y λo b h=>by subst h;exact c.ne_blk f (by decide) b⟩)
theorem C9{r:Fm}(k:Tk r x)(w:World):nA prog 184 #[iv x] w λaa c=>bA w c/\qw w.heap.size c aa r:=by
 have l:=k.1;apply Pa;unfold GU;refine iC λZ w1 ad I P=>Dj (j:=60) (by decide) ?_;have z:∀{a n:Nat},a<2^61->n<61-> ∀{K:Value->Prop},(∀t:Nat,(a>>>n)&&& 1=t->(t=if a.testBit n then 1 else 0)->K (iv t))->OB bK .i64 (iv ((a>>>n:Nat):Int)) (iv 1) K:=λ{a n} ha f {K} hK=>by
  have h1:a>>>n<=a:=by rw[Nat.shiftRight_eq_div_pow];exact Nat.div_le_self _ _
  refine yc (b:=1) (by omega) (by decide) (hK _ rfl ?_);rw[Nat.testBit,Nat.and_comm];have:a>>>n&&& 1<2:=by rw[Nat.and_one_is_mod];omega
  by_cases M:a>>>n&&& 1=0
  ·rw[Nat.and_comm,M];rfl
  ·have:a>>>n&&& 1=1:=by omega
   rw[Nat.and_comm,this];rfl
 refine z l (by decide) λt _ e=>BA ?_;have T:decide ((t:Int)=0)=QO r:=by
  rw[e,k.2 60 (by decide)];unfold QO;cases rk r 60<;>rfl
 rw[T];refine GD (cs:=#[.bool (QO r),.slice none 0 0]) (by simp[Instr.fill,Value.cells]) ?_;refine iC λq3 w2 ae J R=>?_;have s1:=I.size;refine RJ R rfl rfl λH C D=>?_;have L:bA w H:=(I.trans J).thenCh C λA y=>by omega
 have Q:=(P.ext J).ch C λG=>by omega
 refine pB (mA D (i:=0) (v:=.bool (QO r)) rfl (TA ?_));refine WB (λxs c=>c=H/\ ∃o:Nat,xs=[iv o]/\o<2^61/\ ∀n,n<61->o.testBit n=(rk r n==QO r)) (λab E=>?_) ?_
 ·refine kB (λd=>?_) (λd=>?_)
  ·rw[Bool.not_eq_true']at d;refine VI (a:=2^61-1) (b:=x) (by decide) (by omega) ?_;rw[RR l];refine E _ _ ⟨rfl,_,rfl,by omega,λn f=>?_⟩;rw[S2 l f,k.2 n f,d];cases rk r n<;>rfl
  ·rw[Bool.not_eq_false']at d;refine E _ _ ⟨rfl,x,rfl,l,λn f=>?_⟩;rw[k.2 n f,d];cases rk r n<;>rfl
 rintro _ w5 ⟨rfl,o,rfl,U,V⟩;intro _;refine MB (λn:Nat=>[iv n]) (λn c=>n<=61/\bA w c/\(GA mu c Z [.bool false,.slice none 0 0])/\ ∃u,GA mu c q3 [.bool (QO r),u]/\Ow w.heap.size KA c u (JA (MA ((List.range n).filter λn=>rk r n==QO r)))) (λn=>61-n) 0 rfl ⟨Nat.zero_le _,L,Q,_,D,Ow.nil _ _ _⟩ ?_;rintro n w7 Kn ⟨f,p,h,u,q,g⟩ F;intro _;simp only[gx];refine jB (dA (λW=>?_) (λW=>?_))
 ·have m:n<61:=by omega
  refine Dj (j:=n) (by omega) (z U m λt _ e=>BA ?_);rw[V n m]at e;have ac:((List.range n).filter λn=>rk r n==QO r).length<=61:=by
   have:=List.length_filter_le (λn=>rk r n==QO r) (List.range n);rw[List.length_range]at this;omega
  refine dA (λd=>?_) (λd=>?_)
  ·have d:(rk r n==QO r)=true:=by
    cases s:(rk r n==QO r)with
    |true=>rfl
    |false=>rw[s]at e;simp at e;omega
   refine Nn q g (by omega) p.size (by omega) λv' w9 X S N _ Y=>?_;refine qA (by omega) ?_;refine F (n+1) _ ⟨m,N w (Nat.le_refl _) p,Y _ _ (by omega) h,v',S,?_⟩ (by omega);rw[S3,if_pos d];exact X
  ·have d:(rk r n==QO r)=false:=by
    cases s:(rk r n==QO r)with
    |false=>rfl
    |true=>rw[s]at e;simp at e;omega
   refine qA (by omega) ?_;refine F (n+1) _ ⟨m,p,h,u,q,?_⟩ (by omega);rw[S3,d,if_neg (by decide),List.append_nil];exact g
 ·obtain rfl:n=61:=by omega
  refine DB q rfl (RJ h rfl g.cell λaf B O=>DB O rfl ⟨p.thenCh B λA y=>by omega,u,rfl,g.ch B λA y G=>by subst G;exact g.ne_blk h (by decide) y⟩)
theorem BQ{r:Fm}(j:Sl w v [i])(k:oC w i r)(d:r.good)(g:r.size<=40):CB prog 183 #[v] w (iv (if cE r=[]then 0 else 5)):=by
 have hR:P6 w v [(i,cB r)]:=P6.one j (oC.rawS k);apply QT;unfold JJ;refine gA (OG hR (λp b=>by rw[List.mem_singleton.1 b];show(cB r).length<=_;rw[ZC];omega)) λn c=>TA ?_;rw[show([(i,cB r)]:List VN).all (λq=>Jj q.2)=true by simp[WW.2 ⟨r,d,g,rfl⟩]];refine cA rfl ?_;refine aA ((bE (hR.ext c) λp b=>by rw[List.mem_singleton.1 b];exact List.all_eq_true.2 (BD d)).mono ?_);rintro m o ⟨e,a⟩;have a:Ow n.heap.size KA o m (JA (MA (cE r))):=by
  have:XI [(i,cB r)]=pD (cB r):=by simp[XI]
  rw[this]at a;exact a
 refine WC (l:=cE r) a.sl (jB (dA (λh=>?_) (λh=>?_)))
 ·rw[if_neg (λf=>by rw[f]at h;simp at h)];exact⟨rfl,c.trans e⟩
 ·rw[if_pos (List.length_eq_zero_iff.1 (by omega))];exact⟨rfl,c.trans e⟩
theorem k9{r:Fm}(i:oC w v r)(o:r.good)(C:r.size<=40):nA prog 98 #[v] w λE p=>bA w p/\ ∃t,E= .tuple #[t,iv (if cE r=[]then 0 else 5)]/\(∃d u,t= .agg #[.bool d,u]/\vA u=true)/\(cE r=[]->qw 0 p t r):=by
 apply Ca;unfold tU;refine iC λL M J I z=>fF rfl (rB.cellZ i) λd F _ q y=>?_;have l:=I.trans q;have D:Sl F (.slice (some ⟨d,0,none⟩) 1 1) [v]:=Sl.ofBlk (n:=1) y rfl (by decide);refine gA (BQ D (rB.ext i l) o C) λN s=>?_;have c:=l.trans s;have e:=z.ext (q.trans s);by_cases h:cE r=[]
 ·rw[if_pos h];refine ZF (cA (by decide) ?_);refine aA ((B9 r (rB.ext i c) (Qn o h) (by omega)).mono ?_);rintro _ G ⟨j,K,rfl,B⟩;refine aA ((C9 B G).mono ?_);rintro _ O ⟨k,u,rfl,b⟩;refine RJ (e.ext (j.trans k)) rfl b.cell λH a f=>DB f rfl ⟨((c.trans j).trans k).thenCh a λm g=>by omega,_,rfl,⟨_,_,rfl,b.cell⟩,λ_=>⟨u,rfl,?_⟩⟩;exact(b.ch a λm g A=>by subst A;exact b.ne_blk (e.ext (j.trans k)) (by decide) g).mono (Nat.zero_le _)
 ·rw[if_neg h];refine ZF (iA (by decide) (GD (cs:=#[.bool false,.slice none 0 0]) (by simp[Instr.fill]) ?_));exact RJ e rfl rfl λH a f=>DB f rfl ⟨c.thenCh a λm g=>by omega,_,rfl,⟨_,_,rfl,rfl⟩,λx=>absurd x h⟩
theorem t6{r:Fm}(f:Sl w v [i])(n:oC w i r)(m:r.good)(u:r.size<=40):CB prog 356 #[v] w (iv (if cE r=[]then 0 else 5)):=by
 apply Jb;unfold lV;refine MB (λa:Nat=>[iv a]) (λa k=>a<=1/\bA w k) (λa=>1-a) 0 rfl ⟨Nat.zero_le _,bA.refl _⟩ ?_;rintro a H D ⟨E,e⟩ s;intro _;simp only[gx];refine XC (Sl.ext f e) (jB (dA (λb=>?_) (λb=>?_)))
 ·have:a=0:=by simp at b;omega
  subst this;refine pP (j:=0) (Sl.ext f e) (by decide) (by simp) λy h=>DD h ?_;exact gA (lJ (rB.ext n e) m u) λI B=>TA (cA rfl (qA (by decide) (s 1 _ ⟨Nat.le_refl _,e.trans B⟩ (by decide))))
 ·refine MB (λa:Nat=>[iv a]) (λa k=>a<=1/\bA w k/\(a=1->cE r=[])) (λa=>1-a) 0 rfl ⟨Nat.zero_le _,e,λo=>by cases o⟩ ?_;rintro j z C ⟨F,c,h⟩ q;intro _;simp only[gx];refine XC (Sl.ext f c) (jB (dA (λb=>?_) (λb=>?_)))
  ·have:j=0:=by simp at b;omega
   subst this;refine pP (j:=0) (Sl.ext f c) (by decide) (by simp) λy x=>DD x ?_;have t:CB prog 530 #[i] z (.bool (decide (cE r=[]))):=by
    apply KV;unfold LK;refine aA ((RE (oC.rawS (rB.ext n c)) (List.all_eq_true.2 (BD m))).mono ?_);rintro G A ⟨g,p⟩;refine WC (l:=cE r) p.sl (BA ⟨?_,g⟩)
    congr 1
    refine decide_eq_decide.2 ?_;rw[<-List.length_eq_zero_iff];omega
   refine gA t λA g=>TA (kB (λd=>?_) (λd=>?_))
   ·rw[Bool.not_eq_true',decide_eq_false_iff_not]at d;rw[if_neg d];exact⟨rfl,c.trans g⟩
   ·rw[Bool.not_eq_false',decide_eq_true_eq]at d;exact qA (by decide) (q 1 _ ⟨Nat.le_refl _,c.trans g,λ_=>d⟩ (by decide))
  ·have:j=1:=by simp at b;omega
   rw[if_pos (h this)];exact⟨rfl,c⟩
theorem E9{r:Fm}(i:oC w v r)(o:r.good)(C:r.size<=40):nA prog 210 #[v] w λE p=>bA w p/\ ∃t,E= .tuple #[t,iv (if cE r=[]then 0 else 5)]/\(∃d u,t= .agg #[.bool d,u]/\vA u=true)/\(cE r=[]->qw 0 p t r):=by
 apply Sa;unfold IU;refine iC λJ L I H A=>fF rfl (rB.cellZ i) λd F _ q z=>?_;have l:=H.trans q;have D:Sl F (.slice (some ⟨d,0,none⟩) 1 1) [v]:=Sl.ofBlk (n:=1) z rfl (by decide);refine gA (t6 D (rB.ext i l) o C) λM s=>?_;have c:=l.trans s;have e:=A.ext (q.trans s);by_cases h:cE r=[]
 ·rw[if_pos h];refine ZF (cA (by decide) ?_);refine aA ((kd r (rB.ext i c) (Qn o h) (by omega)).mono ?_);rintro K N ⟨j,y⟩;refine aA ((y6 y).mono ?_);rintro _ O ⟨k,u,rfl,b⟩;refine RJ (e.ext (j.trans k)) rfl b.cell λG a f=>DB f rfl ⟨((c.trans j).trans k).thenCh a λm g=>by omega,_,rfl,⟨_,_,rfl,b.cell⟩,λ_=>⟨u,rfl,?_⟩⟩;exact(b.ch a λm g B=>by subst B;exact b.ne_blk (e.ext (j.trans k)) (by decide) g).mono (Nat.zero_le _)
 ·rw[if_neg h];refine ZF (iA (by decide) (GD (cs:=#[.bool false,.slice none 0 0]) (by simp[Instr.fill]) ?_));exact RJ e rfl rfl λG a f=>DB f rfl ⟨c.thenCh a λm g=>by omega,_,rfl,⟨_,_,rfl,rfl⟩,λx=>absurd x h⟩
def yp(a:List Fm)(t:Nat):Nat->Nat
 |0=>0
 |k+1=>if(gt a k).modal&&tv a t (gt a k).inner then yp a t k|||2^k else yp a t k
theorem xi(a:List Fm)(t:Nat):∀k i,(yp a t k).testBit i=(decide (i<k)&&((gt a i).modal&&tv a t (gt a i).inner))
 |0,i=>by simp[yp]
 |k+1,i=>by
  have b:=xi a t k i;unfold yp;by_cases e:k=i
  ·subst e;split
   ·rename_i h;rw[Nat.testBit_or,b,Nat.testBit_two_pow,h];simp
   ·rename_i h;rw[b,(Bool.not_eq_true _).mp h];simp
  ·have c:decide (i<k)=decide (i<k+1):=decide_eq_decide.2 (by omega);split
   ·rw[Nat.testBit_or,b,Nat.testBit_two_pow,decide_eq_false e,Bool.or_false,c]
   ·rw[b,c]
theorem Vr(a:List Fm)(t k:Nat):yp a t k<2^k:=Nat.lt_pow_two_of_testBit _ λi b=>by rw[xi,decide_eq_false (by omega),Bool.false_and]
def Jp(a:List Fm)(t:Nat):Nat:=yp a t a.length
structure VG(ps:List Fm):Prop where
 nd:ps.Nodup
 le:ps.length<=8
 el:∀e∈ps,e.elem=true
 gd:∀e∈ps,e.good/\e.size<=40
 cl:∀e∈ps,∀g∈e.subs,g.elem=true->g∈ps
theorem VG.mem(a:x<j.length):gt j x∈j:=by rw[LA a];exact List.getElem_mem a
theorem VG.idx(h:VG j)(a:x<j.length):j.idxOf (gt j x)=x:=by rw[LA a];exact h.nd.idxOf_getElem x a
theorem VG.dm(h:VG j){t:Nat}(a:x<j.length)(b:(gt j x).modal=true):hC j t (gt j x)=(t.testBit x==decide (((gt j x).kind:Int)=5)):=by
 unfold hC;rw[Fk b,h.idx a,U0]
theorem VG.mt{t:Nat}(a:x<j.length)(b:(gt j x).modal=true):wI j t (gt j x)=((Jp j t).testBit x==decide (((gt j x).kind:Int)=5)):=by
 unfold wI Jp;rw[xi,decide_eq_true a,b,U0];simp
theorem BM{r:Fm}(h:r.elem=true):(r.modal=false/\(r.kind:Int)=0)∨(r.modal=true/\((r.kind:Int)=5∨(r.kind:Int)=6)):=by
 cases r with
 |var _=>exact .inl ⟨rfl,rfl⟩
 |box _=>exact .inr ⟨rfl,.inl rfl⟩
 |dia _=>exact .inr ⟨rfl,.inr rfl⟩
 |fls=>cases h
 |and _ _=>cases h
 |or _ _=>cases h
 |imp _ _=>cases h
theorem VG.bad(h:VG j){t:Nat}(c:x<j.length):((gt j x).modal&&(hC j t (gt j x)&& !wI j t (gt j x)))=(decide (((gt j x).kind:Int)=5)&&(t.testBit x&& !(Jp j t).testBit x)||decide (((gt j x).kind:Int)=6)&&(!t.testBit x&&(Jp j t).testBit x)):=by
 rcases BM (h.el _ (VG.mem c))with⟨b,a⟩|⟨b,a⟩
 ·rw[b,a];simp
 ·rw[h.dm c b,VG.mt c b,b];rcases a with a|a<;>rw[a]<;>cases t.testBit x<;>cases (Jp j t).testBit x<;>decide
theorem VG.ask(h:VG j)(c:x<j.length):((gt j x).modal&& !hC j n (gt j x))=(decide (((gt j x).kind:Int)=5)&& !n.testBit x||decide (((gt j x).kind:Int)=6)&&n.testBit x):=by
 rcases BM (h.el _ (VG.mem c))with⟨b,a⟩|⟨b,a⟩
 ·rw[b,a];simp
 ·rw[h.dm c b,b];rcases a with a|a<;>rw[a]<;>cases n.testBit x<;>decide
theorem Yp(p:Nat->Bool)(i:Nat):(List.range (i+1)).any p=((List.range i).any p||p i):=by simp[List.range_succ]
theorem Oi(p:Nat->Bool)(i:Nat):(List.range (i+1)).all p=((List.range i).all p&&p i):=by simp[List.range_succ]
theorem Vp{p:Nat->Bool}(a:x<n)(h:p x=false):(List.range n).all p=false:=List.all_eq_false.2 ⟨x,List.mem_range.2 a,by rw[h];decide⟩
section
abbrev ja:TypeId:=341
structure OP(w:World)(q:Nat)(l:jA)(ps:List Fm)(m:Nat)(vP vK vI vT vY vX vR:Value):Prop where
 blk:GA ja w q [sv l,vP,vK,vI,vT,vY,vX,vR]
 par:iM w vP (ps.map Fm.body)
 knd:Q9 w vK (ps.map λe=>(e.kind:Int))
 tru:jL w vT ((List.range m).map (Jp ps))
variable{w w':World}{q m i t a b:Nat}{l:jA}{ps:List Fm}{vP vK vI vT vY vX vR:Value}
theorem OP.ext(h:OP w q l ps m vP vK vI vT vY vX vR)(x:bA w w'):OP w' q l ps m vP vK vI vT vY vX vR:=⟨h.blk.ext x,Sl.ext h.par x,Sl.ext h.knd x,Sl.ext h.tru x⟩
theorem OP.lAt(h:OP w q l ps m vP vK vI vT vY vX vR)(hK:z (sv l)):IA (.pointer (some ⟨q,0,none⟩)) λv=>FA 0 v λv=>kA w v z:=bB (pB (mA h.blk (i:=0) (v:=sv l) rfl hK))
theorem OP.nAt(h:OP w q l ps m vP vK vI vT vY vX vR)(hK:z (iv (ps.length:Int))):IA (.pointer (some ⟨q,0,none⟩)) λv=>FA 1 v λv=>kA w v λv=>lA v z:=bB (pB (mA h.blk (i:=1) (v:=vP) rfl (ZA h.par (by rw[List.length_map];exact hK))))
theorem OP.kAt(h:OP w q l ps m vP vK vI vT vY vX vR)(c:i<ps.length)(hK:z (iv ((gt ps i).kind:Int))):IA (.pointer (some ⟨q,0,none⟩)) λv=>FA 2 v λv=>kA w v λv=>wA 1 v (iv i) λp=>kA w p z:=by
 refine bB (pB (mA h.blk (i:=2) (v:=vK) rfl (rh h.knd (by simpa using c) λp d=>DD (d.trans ?_) hK)));rw[LA c];simp[List.getD_eq_getElem?_getD,c]
theorem OP.tAt(h:OP w q l ps m vP vK vI vT vY vX vR)(c:t<m)(hK:z (iv ((Jp ps t:Nat):Int))):IA (.pointer (some ⟨q,0,none⟩)) λv=>FA 4 v λv=>kA w v λv=>wA 1 v (iv t) λp=>kA w p z:=by
 refine bB (pB (mA h.blk (i:=4) (v:=vT) rfl (tE h.tru (by simpa using c) λp d=>DD (d.trans ?_) hK)));simp[List.getD_eq_getElem?_getD,c]
theorem Mn(c:ps.length<=8)(t:Nat):Jp ps t<2^63:=Nat.lt_of_lt_of_le (Vr ps t _) (Nat.pow_le_pow_right (by decide) (by omega))
theorem F7(d:ps.length<=8)(c:t<2^ps.length):t<2^63:=Nat.lt_of_lt_of_le c (Nat.pow_le_pow_right (by decide) (by omega))
theorem zT(h:VG ps)(X:t<2^ps.length):∀(f:Fm) {v:Value} {w:World},OP w q l ps m vP vK vI vT vY vX vR->oC w v f->f.good->(∀g∈f.subs,g.elem=true->g∈ps)->f.size<=1000->
  CB prog 487 #[.pointer (some ⟨q,0,none⟩),iv t,v] w (.bool (tv ps t f)):=by
 have S:=h.le;have I:∀{f:Fm} {v:Value} {w:World},OP w q l ps m vP vK vI vT vY vX vR->oC w v f->f.good->f∈ps->f.size<=1000-> ¬(f.kind:Int)=1-> ¬(f.kind:Int)=2-> ¬(f.kind:Int)=3-> ¬(f.kind:Int)=4->tv ps t f=t.testBit (ps.idxOf f)->CB prog 487 #[.pointer (some ⟨q,0,none⟩),iv t,v] w (.bool (tv ps t f)):=λ{f v w} e c k W o Z k2 k3 k4 Y=>by
  apply LG;unfold pF;refine eB (j:=0) (f:=0) c rfl f.size_pos (by decide) (rA c).1 ?_;refine BA (cA (decide_eq_false Z) (BA (cA (decide_eq_false k2) (BA (cA (decide_eq_false k3) (BA (cA (decide_eq_false k4) ?_)))))));refine gA (AB c k (by omega)) λH d=>?_;refine MB (λi:Nat=>[iv i]) (λi w'=>i<=ps.length/\bA H w'/\ ∀j,j<i-> ¬(gt ps j).body=f.body) (λi=>ps.length-i) 0 rfl ⟨Nat.zero_le _,bA.refl _,λj G=>absurd G (Nat.not_lt_zero j)⟩ ?_;rintro i y Kn ⟨hi,n,M⟩ T;have J:=e.ext (d.trans n);intro _;simp only[gx];refine J.nAt (jB (dA (λV=>?_) (λV=>?_)))
  ·have z:i<ps.length:=by omega
   refine bB (pB (mA J.blk (i:=1) (v:=vP) rfl (mQ J.par (j:=i) (by simpa using z) λaa e=>DD e ?_)));rw[show(ps.map Fm.body)[i]'(by simpa using z)=(gt ps i).body by rw[LA z];simp];refine yB (dA (λA=>?_) (λA=>?_))
   ·have Q:gt ps i=f:=lq (h.gd _ (VG.mem z)).1 k A;have R:ps.idxOf f=i:=by rw[<-Q];exact h.idx z
    refine gA (JB t i (F7 S X) (by omega) y) λK u=>⟨?_,(d.trans n).trans u⟩
    rw[Y,R]
   ·refine qA (by omega) ?_;refine T (i+1) _ ⟨z,n,λj G=>?_⟩ (by omega);by_cases U:j=i
    ·rw[U];exact A
    ·exact M j (by omega)
  ·exfalso;obtain⟨j,G,A⟩:=List.getElem_of_mem W;exact M j (by omega) (by rw[LA G,A])
 intro f
 induction f with
 |var aa=>intro v w e c k p o;exact I e c k (p _ (Fm.subs_self _) rfl) o (by show¬(0:Int)=1;decide) (by show¬(0:Int)=2;decide) (by show¬(0:Int)=3;decide) (by show¬(0:Int)=4;decide) rfl
 |box a _=>intro v w e c k p o;exact I e c k (p _ (Fm.subs_self _) rfl) o (by show¬(5:Int)=1;decide) (by show¬(5:Int)=2;decide) (by show¬(5:Int)=3;decide) (by show¬(5:Int)=4;decide) rfl
 |dia a _=>intro v w e c k p o;exact I e c k (p _ (Fm.subs_self _) rfl) o (by show¬(6:Int)=1;decide) (by show¬(6:Int)=2;decide) (by show¬(6:Int)=3;decide) (by show¬(6:Int)=4;decide) rfl
 |fls=>
  intro v w e c k p o;apply LG;unfold pF;refine eB (j:=0) (f:=0) c rfl (by decide) (by decide) (rA c).1 ?_;exact BA (iA rfl ⟨rfl,bA.refl _⟩)
 |and a b iha ihb=>
  intro v w e c k p o;have o:1+a.size+b.size<=1000:=o;apply LG;unfold pF;refine eB (j:=0) (f:=0) c rfl (show 0<1+a.size+b.size by omega) (by decide) (rA c).1 ?_;refine BA (cA rfl (BA (iA rfl ?_)));refine sB (tv ps t (.and a b)) w (λL x=>?_) (λP F=>λ_=>⟨by first|trivial|rfl,F⟩);refine aA ((DA (g:=a) (gs:=[b]) c rfl (show 1+a.size+b.size<=_ by omega)).mono ?_);rintro N H ⟨d,B⟩;refine gA (iha (e.ext d) B k.1 (λg s=>p g (List.mem_cons_of_mem _ (List.mem_append_left _ s))) (by omega)) λy n=>kB (λr=>?_) (λr=>?_)
  ·refine aA ((zA (g:=a) (h:=b) (c.ext (d.trans n)) rfl (show 1+a.size+b.size<=_ by omega)).mono ?_);rintro O K ⟨u,C⟩;refine gA (ihb (e.ext ((d.trans n).trans u)) C k.2 (λg s=>p g (List.mem_cons_of_mem _ (List.mem_append_right _ s))) (by omega)) λD E=>?_;have:=x D (((d.trans n).trans u).trans E)
   rwa [tv,r,Bool.true_and]at this
  ·have:=x y (d.trans n)
   rwa [tv,r,Bool.false_and]at this
 |or a b iha ihb=>
  intro v w e c k p o;have o:1+a.size+b.size<=1000:=o;apply LG;unfold pF;refine eB (j:=0) (f:=0) c rfl (show 0<1+a.size+b.size by omega) (by decide) (rA c).1 ?_;refine BA (cA rfl (BA (cA rfl (BA (iA rfl ?_)))));refine sB (tv ps t (.or a b)) w (λL x=>?_) (λP F=>λ_=>⟨by first|trivial|rfl,F⟩);refine aA ((DA (g:=a) (gs:=[b]) c rfl (show 1+a.size+b.size<=_ by omega)).mono ?_);rintro N H ⟨d,B⟩;refine gA (iha (e.ext d) B k.1 (λg s=>p g (List.mem_cons_of_mem _ (List.mem_append_left _ s))) (by omega)) λy n=>kB (λr=>?_) (λr=>?_)
  ·have:=x y (d.trans n)
   rwa [tv,r,Bool.true_or]at this
  ·refine aA ((zA (g:=a) (h:=b) (c.ext (d.trans n)) rfl (show 1+a.size+b.size<=_ by omega)).mono ?_);rintro O K ⟨u,C⟩;refine gA (ihb (e.ext ((d.trans n).trans u)) C k.2 (λg s=>p g (List.mem_cons_of_mem _ (List.mem_append_right _ s))) (by omega)) λD E=>?_;have:=x D (((d.trans n).trans u).trans E)
   rwa [tv,r,Bool.false_or]at this
 |imp a b iha ihb=>
  intro v w e c k p o;have o:1+a.size+b.size<=1000:=o;apply LG;unfold pF;refine eB (j:=0) (f:=0) c rfl (show 0<1+a.size+b.size by omega) (by decide) (rA c).1 ?_;refine BA (cA rfl (BA (cA rfl (BA (cA rfl (BA (iA rfl ?_)))))));refine sB (tv ps t (.imp a b)) w (λL x=>?_) (λP F=>λ_=>⟨by first|trivial|rfl,F⟩);refine aA ((DA (g:=a) (gs:=[b]) c rfl (show 1+a.size+b.size<=_ by omega)).mono ?_);rintro N H ⟨d,B⟩;refine gA (iha (e.ext d) B k.1 (λg s=>p g (List.mem_cons_of_mem _ (List.mem_append_left _ s))) (by omega)) λy n=>TA (kB (λr=>?_) (λr=>?_))
  ·have:=x y (d.trans n)
   rwa [tv,r,Bool.true_or]at this
  ·refine aA ((zA (g:=a) (h:=b) (c.ext (d.trans n)) rfl (show 1+a.size+b.size<=_ by omega)).mono ?_);rintro O K ⟨u,C⟩;refine gA (ihb (e.ext ((d.trans n).trans u)) C k.2 (λg s=>p g (List.mem_cons_of_mem _ (List.mem_append_right _ s))) (by omega)) λD E=>?_;have:=x D (((d.trans n).trans u).trans E)
   rwa [tv,r,Bool.false_or]at this
theorem L9(N:VG ps)(u:OP w q l ps m vP vK vI vT vY vX vR)(C:pA l<10)(R:t<2^ps.length)(Q:t<m):CB prog 488 #[.pointer (some ⟨q,0,none⟩),iv t] w (.bool (PC (pA l) ps t)):=by
 have s:=N.le;apply Gb;unfold iV;refine sB (!A7 (pA l)) w (λJ c=>?_) (λY x=>?_)
 ·refine u.lAt (j5 (b:=[84]) (dA (λe=>?_) (λe=>?_)))
  ·refine u.lAt (j5 (b:=[83,52]) (dA (λA=>?_) (λA=>?_)))
   ·refine u.lAt (j5 (b:=[83,53]) ?_);have L:=mC C (n:=[84]) (k:=4) rfl (by decide);have M:=mC C (n:=[83,52]) (k:=6) rfl (by decide);have T:=mC C (n:=[83,53]) (k:=7) rfl (by decide);rw[decide_eq_false e,eq_comm,decide_eq_false_iff_not]at L;rw[decide_eq_false A,eq_comm,decide_eq_false_iff_not]at M;have:(!A7 (pA l))=decide (l≠[83,53]):=by
     rw[decide_not,T];unfold A7;rw[show(pA l==4)=false by simpa using L,show(pA l==6)=false by simpa using M];rfl
    rw[<-this];exact c _ (bA.refl _)
   ·have:pA l=6:=by rw[Classical.not_not.1 A];decide
    rw[this]at c;exact c _ (bA.refl _)
  ·have:pA l=4:=by rw[Classical.not_not.1 e];decide
   rw[this]at c;exact c _ (bA.refl _)
 intro _;simp only[gx];have X:=u.ext x;unfold PC;refine kB (λD=>?_) (λD=>?_)
 ·rw[D,Bool.true_or];exact⟨rfl,x⟩
 rw[D,Bool.false_or];refine MB (λi:Nat=>[iv i]) (λi w'=>i<=ps.length/\bA Y w'/\ ∀j,j<i->((gt ps j).modal&&(hC ps t (gt ps j)&& !wI ps t (gt ps j)))=false) (λi=>ps.length-i) 0 rfl ⟨Nat.zero_le _,bA.refl _,λj B=>absurd B (Nat.not_lt_zero j)⟩ ?_;rintro i G Kn ⟨hi,y,P⟩ U;have r:=X.ext y;intro _;simp only[gx];refine r.nAt (jB (dA (λW=>?_) (λW=>?_)))
 ·have h:i<ps.length:=by omega
  have g:=N.bad (t:=t) h;have K:∀o,bA G o->((gt ps i).modal&&(hC ps t (gt ps i)&& !wI ps t (gt ps i)))=true->(Value.bool false= .bool (!(yF ps).any λe=>hC ps t e&& !wI ps t e)/\bA w o):=λo p e=>by
   rw[<-D5,JG h e];exact⟨rfl,(x.trans y).trans p⟩
  refine WB (λI w'=>I=[.bool (decide (((gt ps i).kind:Int)=5)&&(t.testBit i&& !(Jp ps t).testBit i))]/\bA G w') (λJ c=>?_) ?_
  ·refine r.kAt h (BA (dA (λE=>?_) (λE=>c _ _ ⟨by rw[decide_eq_false E,Bool.false_and],bA.refl _⟩)));refine gA (JB t i (F7 s R) (by omega) G) λo p=>kB (λd=>?_) (λd=>c _ _ ⟨by rw[d];simp,p⟩);refine(r.ext p).tAt Q (gA (JB _ i (Mn s t) (by omega) o) λv f=>TA (c _ _ ⟨by rw[decide_eq_true E,d,Bool.true_and,Bool.true_and],p.trans f⟩))
  rintro _ v ⟨rfl,f⟩;intro _;simp only[gx];have O:=r.ext f;refine kB (λd=>?_) (λd=>?_)
  ·exact K v f (by rw[g,d,Bool.true_or])
  rw[d,Bool.false_or]at g;refine WB (λI w'=>I=[.bool (decide (((gt ps i).kind:Int)=6)&&(!t.testBit i&&(Jp ps t).testBit i))]/\bA v w') (λJ c=>?_) ?_
  ·refine O.kAt h (BA (dA (λF=>?_) (λF=>c _ _ ⟨by rw[decide_eq_false F,Bool.false_and],bA.refl _⟩)));refine gA (JB t i (F7 s R) (by omega) v) λZ H=>TA (kB (λd=>?_) (λd=>c _ _ ⟨by rw[d];simp,H⟩));refine(O.ext H).tAt Q (gA (JB _ i (Mn s t) (by omega) Z) λS z=>c _ _ ⟨by rw[decide_eq_true F,d,Bool.true_and,Bool.true_and],H.trans z⟩)
  rintro _ S ⟨rfl,z⟩;intro _;simp only[gx];refine kB (λd=>?_) (λd=>?_)
  ·exact K S (f.trans z) (by rw[g,d])
  rw[d]at g;refine qA (by omega) ?_;refine U (i+1) _ ⟨h,(y.trans f).trans z,λj B=>?_⟩ (by omega);by_cases V:j=i
  ·rw[V];exact g
  ·exact P j (by omega)
 ·rw[<-D5,oL λj B=>P j (by omega)];exact⟨rfl,x.trans y⟩
theorem J9(k:VG ps)(o:OP w q l ps m vP vK vI vT vY vX vR)(p:t<2^ps.length)(g:i<ps.length):CB prog 537 #[.pointer (some ⟨q,0,none⟩),iv t,iv i] w (.bool ((gt ps i).modal&& !hC ps t (gt ps i))):=by
 have n:=k.le;rw[k.ask g];apply Cb;unfold dV;refine sB (decide (((gt ps i).kind:Int)=5)&& !t.testBit i||decide (((gt ps i).kind:Int)=6)&&t.testBit i) w (λJ d=>?_) (λA y=>λ_=>⟨by first|trivial|rfl,y⟩);have r:∀c,bA w c->(decide (((gt ps i).kind:Int)=5)&& !t.testBit i)=false->IA (.pointer (some ⟨q,0,none⟩)) λv=>FA 2 v λv=>kA c v λv=>wA 1 v (iv i) λx=>kA c x λv=>BB .i64 v (iv 6) λv=>eA v (cf 540 [iv t,iv i] c λv s=>J [v] s) (J [.bool false] c):=λc e u=>by
  rw[u,Bool.false_or]at d;refine(o.ext e).kAt g (BA (dA (λj=>?_) (λj=>?_)))
  ·rw[decide_eq_true j,Bool.true_and]at d;exact gA (JB t i (F7 n p) (by omega) c) λs z=>d _ (e.trans z)
  ·rw[decide_eq_false j,Bool.false_and]at d;exact d _ e
 refine o.kAt g (BA (dA (λh=>?_) (λh=>r w (bA.refl _) (by rw[decide_eq_false h,Bool.false_and]))));refine gA (JB t i (F7 n p) (by omega) w) λc e=>TA (kB (λf=>?_) (λf=>r c e (by rw[f,Bool.and_false])));rw[decide_eq_true h,f,Bool.true_and,Bool.true_or]at d;exact d _ e
theorem yW(F:VG ps)(hp:OP w q l ps m vP vK vI vT vY vX vR)(L:pA l<10)(ha:a<2^ps.length)(hb:b<2^ps.length)(hm:b<m):CB prog 642 #[.pointer (some ⟨q,0,none⟩),iv a,iv b] w (.bool (ld (pA l) ps a b)):=by
 have R:=F.le;have E:=mC L (n:=[71,76]) (k:=9) rfl (by decide);apply xe;unfold LY;refine MB (λs:Bool×Nat=>[.bool s.1,iv (s.2:Int)]) (λs w'=>s.2<=ps.length/\bA w w'/\s.1=(List.range s.2).any (λj=>(gt ps j).modal&&(hC ps b (gt ps j)&& !hC ps a (gt ps j)))/\((List.range s.2).all λj=>!(gt ps j).modal||aU (pA l) (hC ps a (gt ps j)) (hC ps b (gt ps j)) (wI ps b (gt ps j)))=true) (λs=>ps.length-s.2) (false,0) rfl ⟨Nat.zero_le _,bA.refl _,rfl,rfl⟩ ?_;rintro⟨B,i⟩ S Z ⟨U,P,M,K⟩ aa;have U:i<=ps.length:=U;have M:B=(List.range i).any (λj=>(gt ps j).modal&&(hC ps b (gt ps j)&& !hC ps a (gt ps j))):=M;have K:((List.range i).all λj=>!(gt ps j).modal||aU (pA l) (hC ps a (gt ps j)) (hC ps b (gt ps j)) (wI ps b (gt ps j)))=true:=K;have z:=hp.ext P;intro _;simp only[gx];refine z.nAt (jB (dA (λab=>?_) (λab=>?_)))
 ·have p:i<ps.length:=by omega
  have A:∀(O:Bool) (w':World),bA S w'->O=(B||((gt ps i).modal&&(hC ps b (gt ps i)&& !hC ps a (gt ps i))))->(!(gt ps i).modal||aU (pA l) (hC ps a (gt ps i)) (hC ps b (gt ps i)) (wI ps b (gt ps i)))=true->oA .i64 (iv i) (iv 1) λad=>Z [.bool O,ad] w':=λO w' T e1 e2=>by
   refine qA (by omega) ?_;exact aa (O,i+1) _ ⟨p,P.trans T,by rw[Yp,<-M];exact e1,by rw[Oi,K,e2];rfl⟩ (by show ps.length-(i+1)<ps.length-i;omega)
  refine z.kAt p (BA (z.kAt p (BA (dA (λW=>?_) (λW=>?_)))))
  ·have V:(gt ps i).modal=false:=by
    rcases BM (F.el _ (VG.mem p))with⟨f,_⟩|⟨_,f⟩
    ·exact f
    ·omega
   exact A B S (bA.refl _) (by rw[V];simp) (by rw[V];rfl)
  have G:(gt ps i).modal=true:=by
   rcases BM (F.el _ (VG.mem p))with⟨_,f⟩|⟨f,_⟩
   ·exact absurd f W
   ·exact f
  have d1:=F.dm (t:=a) p G;have d2:=F.dm (t:=b) p G;have d3:=VG.mt (t:=b) p G;refine eC (λw' _=>JB a i (F7 R ha) (by omega) w') (AG ?_);refine eC (λw' _=>JB b i (F7 R hb) (by omega) w') (AG ?_);refine z.tAt hm (eC (λw' _=>JB _ i (Mn R b) (by omega) w') (AG ?_));rw[Bool.true_beq,Bool.true_beq,Bool.true_beq,<-d1,<-d2,<-d3];intro X C;rw[G,Bool.true_and,Bool.not_true,Bool.false_or]at A;have ac:aU (pA l) (hC ps a (gt ps i)) (hC ps b (gt ps i)) (wI ps b (gt ps i))=false->ld (pA l) ps a b=false:=λf=>by
   unfold ld;rw[<-aX,Vp p (by rw[G,f];rfl),Bool.false_and]
  generalize hC ps a (gt ps i)=e at*;generalize hC ps b (gt ps i)=g at*;generalize wI ps b (gt ps i)=o at*;have N:∀w',bA X w'->aU (pA l) e g o=false->(Value.bool false= .bool (ld (pA l) ps a b)/\bA w w'):=λw' T f=>⟨by rw[ac f],(P.trans C).trans T⟩
  refine WB (λr w'=>r=[.bool (B||(g&& !e))]/\bA X w') (λJ c=>?_) ?_
  ·refine kB (λd=>c _ _ ⟨by rw[d];rfl,bA.refl _⟩) (λd=>kB (λy=>TA (c _ _ ⟨by rw[d,y];rfl,bA.refl _⟩)) (λy=>c _ _ ⟨by rw[d,y];rfl,bA.refl _⟩))
  rintro _ w5 ⟨rfl,Y⟩;intro _;simp only[gx];have h5:=z.ext (C.trans Y);refine h5.lAt (yB (b:=[75,52]) ?_);rw[mC L (n:=[75,52]) (k:=5) rfl (by decide)];refine WB (λr w'=>r=[.bool (decide (pA l=5∨pA l=9))]/\bA w5 w') (λJ c=>?_) ?_
  ·refine dA (λd=>c _ _ ⟨by rw[decide_eq_true (.inl d)],bA.refl _⟩) (λd=>yB (b:=[71,76]) ?_);rw[E];exact c _ _ ⟨by simp[d],bA.refl _⟩
  rintro _ H ⟨rfl,x7⟩;intro _;simp only[gx];have v:=Y.trans x7;refine dA (λD=>?_) (λD=>?_)
  ·have h:aU (pA l) e g o= !(e&&(!o|| !g)):=by unfold aU;rw[if_pos D]
   refine WB (λr w'=>r=[.bool (e&&(!o|| !g))]/\bA H w') (λJ c=>?_) ?_
   ·refine kB (λd=>TA (kB (λy=>c _ _ ⟨by rw[d,y];rfl,bA.refl _⟩) (λy=>TA (c _ _ ⟨by rw[d,y];rfl,bA.refl _⟩)))) (λd=>c _ _ ⟨by rw[d];rfl,bA.refl _⟩)
   rintro _ u ⟨rfl,x⟩;intro _;simp only[gx];exact kB (λd=>N u (v.trans x) (by rw[h,d];rfl)) (λd=>A _ u (C.trans (v.trans x)) rfl (by rw[h,d];rfl))
  refine yB (b:=[83,52]) ?_;rw[mC L (n:=[83,52]) (k:=6) rfl (by decide)];refine dA (λI=>?_) (λI=>?_)
  ·have h:aU (pA l) e g o= !(e&& !g):=by unfold aU;rw[if_neg D,if_pos I]
   refine WB (λr w'=>r=[.bool (e&& !g)]/\bA H w') (λJ c=>?_) ?_
   ·refine kB (λd=>TA (c _ _ ⟨by rw[d];rfl,bA.refl _⟩)) (λd=>c _ _ ⟨by rw[d];rfl,bA.refl _⟩)
   rintro _ u ⟨rfl,x⟩;intro _;simp only[gx];exact kB (λd=>N u (v.trans x) (by rw[h,d];rfl)) (λd=>A _ u (C.trans (v.trans x)) rfl (by rw[h,d];rfl))
  refine yB (b:=[83,53]) ?_;rw[mC L (n:=[83,53]) (k:=7) rfl (by decide)];refine dA (λQ=>?_) (λQ=>?_)
  ·have h:aU (pA l) e g o=(e==g):=by unfold aU;rw[if_neg D,if_neg I,if_pos Q]
   refine AG (kB (λd=>N H v (by rw[h];revert d;cases e<;>cases g<;>decide)) (λd=>A _ H (C.trans v) rfl (by rw[h];revert d;cases e<;>cases g<;>decide)))
  ·have h:aU (pA l) e g o= !(e&& !o):=by unfold aU;rw[if_neg D,if_neg I,if_neg Q]
   refine WB (λr w'=>r=[.bool (e&& !o)]/\bA H w') (λJ c=>?_) ?_
   ·refine kB (λd=>TA (c _ _ ⟨by rw[d];rfl,bA.refl _⟩)) (λd=>c _ _ ⟨by rw[d];rfl,bA.refl _⟩)
   rintro _ u ⟨rfl,x⟩;intro _;simp only[gx];exact kB (λd=>N u (v.trans x) (by rw[h,d];rfl)) (λd=>A _ u (C.trans (v.trans x)) rfl (by rw[h,d];rfl))
 ·obtain rfl:i=ps.length:=by omega
  have hv:ld (pA l) ps a b=(!(pA l==9)||B):=by
   unfold ld;rw[<-aX,K,Bool.true_and,<-D5,<-M]
  rw[hv];refine sB (!(pA l==9)||B) S (λJ c=>?_) (λw4 x4=>λ_=>⟨by first|trivial|rfl,P.trans x4⟩);refine z.lAt (j5 (b:=[71,76]) (dA (λf=>?_) (λf=>?_)))
  ·rw[decide_eq_false f,eq_comm,decide_eq_false_iff_not]at E;rw[show(pA l==9)=false by simpa using E,Bool.not_false,Bool.true_or]at c;exact c _ (bA.refl _)
  ·rw[decide_eq_true (Classical.not_not.1 f),eq_comm,decide_eq_true_eq]at E;rw[E]at c;exact c _ (bA.refl _)
theorem yT(j:VG ps)(s:OP w q l ps m vP vK vI vT vY vX vR)(h:pA l<10)(p:a<2^ps.length)(r:b<2^ps.length)(v:a<m)(u:b<m):CB prog 539 #[.pointer (some ⟨q,0,none⟩),iv a,iv b] w (.bool (GW (pA l) ps a b)):=by
 have d:=mC h (n:=[75,66]) (k:=8) rfl (by decide);rw[Kr];apply Fb;unfold gV;refine sB (ld (pA l) ps a b&&(!(pA l==8)||ld (pA l) ps b a)) w (λJ c=>?_) (λA y=>λ_=>⟨by first|trivial|rfl,y⟩);refine gA (yW j s h p r u) λB e=>kB (λf=>?_) (λf=>?_)
 ·rw[f,Bool.true_and]at c;have o:=s.ext e;refine o.lAt (j5 (b:=[75,66]) (dA (λg=>?_) (λg=>?_)))
  ·rw[decide_eq_false g,eq_comm,decide_eq_false_iff_not]at d;rw[show(pA l==8)=false by simpa using d,Bool.not_false,Bool.true_or]at c;exact c _ e
  ·rw[decide_eq_true (Classical.not_not.1 g),eq_comm,decide_eq_true_eq]at d;rw[show(pA l==8)=true by rw[d];rfl,Bool.not_true,Bool.false_or]at c;exact gA (yW j o h r p v) λx z=>c x (e.trans z)
 ·rw[f,Bool.false_and]at c;exact c _ e
theorem l6(h:VG ps)(f:OP w q l ps m vP vK vI vT vY vX vR)(y:pA l<10)(F:a<2^ps.length)(x:b<2^ps.length)(G:a<m)(z:b<m)(p:i<ps.length)(A:(gt ps i).modal=true):CB prog 538 #[.pointer (some ⟨q,0,none⟩),iv a,iv b,iv i] w (.bool (EG (pA l) ps (gt ps i) a b)):=by
 have v:=h.le;have e:=mC y (n:=[71,76]) (k:=9) rfl (by decide);have C:=h.dm (t:=b) p A;have D:=VG.mt (t:=b) p A;apply B8;unfold GS;unfold EG;refine f.kAt p (BA ?_);refine WB (λL w'=>L=[.bool (wI ps b (gt ps i)|| !GW (pA l) ps a b)]/\bA w w') (λJ c=>?_) ?_
 ·refine f.tAt z (gA (JB _ i (Mn v b) (by omega) w) λM s=>AG ?_);rw[Bool.true_beq,<-D];refine kB (λd=>c _ _ ⟨by rw[d];rfl,s⟩) (λd=>?_);exact gA (yT h (f.ext s) y F x G z) λN H=>TA (c _ _ ⟨by rw[d];rfl,s.trans H⟩)
 rintro _ B ⟨rfl,r⟩;intro _;simp only[gx];have E:=f.ext r;refine kB (λd=>⟨?_,r⟩) (λd=>?_)
 ·cases j:wI ps b (gt ps i)<;>cases o:GW (pA l) ps a b<;>simp[j,o]at d⊢
 have u:wI ps b (gt ps i)=false/\GW (pA l) ps a b=true:=by
  cases j:wI ps b (gt ps i)<;>cases o:GW (pA l) ps a b<;>simp[j,o]at d⊢
 rw[u.1,u.2,Bool.true_and,Bool.not_false,Bool.true_and];refine sB (!(pA l==9)||hC ps b (gt ps i)) B (λJ c=>?_) (λO I=>λ_=>⟨by first|trivial|rfl,r.trans I⟩);refine E.lAt (j5 (b:=[71,76]) (dA (λg=>?_) (λg=>?_)))
 ·rw[decide_eq_false g,eq_comm,decide_eq_false_iff_not]at e;rw[show(pA l==9)=false by simpa using e,Bool.not_false,Bool.true_or]at c;exact c _ (bA.refl _)
 ·rw[decide_eq_true (Classical.not_not.1 g),eq_comm,decide_eq_true_eq]at e;refine gA (JB b i (F7 v x) (by omega) B) λP K=>AG ?_;rw[Bool.true_beq,<-C];rw[e]at c;exact c _ K
theorem m6{T:List Nat}(B:VG ps)(r:OP w q l ps m vP vK vI vT vY vX vR)(O:pA l<10)(C:jL w v T)(E:∀u∈T,u<2^ps.length/\u<m)(Q:t<2^ps.length)(hm:t<m):CB prog 489 #[.pointer (some ⟨q,0,none⟩),iv t,v] w (.bool (rJ (pA l) ps T t)):=by
 have h8:=B.le;have A:=mC O (n:=[68]) (k:=3) rfl (by decide);have ai:=C.len;apply C8;unfold HS;unfold rJ;rw[<-aX];have X:∀{k:Nat} {w':World} {K:Value->Prop},bA w w'->k<T.length->(∀u,u∈T->gt T k=u->K (iv u))->wA 1 v (iv k) λp=>kA w' p K:=λ{k w' K} ag c hK=>by
  refine tE (Sl.ext C ag) c λp r=>DD r ?_;have:T.getD k 0=gt T k:=by rw[LA c];simp[List.getD_eq_getElem?_getD,c]
  rw[this];exact hK _ (by rw[LA c];exact List.getElem_mem c) rfl
 have W:∀{p:Nat->Bool} {k:Nat},k<T.length->(T.take (k+1)).any p=((T.take k).any p||p (gt T k)):=λ{p k} c=>by
  rw[List.take_succ_eq_append_getElem c,List.any_append,LA c];simp
 refine MB (λi:Nat=>[iv i]) (λi w'=>i<=ps.length/\bA w w'/\((List.range i).all λR=>!(gt ps R).modal||(hC ps t (gt ps R)||T.any λu=>EG (pA l) ps (gt ps R) t u))=true) (λi=>ps.length-i) 0 rfl ⟨Nat.zero_le _,bA.refl _,rfl⟩ ?_;rintro i w2 Kn ⟨hi,x,aa⟩ ad;have H:=r.ext x;intro _;simp only[gx];refine H.nAt (jB (dA (λae=>?_) (λae=>?_)))
 ·have D:i<ps.length:=by omega
  have F:∀w',bA w2 w'->(!(gt ps i).modal||(hC ps t (gt ps i)||T.any λu=>EG (pA l) ps (gt ps i) t u))=true->oA .i64 (iv i) (iv 1) λaf=>Kn [af] w':=λw' x' j=>by
   refine qA (by omega) ?_;exact ad (i+1) _ ⟨D,x.trans x',by rw[Oi,aa,j];rfl⟩ (by omega)
  refine gA (J9 B H Q D) λw3 U=>TA (kB (λd=>?_) (λd=>?_))
  ·refine F w3 U ?_;cases I:(gt ps i).modal<;>cases J:hC ps t (gt ps i)<;>simp[I,J]at d⊢
  have o:(gt ps i).modal=true/\hC ps t (gt ps i)=false:=by
   cases I:(gt ps i).modal<;>cases J:hC ps t (gt ps i)<;>simp[I,J]at d⊢
  rw[o.1,o.2,Bool.not_true,Bool.false_or,Bool.false_or]at F;refine MB (λs:Bool×Nat=>[.bool s.1,iv (s.2:Int)]) (λs w'=>s.2<=T.length/\bA w3 w'/\s.1=(T.take s.2).any λu=>EG (pA l) ps (gt ps i) t u) (λs=>T.length-s.2) (false,0) rfl ⟨Nat.zero_le _,bA.refl _,by simp⟩ ?_;rintro⟨S,k⟩ w5 K2 ⟨c,V,g⟩ L;have c:k<=T.length:=c;have g:S=(T.take k).any λu=>EG (pA l) ps (gt ps i) t u:=g;have z:=(x.trans U).trans V;intro _;refine WB (λxs w'=>xs=[.bool (decide (k<T.length)&& !S)]/\bA w5 w') (λah Y=>?_) ?_
  ·simp only[gx];refine WC (Sl.ext C z) (jB (dA (λd=>?_) (λd=>?_)))
   ·exact TA (Y _ _ ⟨by rw[decide_eq_true (show k<T.length by omega),Bool.true_and],bA.refl _⟩)
   ·exact Y _ _ ⟨by rw[decide_eq_false (show¬k<T.length by omega),Bool.false_and],bA.refl _⟩
  rintro _ w7 ⟨rfl,y⟩;intro _;simp only[gx];refine kB (λd=>?_) (λd=>?_)
  ·rw[Bool.and_eq_true,decide_eq_true_eq,Bool.not_eq_true']at d;refine X (z.trans y) d.1 λu f M=>?_;refine gA (l6 B (r.ext (z.trans y)) O Q (E u f).1 hm (E u f).2 D o.1) λw8 x8=>?_;refine qA (by omega) ?_;refine L (_,k+1) _ ⟨d.1,(V.trans y).trans x8,?_⟩ (by show T.length-(k+1)<T.length-k;omega);show EG (pA l) ps (gt ps i) t u=_;rw[W d.1,<-g,d.2,M,Bool.false_or]
  ·have Z:(T.any λu=>EG (pA l) ps (gt ps i) t u)=S:=by
    rcases Nat.lt_or_ge k T.length with G|G
    ·rw[decide_eq_true G,Bool.true_and,Bool.not_eq_false']at d;rw[d]at g;obtain⟨u,f,hx⟩:=List.any_eq_true.1 g.symm;rw[d];exact List.any_eq_true.2 ⟨u,List.mem_of_mem_take f,hx⟩
    ·rw[g,List.take_of_length_le G]
   rw[Z]at F;refine TA (kB (λe=>?_) (λe=>?_))
   ·rw[Bool.not_eq_true']at e;rw[Vp D (by rw[o.1,o.2,Z,e];rfl),Bool.false_and];exact⟨rfl,z.trans y⟩
   ·rw[Bool.not_eq_false']at e;exact F w7 ((U.trans V).trans y) e
 ·obtain rfl:i=ps.length:=by omega
  rw[aa,Bool.true_and];refine H.lAt (j5 (b:=[68]) (dA (λj=>?_) (λj=>?_)))
  ·rw[decide_eq_false j,eq_comm,decide_eq_false_iff_not]at A;rw[show(pA l==3)=false by simpa using A];exact⟨rfl,x⟩
  rw[decide_eq_true (Classical.not_not.1 j),eq_comm,decide_eq_true_eq]at A;rw[show(pA l==3)=true by simpa using A,Bool.not_true,Bool.false_or];refine MB (λk:Nat=>[iv k]) (λk w'=>k<=T.length/\bA w2 w'/\((T.take k).any λu=>GW (pA l) ps t u)=false) (λk=>T.length-k) 0 rfl ⟨Nat.zero_le _,bA.refl _,by simp⟩ ?_;rintro k aj K2 ⟨c,ab,P⟩ L;have h:=x.trans ab;intro _;simp only[gx];refine WC (Sl.ext C h) (jB (dA (λd=>?_) (λd=>?_)))
  ·have N:k<T.length:=by omega
   refine X h N λu f M=>?_;refine gA (yT B (r.ext h) O Q (E u f).1 hm (E u f).2) λak ac=>kB (λe=>?_) (λe=>?_)
   ·rw[show(T.any λu=>GW (pA l) ps t u)=true from List.any_eq_true.2 ⟨u,f,e⟩];exact⟨rfl,h.trans ac⟩
   ·refine qA (by omega) ?_;refine L (k+1) _ ⟨N,ab.trans ac,?_⟩ (by omega);rw[W N,P,M,e];rfl
  ·rw[List.take_of_length_le (by omega)]at P;rw[P];exact⟨rfl,h⟩
end
section
variable{ps:List Fm}{w w':World}{q m:Nat}{l:jA}{vp vn vr va:Value}{AL:List Bool}
theorem Hg.st(h:Hg m w q l ps vp vn vr va AL)(x:Ch (λc=>va.ownBlock=some c) w w')(z:Ow m UA w' va (N.map Value.bool))(v:N.length=2^ps.length):Hg m w' q l ps vp vn vr va N:=by
 have A:∀{k i n:Nat} {e:TypeId} {u:Value} {j:List Value},dB k i e w u n j->e≠UA->dB k i e w' u n j:=λg y=>dB.ch g x λc d a=>by
  obtain⟨o,t⟩:=Ow.ty h.al a;exact dB.ne_blk g (show GA UA w c o.toList by unfold GA;rw[t]) y d
 obtain⟨L,r,s,b⟩:=h.ty.nd.ex;exact⟨⟨h.ty.blk.ch x λa=>h.al.ne_blk h.ty.blk (by decide) a,L,r,A s (by decide),λp f=>⟨(b p f).1.ch x λc d a=>by
  have B:=(b p f).2 c d;have C:=(h.al.blk c a).1;omega,(b p f).2⟩⟩,z,v⟩
theorem OZ{b:Nat}{e:TypeId}{cs:List Value}(aa:bA a w)(hm:a.heap.size<=m)(h:Hg m w q l ps vp vn vr va AL)(hl:pA l<10)(S:ps.length<=8)(hr:Ow 0 UA w vr (N.map Value.bool))(ai:∀r,vr.ownBlock=some r->va.ownBlock=some r->False)(hb:GA e w b cs)(ae:e≠UA):
  nA prog 295 #[.pointer (some ⟨q,0,none⟩)] w λ_ w'=>bA a w'/\GA e w' b cs/\ ∃y,Hg m w' q l ps vp vn vr va y/\Ow 0 UA w' vr (N.map Value.bool)/\(∀t,t<2^ps.length->gt y t=true->LW (pA l) ps y t=true)/\(∀t,t<2^ps.length->gt y t=true->gt AL t=true)/\Mx (pA l) ps AL y:=by
 have ak:2^ps.length<=2^8:=Nat.pow_le_pow_right (by decide) S;apply mR;unfold II;refine MB (λs:Bool×List Bool=>[.bool s.1]) (λs w'=>(bA a w'/\GA e w' b cs)/\Hg m w' q l ps vp vn vr va s.2/\(Ow 0 UA w' vr (N.map Value.bool)/\Mx (pA l) ps AL s.2)/\(s.1=false-> ∀t,t<2^ps.length->gt s.2 t=true->LW (pA l) ps s.2 t=true)/\ ∀t,t<2^ps.length->gt s.2 t=true->gt AL t=true) (λs=>2*d5 s.2+(if s.1 then 1 else 0)) (true,AL) rfl ⟨⟨aa,hb⟩,h,⟨hr,λ_ _ h=>h⟩,(λh=>by cases h),λ_ _ h=>h⟩ ?_;rintro⟨ch,c⟩ w2 Kn ⟨⟨x2,V⟩,z,⟨Y,H⟩,K,G⟩ ac;have H:Mx (pA l) ps AL c:=H;have z:Hg m w2 q l ps vp vn vr va c:=z;have K:ch=false-> ∀t,t<2^ps.length->gt c t=true->LW (pA l) ps c t=true:=K;have G:∀t,t<2^ps.length->gt c t=true->gt AL t=true:=G;intro _;simp only[gx];refine kB (λf=>?_) (λf=>⟨x2,V,c,z,Y,K f,G,H⟩);subst f;refine bB (pB (mA z.ty.blk (i:=3) (v:=iv ((2^ps.length:Nat):Int)) rfl ?_));refine MB (λs:Bool×List Bool×Nat=>[.bool s.1,iv (s.2.2:Int)]) (λs w'=>s.2.2<=2^ps.length/\(bA a w'/\GA e w' b cs)/\Hg m w' q l ps vp vn vr va s.2.1/\(Ow 0 UA w' vr (N.map Value.bool)/\Mx (pA l) ps AL s.2.1)/\(∀t,t<2^ps.length->gt s.2.1 t=true->gt c t=true)/\(s.1=false->s.2.1=c/\ ∀j,j<s.2.2->gt c j=true->LW (pA l) ps c j=true)/\(s.1=true->d5 s.2.1<d5 c)) (λs=>2^ps.length-s.2.2) (false,c,0) rfl ⟨Nat.zero_le _,⟨x2,V⟩,z,⟨Y,H⟩,λ_ _ h=>h,λ_=>⟨rfl,λj F=>absurd F (Nat.not_lt_zero j)⟩,λh=>by cases h⟩ ?_;rintro⟨n,d,i⟩ w4 K2 ⟨W,⟨P,D⟩,o,⟨O,C⟩,B,x,A⟩ U;have C:Mx (pA l) ps AL d:=C;have W:i<=2^ps.length:=W;have o:Hg m w4 q l ps vp vn vr va d:=o;have B:∀t,t<2^ps.length->gt d t=true->gt c t=true:=B;have x:n=false->d=c/\ ∀j,j<i->gt c j=true->LW (pA l) ps c j=true:=x;have A:n=true->d5 d<d5 c:=A;have ag:=o.len;intro _;simp only[gx];refine jB (dA (λah=>?_) (λah=>?_))
 rotate_left
 ·have:i=2^ps.length:=by omega
  subst this;refine ac (n,d) _ ⟨⟨P,D⟩,o,⟨O,C⟩,λf=>?_,λt I h=>G t I (B t I h)⟩ ?_
  ·have f:n=false:=f;obtain⟨e,h⟩:=x f;show∀t,t<2^ps.length->gt d t=true->LW (pA l) ps d t=true;rw[e];exact h
  ·show 2*d5 d+(if n then 1 else 0)<2*d5 c+(if true then 1 else 0);cases n with
   |true=>
    have:=A rfl;simp;omega
   |false=>
    rw[(x rfl).1];simp
 have L:i<2^ps.length:=by omega
 have ad:∀{w':World} {Q:Value->Prop},Hg m w' q l ps vp vn vr va d->Q (.bool (gt d i))->wA 1 va (iv i) λZ=>kA w' Z Q:=λh hK=>by
  refine pP (j:=(i:Int)) h.al.sl (by omega) (by rw[List.length_map];omega) λZ X=>?_;rw[Int.toNat_natCast,QI (by omega)]at X;exact DD X hK
 refine WB (λxs w'=>xs=[.bool (gt d i&& !LW (pA l) ps d i)]/\bA w4 w') (λaj T=>?_) ?_
 ·refine bB (pB (mA o.ty.blk (i:=5) (v:=va) rfl (ad o (kB (λg=>?_) (λg=>?_)))))
  ·exact gA (T5 o hl S L) λw7 x7=>TA (T _ _ ⟨by rw[g,Bool.true_and],x7⟩)
  ·exact T _ _ ⟨by rw[g,Bool.false_and],bA.refl _⟩
 rintro _ w6 ⟨rfl,p⟩;intro _;simp only[gx];have u:=o.ext p;refine kB (λg=>?_) (λg=>?_)
 ·rw[Bool.and_eq_true,Bool.not_eq_true']at g;refine bB (pB (mA u.ty.blk (i:=5) (v:=va) rfl ?_));refine xt u.al rfl (by rw[List.length_map];omega) rfl λw8 M E=>?_;have M:Ow m UA w8 va ((d.set i false).map Value.bool):=by rw[List.map_set];exact M
  have ab:=u.st E M (by rw[List.length_set];exact ag);refine qA (by omega) ?_;refine U (true,d.set i false,i+1) _ ⟨L,⟨(P.trans p).thenCh E λr f=>Nat.le_trans hm (u.al.blk r f).1,(D.ext p).ch E λJ=>u.al.ne_blk (D.ext p) (λe'=>ae e'.symm) J⟩,ab,⟨(O.ext p).ch E λr f J=>ai r f J,C.drop (by omega) g.2⟩,λt I k=>?_,(λh=>by cases h),λ_=>?_⟩ (by show 2^ps.length-(i+1)<2^ps.length-i;omega)
  ·have k:gt (d.set i false) t=true:=k;rw[p2 (by omega)]at k;split at k
   ·cases k
   ·exact B t I k
  ·have R:=ij (show i<d.length by omega) g.1;show d5 (d.set i false)<d5 c;cases n with
   |true=>have:=A rfl;omega
   |false=>rw[(x rfl).1]at R⊢;exact R
 ·refine qA (by omega) ?_;refine U (n,d,i+1) _ ⟨L,⟨P.trans p,D.ext p⟩,u,⟨O.ext p,C⟩,B,λf=>?_,A⟩ (by show 2^ps.length-(i+1)<2^ps.length-i;omega);obtain⟨e,h⟩:=x f;refine⟨e,λj F k=>?_⟩;have F:j<i+1:=F;by_cases af:j=i
  ·rw[af]at k⊢;rw[e,k,Bool.true_and,Bool.not_eq_false']at g;exact g
  ·exact h j (by omega) k
theorem S5(h:Hg m w q l ps vp vn vr va AL)(k:ps.length<=8)(p:Ow 0 UA w vr (N.map Value.bool))(E:N.length=2^ps.length):
  nA prog 173 #[.pointer (some ⟨q,0,none⟩)] w λu w'=>w'=w/\ ∃z:Int,u=iv z/\(z<0↔ ∀t,t<2^ps.length->gt AL t=true->gt N t=false):=by
 have B:2^ps.length<=2^8:=Nat.pow_le_pow_right (by decide) k;have D:=h.len;apply WT;unfold NJ;refine bB (pB (mA h.ty.blk (i:=3) (v:=iv ((2^ps.length:Nat):Int)) rfl ?_));refine MB (λi:Nat=>[iv i]) (λi w'=>i<=2^ps.length/\w'=w/\ ∀t,t<i->gt AL t=true->gt N t=false) (λi=>2^ps.length-i) 0 rfl ⟨Nat.zero_le _,rfl,λt b=>absurd b (Nat.not_lt_zero t)⟩ ?_;rintro i x A ⟨C,rfl,e⟩ n;intro _;simp only[gx];refine jB (dA (λo=>?_) (λo=>⟨by first|trivial|rfl,_,rfl,λ_ t b=>e t (by omega),λ_=>by decide⟩));have g:i<2^ps.length:=by omega
 refine WB (λy w'=>y=[.bool (gt AL i&&gt N i)]/\w'=x) (λJ c=>?_) ?_
 ·refine bB (pB (mA h.ty.blk (i:=5) (v:=va) rfl ?_));refine pP (j:=(i:Int)) h.al.sl (by omega) (by rw[List.length_map];omega) λs a=>?_;rw[Int.toNat_natCast,QI (by omega)]at a;refine DD a (kB (λd=>?_) (λd=>c _ _ ⟨by rw[d,Bool.false_and],rfl⟩));refine bB (pB (mA h.ty.blk (i:=4) (v:=vr) rfl ?_));refine pP (j:=(i:Int)) p.sl (by omega) (by rw[List.length_map];omega) λs a=>?_;rw[Int.toNat_natCast,QI (by omega)]at a;exact DD a (c _ _ ⟨by rw[d,Bool.true_and],rfl⟩)
 rintro _ F ⟨rfl,rfl⟩;intro _;simp only[gx];refine kB (λd=>?_) (λd=>?_)
 ·rw[Bool.and_eq_true]at d;refine⟨by first|trivial|rfl,_,rfl,λh=>by omega,λh=>?_⟩;have:=h i g d.1;rw[d.2]at this;cases this
 ·refine qA (by omega) ?_;refine n (i+1) _ ⟨g,rfl,λt b f=>?_⟩ (by omega);by_cases r:t=i
  ·subst r;rw[f,Bool.true_and]at d;exact d
  ·exact e t (by omega) f
end
theorem c5:∀{L:List (Value×Fm)} {j:Nat},j<L.length-> ∀k,k<2->(NH L)[j*2+k]?=([sv (gt L j).2.body,(gt L j).1]:List Value)[k]?
 |[],j,h,_,_=>absurd h (Nat.not_lt_zero j)
 |x::R,0,_,k,hk=>by
  rw[show NH (x::R)=[sv x.2.body,x.1]++NH R by simp[NH],Nat.zero_mul,Nat.zero_add,List.getElem?_append_left (by simp;omega)];rfl
 |x::R,j+1,h,k,hk=>by
  have:=c5 (L:=R) (j:=j) (by simpa using h) k hk;rw[show NH (x::R)=[sv x.2.body,x.1]++NH R by simp[NH],show(j+1)*2+k=j*2+k+2 by omega,List.getElem?_append_right (by simp)];simp only[List.length_cons,List.length_nil,Nat.add_sub_cancel];exact this
theorem f9{a:List Fm}{r:Fm}(o:Dg w U a)(D:GA XA w x [v])(E:oC w v r)(y:r∈a)(K:a.length<=8):CB prog 451 #[U,.func (.func 452) #[] #[.pointer (some ⟨x,0,none⟩)]] w (iv ((a.idxOf r:Nat):Int)):=by
 obtain⟨L,hL,n,u⟩:=o.ex;have M:L.length=a.length:=by rw[<-hL,List.length_map]
 have l:∀j (b:j<L.length),a[j]?=some (gt L j).2:=λj b=>by
  rw[<-hL,List.getElem?_map,List.getElem?_eq_getElem b,Option.map_some,LA b]
 apply lE;unfold uC;refine VB n.sl ?_;refine MB (λi:Nat=>[iv i]) (λi F=>i<=L.length/\bA w F/\ ∀j,j<i-> ¬(gt L j).2=r) (λi=>L.length-i) 0 rfl ⟨Nat.zero_le _,bA.refl _,λj b=>absurd b (Nat.not_lt_zero j)⟩ ?_;rintro i G J ⟨N,e,k⟩ t;intro _;simp only[gx];refine jB (dA (λm=>?_) (λm=>?_))
 ·have h:i<L.length:=by omega
  have C:gt L i∈L:=by rw[LA h];exact List.getElem_mem _
  refine b9 (j:=i) (cs:=#[sv (gt L i).2.body,(gt L i).1]) (dB.ext n e).sl rfl h rfl (λj b=>?_) ?_
  ·rw[c5 h j b];simp
  have d:CB prog 452 #[.agg #[sv (gt L i).2.body,(gt L i).1],.pointer (some ⟨x,0,none⟩)] G (.bool (decide ((gt L i).2=r))):=by
   apply rR;unfold MI;refine iC λQ H P c s=>?_;refine pB (mA s (i:=1) (v:=(gt L i).1) rfl (mA (D.ext (e.trans c)) (i:=0) (v:=v) rfl ?_));refine gA (Ue (oC.rawS (dB.ext (u _ C) (e.trans c)).sl) (oC.rawS (rB.ext E (e.trans c)))) λR I=>⟨?_,c.trans I⟩
   rw[wv]
  refine Kl ?_;refine nA.mono d ?_;rintro _ H ⟨rfl,c⟩;refine dA (λf=>?_) (λf=>?_)
  ·refine⟨?_,e.trans c⟩;have:a.idxOf r=i:=by
    have d:a[i]?=some r:=by rw[l i h,f]
    have B:i<a.length:=by omega
    rw[List.getElem?_eq_getElem B]at d;have d:=Option.some.inj d;have O:a.idxOf r<=i:=Nat.le_of_not_lt λz=>by
     have:=List.not_of_lt_findIdx (p:=(· ==r)) (xs:=a) (i:=i) z;rw[d]at this;simp at this
    by_cases m:a.idxOf r<i
    ·exfalso;have q:=k _ m;have g:=l (a.idxOf r) (by omega);rw[List.getElem?_eq_getElem (by omega),List.getElem_idxOf]at g;exact q (Option.some.inj g).symm
    ·omega
   rw[this]
  ·refine qA (by omega) ?_;refine t (i+1) _ ⟨h,e.trans c,λj b=>?_⟩ (by omega);by_cases A:j=i
   ·rw[A];exact f
   ·exact k j (by omega)
 ·exfalso;obtain⟨j,b,f⟩:=List.getElem_of_mem y;have:=k j (by omega);have g:=l j (by omega);rw[List.getElem?_eq_getElem b,f]at g;exact this (Option.some.inj g).symm
theorem rT{e:List Fm}{l:jA}{T S V R:Value}(N:e.length<=8)(ht:n<2^e.length):∀(f:Fm) {v:Value} {w:World},GA 304 w x [sv l,U,T,S,V,R]->Dg w U e->oC w v f->(∀g∈f.subs,g.elem=true->g∈e)->f.size<=1000->
  CB prog 290 #[.pointer (some ⟨x,0,none⟩),v,iv n] w (.bool (tv e n f)):=by
 have aa:2^e.length<=2^8:=Nat.pow_le_pow_right (by decide) N;have K:∀{f:Fm} {v:Value} {w:World},GA 304 w x [sv l,U,T,S,V,R]->Dg w U e->oC w v f->f∈e-> ¬(f.kind:Int)=1-> ¬(f.kind:Int)=2-> ¬(f.kind:Int)=3-> ¬(f.kind:Int)=4->tv e n f=n.testBit (e.idxOf f)->CB prog 290 #[.pointer (some ⟨x,0,none⟩),v,iv n] w (.bool (tv e n f)):=λ{f v w} k m d hm k1 k2 k3 k4 hv=>by
  have hp:=f.size_pos;apply FD;unfold LC;refine p7 (rB.cellZ d) λJ A I c p=>?_;refine mA p (i:=0) (v:=v) rfl (eB (j:=0) (f:=0) (rB.ext d c) rfl hp (by decide) (rA d).1 ?_);refine BA (cA (decide_eq_false k1) (BA (cA (decide_eq_false k2) (BA (cA (decide_eq_false k3) (BA (cA (decide_eq_false k4) ?_)))))));refine bB (pB (mA (k.ext c) (i:=1) (v:=U) rfl ?_));refine gA (f9 (Dg.ext m c) p (rB.ext d c) hm N) λw2 x2=>?_;have ab:e.idxOf f<=8:=by have:=List.idxOf_le_length (a:=f) (l:=e);omega
  refine gA (oI n (e.idxOf f) (by omega) (by omega) w2) λL B=>⟨?_,(c.trans x2).trans B⟩
  rw[hv]
 intro f
 induction f with
 |var ac=>intro v w k m d q C;exact K k m d (q _ (Fm.subs_self _) rfl) (by show¬(0:Int)=1;decide) (by show¬(0:Int)=2;decide) (by show¬(0:Int)=3;decide) (by show¬(0:Int)=4;decide) rfl
 |box a _=>intro v w k m d q C;exact K k m d (q _ (Fm.subs_self _) rfl) (by show¬(5:Int)=1;decide) (by show¬(5:Int)=2;decide) (by show¬(5:Int)=3;decide) (by show¬(5:Int)=4;decide) rfl
 |dia a _=>intro v w k m d q C;exact K k m d (q _ (Fm.subs_self _) rfl) (by show¬(6:Int)=1;decide) (by show¬(6:Int)=2;decide) (by show¬(6:Int)=3;decide) (by show¬(6:Int)=4;decide) rfl
 |fls=>
  intro v w k m d q C;apply FD;unfold LC;refine p7 (rB.cellZ d) λJ A I c p=>?_;refine mA p (i:=0) (v:=v) rfl (eB (j:=0) (f:=0) (rB.ext d c) rfl (by decide) (by decide) (rA d).1 ?_);rw[show((Fm.fls.kind:Nat):Int)=1 from rfl];exact BA (iA (by decide) ⟨rfl,c⟩)
 |and a b iha ihb=>
  intro v w k m d q C;have O:(Fm.and a b).size=1+a.size+b.size:=rfl;have F:∀g∈a.subs,g.elem=true->g∈e:=λg u=>q g (List.mem_cons_of_mem _ (List.mem_append_left _ u));have G:∀g∈b.subs,g.elem=true->g∈e:=λg u=>q g (List.mem_cons_of_mem _ (List.mem_append_right _ u));apply FD;unfold LC;refine p7 (rB.cellZ d) λJ A I c p=>?_;refine mA p (i:=0) (v:=v) rfl (eB (j:=0) (f:=0) (rB.ext d c) rfl (by omega) (by decide) (rA d).1 ?_);rw[show(((Fm.and a b).kind:Nat):Int)=2 from rfl];refine BA (cA (by decide) (BA (iA (by decide) ?_)));refine sB (tv e n a&&tv e n b) A (λM r=>?_) (λL B=>λ_=>⟨by first|trivial|rfl,c.trans B⟩);refine mA p (i:=0) (v:=v) rfl ?_;refine aA ((OA (rB.ext d c) (g:=a) (gs:=[b]) rfl (by omega)).mono ?_);rintro P W ⟨s,D⟩;refine gA (iha (k.ext (c.trans s)) (Dg.ext m (c.trans s)) D F (by omega)) λX z=>kB (λt=>?_) (λt=>?_)
  ·rw[t,Bool.true_and]at r;have o:=s.trans z;refine mA (p.ext o) (i:=0) (v:=v) rfl ?_;refine aA ((gB (rB.ext d (c.trans o)) (g:=a) (h:=b) rfl (by omega)).mono ?_);rintro Q Y ⟨y,E⟩;exact gA (ihb (k.ext ((c.trans o).trans y)) (Dg.ext m ((c.trans o).trans y)) E G (by omega)) λZ H=>r _ ((o.trans y).trans H)
  ·rw[t,Bool.false_and]at r;exact r _ (s.trans z)
 |or a b iha ihb=>
  intro v w k m d q C;have O:(Fm.or a b).size=1+a.size+b.size:=rfl;have F:∀g∈a.subs,g.elem=true->g∈e:=λg u=>q g (List.mem_cons_of_mem _ (List.mem_append_left _ u));have G:∀g∈b.subs,g.elem=true->g∈e:=λg u=>q g (List.mem_cons_of_mem _ (List.mem_append_right _ u));apply FD;unfold LC;refine p7 (rB.cellZ d) λJ A I c p=>?_;refine mA p (i:=0) (v:=v) rfl (eB (j:=0) (f:=0) (rB.ext d c) rfl (by omega) (by decide) (rA d).1 ?_);rw[show(((Fm.or a b).kind:Nat):Int)=3 from rfl];refine BA (cA (by decide) (BA (cA (by decide) (BA (iA (by decide) ?_)))));refine sB (tv e n a||tv e n b) A (λM r=>?_) (λL B=>λ_=>⟨by first|trivial|rfl,c.trans B⟩);refine mA p (i:=0) (v:=v) rfl ?_;refine aA ((OA (rB.ext d c) (g:=a) (gs:=[b]) rfl (by omega)).mono ?_);rintro P W ⟨s,D⟩;refine gA (iha (k.ext (c.trans s)) (Dg.ext m (c.trans s)) D F (by omega)) λX z=>kB (λt=>?_) (λt=>?_)
  ·rw[t,Bool.true_or]at r;exact r _ (s.trans z)
  ·rw[t,Bool.false_or]at r;have o:=s.trans z;refine mA (p.ext o) (i:=0) (v:=v) rfl ?_;refine aA ((gB (rB.ext d (c.trans o)) (g:=a) (h:=b) rfl (by omega)).mono ?_);rintro Q Y ⟨y,E⟩;exact gA (ihb (k.ext ((c.trans o).trans y)) (Dg.ext m ((c.trans o).trans y)) E G (by omega)) λZ H=>r _ ((o.trans y).trans H)
 |imp a b iha ihb=>
  intro v w k m d q C;have O:(Fm.imp a b).size=1+a.size+b.size:=rfl;have F:∀g∈a.subs,g.elem=true->g∈e:=λg u=>q g (List.mem_cons_of_mem _ (List.mem_append_left _ u));have G:∀g∈b.subs,g.elem=true->g∈e:=λg u=>q g (List.mem_cons_of_mem _ (List.mem_append_right _ u));apply FD;unfold LC;refine p7 (rB.cellZ d) λJ A I c p=>?_;refine mA p (i:=0) (v:=v) rfl (eB (j:=0) (f:=0) (rB.ext d c) rfl (by omega) (by decide) (rA d).1 ?_);rw[show(((Fm.imp a b).kind:Nat):Int)=4 from rfl];refine BA (cA (by decide) (BA (cA (by decide) (BA (cA (by decide) (BA (iA (by decide) ?_)))))));refine sB (!tv e n a||tv e n b) A (λM r=>?_) (λL B=>λ_=>⟨by first|trivial|rfl,c.trans B⟩);refine mA p (i:=0) (v:=v) rfl ?_;refine aA ((OA (rB.ext d c) (g:=a) (gs:=[b]) rfl (by omega)).mono ?_);rintro P W ⟨s,D⟩;refine gA (iha (k.ext (c.trans s)) (Dg.ext m (c.trans s)) D F (by omega)) λX z=>TA (kB (λt=>?_) (λt=>?_))
  ·rw[t,Bool.true_or]at r;exact r _ (s.trans z)
  ·rw[t,Bool.false_or]at r;have o:=s.trans z;refine mA (p.ext o) (i:=0) (v:=v) rfl ?_;refine aA ((gB (rB.ext d (c.trans o)) (g:=a) (h:=b) rfl (by omega)).mono ?_);rintro Q Y ⟨y,E⟩;exact gA (ihb (k.ext ((c.trans o).trans y)) (Dg.ext m ((c.trans o).trans y)) E G (by omega)) λZ H=>r _ ((o.trans y).trans H)
theorem Fm.modal_kind(e:Fm):e.modal=decide (e.kind=5∨e.kind=6):=by cases e<;>rfl
theorem Fm.subs_trans:∀{f b:Fm},b∈f.subs-> ∀g∈b.subs,g∈f.subs
 | .var _,b,a,g,hg=>by rw[List.mem_singleton.1 a]at hg;exact hg
 | .fls,b,a,g,hg=>by rw[List.mem_singleton.1 a]at hg;exact hg
 | .and x y,b,a,g,hg=>by
  rcases List.mem_cons.1 a with rfl|a
  ·exact hg
  ·rcases List.mem_append.1 a with a|a
   ·exact List.mem_cons_of_mem _ (List.mem_append_left _ (Fm.subs_trans a g hg))
   ·exact List.mem_cons_of_mem _ (List.mem_append_right _ (Fm.subs_trans a g hg))
 | .or x y,b,a,g,hg=>by
  rcases List.mem_cons.1 a with rfl|a
  ·exact hg
  ·rcases List.mem_append.1 a with a|a
   ·exact List.mem_cons_of_mem _ (List.mem_append_left _ (Fm.subs_trans a g hg))
   ·exact List.mem_cons_of_mem _ (List.mem_append_right _ (Fm.subs_trans a g hg))
 | .imp x y,b,a,g,hg=>by
  rcases List.mem_cons.1 a with rfl|a
  ·exact hg
  ·rcases List.mem_append.1 a with a|a
   ·exact List.mem_cons_of_mem _ (List.mem_append_left _ (Fm.subs_trans a g hg))
   ·exact List.mem_cons_of_mem _ (List.mem_append_right _ (Fm.subs_trans a g hg))
 | .box x,b,a,g,hg=>by
  rcases List.mem_cons.1 a with rfl|a
  ·exact hg
  ·exact List.mem_cons_of_mem _ (Fm.subs_trans (f:=x) a g hg)
 | .dia x,b,a,g,hg=>by
  rcases List.mem_cons.1 a with rfl|a
  ·exact hg
  ·exact List.mem_cons_of_mem _ (Fm.subs_trans (f:=x) a g hg)
theorem VW{r:Fm}(h:r.modal=true):r.inner∈r.subs/\r.kids=[r.inner]:=by
 cases r with
 |box a=>exact⟨List.mem_cons_of_mem _ a.subs_self,rfl⟩
 |dia a=>exact⟨List.mem_cons_of_mem _ a.subs_self,rfl⟩
 |var _=>cases h
 |fls=>cases h
 |and _ _=>cases h
 |or _ _=>cases h
 |imp _ _=>cases h
theorem Ej(a:j.Nodup)(b:x<j.length):j.idxOf j[x]=x:=a.idxOf_getElem x b
theorem i7{f:Fm}(n:f.good):(EA f).Nodup:=by
 unfold EA;refine List.Nodup.sublist List.filter_sublist ?_;have k:(FE f).Pairwise λa b=>wC a b=true:=F2 _;have d:=λt o=>P2 (f:=f) n (t:=t) o;unfold List.Nodup;rw[List.pairwise_map];refine k.imp_of_mem λ{a b} l m c e=>?_;obtain⟨x,_,g,h⟩:=d a l;obtain⟨y,_,i,j⟩:=d b m;rw[h,j]at e;rw[g,i,e,YC]at c;cases c
theorem Dv{a b c:Value}(h:∀q w',q=w.heap.size/\w'.heap.size=q+1->bA w w'->GA u w' q [a,b,c]->t (.slice (some ⟨q,0,none⟩) 1 1) w'):
  xB u (Value.cells (.agg #[v,i,U])) 3 1 [(0,.agg #[a,b,c])] w t:=by
 refine⟨#[a,b,c],?_,h _ _ ⟨rfl,by simp⟩ (bA.alloc w _) (GA.new w #[a,b,c] u)⟩;simp[Instr.fill,Value.cells,show Array.range 3=#[0,1,2]from rfl]
abbrev tT:TypeId:=304
structure XQ(w w':World):Prop where
 ow:∀{k lo n:Nat} {e:TypeId} {v:Value} {xs:List Value},e≠UA->e≠tT->dB k lo e w v n xs->dB k lo e w' v n xs
 bk:∀{e:TypeId} {b:Nat} {cs:List Value},e≠UA->e≠tT->GA e w b cs->GA e w' b cs
theorem Uv(x:Ch g w a)(k:∀d,g d->(∃b,GA UA w d b)∨ ∃b,GA tT w d b):XQ w a:=
 ⟨λe f i=>dB.ch i x λd l j=>by
  rcases k d j with⟨b,c⟩|⟨b,c⟩
  ·exact dB.ne_blk i c e l
  ·exact dB.ne_blk i c f l,λe f c=>c.ch x λj=>by
  rcases k _ j with⟨b,h⟩|⟨b,h⟩
  ·exact c.ne h e rfl
  ·exact c.ne h f rfl⟩
theorem XQ.ext(x:bA w a):XQ w a:=⟨λ_ _ h=>dB.ext h x,λ_ _ h=>h.ext x⟩
theorem XQ.trans{d:World}(h:XQ w a)(k:XQ a d):XQ w d:=⟨λb c f=>k.ow b c (h.ow b c f),λb c e=>k.bk b c (h.bk b c e)⟩
theorem EW(h:Ow x UA w v y)(f:Ch (λc=>v.ownBlock=some c) w a):XQ w a:=Uv f λc d=>.inl (by
 obtain⟨b,e⟩:=Ow.ty h d;exact⟨b.toList,by unfold GA;rw[e]⟩)
theorem I6(h:GA tT w x y)(d:Ch (λc=>c=x) w a):XQ w a:=Uv d λ_ b=>.inr ⟨y,b▸h⟩
theorem Dg.rel(h:Dg w v j)(x:XQ w a):Dg a v j:=
 let⟨L,b,c,d⟩:=h.ex
 ⟨L,b,x.ow (by decide) (by decide) c,λp e=>x.ow (by decide) (by decide) (d p e)⟩
theorem Wk.ch{S:Nat->Prop}{M:List Fm}(h:Wk x w v j M)(g:Ch S w a)(f:∀c,S c->x<=c/\((∃cs,GA UA w c cs)∨ ∃cs,GA tT w c cs)):Wk x a v j M:=
 let⟨L,i,k,b⟩:=h.ex
 ⟨L,i,(Uv g λc d=>(f c d).2).ow (by decide) (by decide) k,λp e=>⟨(b p e).1.ch g λc d l=>by
  have m:=(b p e).2 c d;have n:=(f c l).1;omega,(b p e).2⟩⟩
theorem Wk.q{M:List Fm}(h:Wk x w v j M)(d:GA tT w n y)(f:Ch (λc=>c=n) w a):Wk x a v j M:=
 let⟨L,g,i,b⟩:=h.ex
 ⟨L,g,(I6 d f).ow (by decide) (by decide) i,λp e=>⟨Ow.chQ (b p e).1 d (by decide) f,(b p e).2⟩⟩
theorem Wk.mono{M:List Fm}(h:Wk x w v j M)(g:x<=n):Wk n w v j M:=
 let⟨L,d,e,a⟩:=h.ex
 ⟨L,d,e,λp b=>⟨(a p b).1,λc f=>Nat.lt_of_lt_of_le ((a p b).2 c f) g⟩⟩
def nf(A B:List jA):List jA:=B.foldl (λa x=>nH x a) A
theorem Ap(A B:List jA)(x:jA):nf A (B++[x])=nH x (nf A B):=by simp[nf]
theorem Zr(B:List jA):nf [] B=qG B:=rfl
theorem Yr(A B:List jA):(nf A B).length<=A.length+B.length:=by
 unfold nf
 induction B generalizing A with
 |nil=>simp
 |cons x B ih=>
  have a:=Ec x A;have b:=ih (nH x A);rw[List.foldl_cons,List.length_cons];omega
theorem qp(f:Fm):qG (FE f)=FE f:=Bh (F2 _) (F2 _) λ_=>xF
theorem Ak{r:Fm}(a:r.size<=40):(FE r).length<=40:=by
 have:=IW (r.subs.map Fm.body);rw[List.length_map,r.subs_len]at this;show(qG _).length<=40;omega
theorem VG.of{r:Fm}(b:r.good)(i:r.size<=40)(d:(EA r).length<=8):VG (EA r):=by
 have c:∀e∈EA r,e∈r.subs:=λe a=>((DM b).1 a).1;refine⟨i7 b,d,λe a=>((DM b).1 a).2,λe a=>?_,λe a g h f=>(DM b).2 ⟨Fm.subs_trans (c e a) g h,f⟩⟩;have:=Fm.subs_good b e (c e a);exact⟨this.1,Nat.le_trans this.2 i⟩
theorem kQ{r:Fm}(a:r.good)(b:r.size<=40):PF r.body=0/\(rd r.body).1=r/\YK r.body=true:=⟨bR a b,UB a,Ff a b⟩
theorem Wc{r:Fm}(d:oC w v r)(p:r.good)(I:r.size<=40):nA prog 613 #[v] w λl c=>bA w c/\Ow w.heap.size fA c l (yA (FE r)):=by
 have J:=r.subs_len;apply ve;unfold JY;refine PH λA M K C y=>?_;refine MB (λs:Value×Nat=>[s.1,iv (s.2:Int)]) (λs c=>s.2<=r.size/\bA w c/\Ow w.heap.size fA c s.1 (yA (qG ((r.subs.map Fm.body).take s.2)))) (λs=>r.size-s.2) (A,0) rfl ⟨Nat.zero_le _,C,y⟩ ?_;rintro⟨F,j⟩ B G ⟨g,a,b⟩ n;have g:j<=r.size:=g;have b:Ow w.heap.size fA B F (yA (qG ((r.subs.map Fm.body).take j))):=b;intro _;simp only[gx];refine VB (rB.ext d a) (jB (dA (λu=>?_) (λu=>?_)))
 ·have h:j<r.size:=by omega
  obtain⟨l,f,H⟩:=r.sub_at j h;have x:gt r.subs j∈r.subs:=by rw[LA (by omega)];exact List.getElem_mem _
  have q:=Fm.subs_good p _ x;refine gA (pG (rB.ext d a) f (by omega)) λN m=>?_;refine Jv (i:=j) (j:=j+(gt r.subs j).size) (rB.ext d (a.trans m)) (by omega) (by omega) λL k=>?_;rw[f,Nat.add_sub_cancel_left,<-(gt r.subs j).cells_len,List.take_left]at k;refine gA (AB k q.1 (by omega)) λO D=>?_;have e:=m.trans D;have t:=IW ((r.subs.map Fm.body).take j);rw[List.length_take,List.length_map]at t;refine aA ((kJ (b.ext e) (a.trans e).size (by omega)).mono ?_);rintro o P ⟨E,z⟩;refine qA (by omega) ?_;refine n (o,j+1) _ ⟨h,(a.trans e).trans E,?_⟩ (by show r.size-(j+1)<r.size-j;omega);show Ow _ _ _ o (yA (qG ((r.subs.map Fm.body).take (j+1))));rw[List.take_succ_eq_append_getElem (by rw[List.length_map];omega),List.getElem_map,<-LA (by omega),mg];exact z
 ·rw[List.take_of_length_le (by rw[List.length_map];omega)]at b;exact⟨a,b⟩
theorem j6(h:iM w v k)(hL:k.length<=1000000):nA prog 514 #[v] w λr b=>bA w b/\Ow w.heap.size fA b r (yA k):=by
 apply yb;unfold ZU;refine PH λu l i c a=>?_;refine wo IB EB rfl a (Sl.ext h c) (tI k) (by simp only[List.length_nil,AA];omega) (by simp only[List.length_nil,AA];omega) (by omega) λj m g f=>?_;exact⟨c.grown f λd e=>(a.blk d e).1,by simpa using g⟩
theorem KQ{A B:List jA}(g:iM w v A)(e:iM w i B)(C:A.length<=10000)(D:B.length<=10000):nA prog 612 #[v,i] w λr b=>bA w b/\Ow w.heap.size fA b r (yA (nf A B)):=by
 apply z8;unfold ES;refine aA ((j6 g (by omega)).mono ?_);rintro u F ⟨t,m⟩;refine MB (λs:Value×Nat=>[s.1,iv (s.2:Int)]) (λs b=>s.2<=B.length/\bA w b/\Ow w.heap.size fA b s.1 (yA (nf A (B.take s.2)))) (λs=>B.length-s.2) (u,0) rfl ⟨Nat.zero_le _,t,m⟩ ?_;rintro⟨y,j⟩ q z ⟨f,c,a⟩ h;have f:j<=B.length:=f;have a:Ow w.heap.size fA q y (yA (nf A (B.take j))):=a;intro _;simp only[gx];refine ZA (Sl.ext e c) (jB (dA (λl=>?_) (λl=>?_)))
 ·have d:j<B.length:=by omega
  refine mQ (Sl.ext e c) d λE p=>DD p ?_;have k:=Yr A (B.take j);rw[List.length_take]at k;refine aA ((kJ a c.size (by omega)).mono ?_);rintro o G ⟨x,n⟩;refine qA (by omega) ?_;refine h (o,j+1) _ ⟨d,c.trans x,?_⟩ (by show B.length-(j+1)<B.length-j;omega);show Ow _ _ _ o (yA (nf A (B.take (j+1))));rw[List.take_succ_eq_append_getElem d,Ap];exact n
 ·rw[List.take_of_length_le (by omega)]at a;exact⟨c,a⟩
theorem r3{r:Fm}(E:Ld w v r)(t:r.good)(h:r.size<=40):nA prog 485 #[v] w λM b=>bA w b/\Ow w.heap.size fA b M (yA (FE r)):=by
 obtain⟨vl,Q,rfl,H,K⟩:=E.ex;obtain⟨C,D,-⟩:=kQ t h;have W:=Ak h;apply y8;unfold DS;refine iC λZ w1 V y q=>PH λN R X l I=>?_;have d:=y.trans l;refine pB (mA (q.ext l) (i:=0) (v:=vl) rfl (pB (mA (q.ext l) (i:=1) (v:=Q) rfl ?_)));refine aA ((KQ (Sl.ext H d) (Sl.ext K d) (by simp) (by simp)).mono ?_);rintro O x ⟨m,e⟩;have e:Ow R.heap.size fA x O (yA [r.body]):=e;refine MB (λs:Value×Nat=>[s.1,iv (s.2:Int)]) (λs b=>s.2<=1/\bA x b/\Ow w.heap.size fA b s.1 (yA (if s.2=0 then[]else FE r))) (λs=>1-s.2) (N,0) rfl ⟨Nat.zero_le _,bA.refl _,(I.ext m).mono y.size⟩ ?_;rintro⟨z,j⟩ k T ⟨u,c,a⟩ G;have u:j<=1:=u;have a:Ow w.heap.size fA k z (yA (if j=0 then[]else FE r)):=a;intro _;simp only[gx];refine ZA (L:=[r.body]) (e.ext c).sl (jB (dA (λg=>?_) (λg=>?_)))
 ·have:j=0:=by simp at g;omega
  subst this;refine mQ (L:=[r.body]) (e.ext c).sl (j:=0) (by simp) λY J=>DD J ?_;refine aA ((TD r.body k).mono ?_);rintro _ w6 ⟨n,U,rfl,f⟩;have f:=f C;rw[D]at f;refine lD (mD ?_);refine aA ((Wc f.sl t h).mono ?_);rintro aa w7 ⟨o,F⟩;have a:Ow w.heap.size fA k z (yA []):=a;refine aA ((KQ (A:=[]) (B:=FE r) (a.ext (n.trans o)).sl F.sl (by simp) (by omega)).mono ?_);rintro P w8 ⟨S,p⟩;rw[Zr,qp]at p;refine qA (by decide) ?_;exact G (P,1) _ ⟨Nat.le_refl _,((c.trans n).trans o).trans S,p.mono ((((d.trans m).trans c).trans n).trans o).size⟩ (by show 1-1<1-0;decide)
 ·have:j=1:=by simp at g;omega
  subst this;exact⟨(d.trans m).trans c,a⟩
theorem TJ{f:Fm}(q:Ld w v f)(x:f.good)(F:f.size<=40):nA prog 333 #[v] w λae g=>bA w g/\Ow w.heap.size fA g ae (yA ((EA f).map Fm.body)):=by
 have ai:=Ak F;have Z:=q;obtain⟨vl,vr,rfl,hl,hr⟩:=q.ex;apply JV;unfold KK;refine iC λak w1 hq K T=>PH λaf w2 aj L G=>?_;have B:=K.trans L;refine DB (T.ext L) rfl ?_;refine aA ((r3 (Z.ext B) x F).mono ?_);rintro A w3 ⟨M,d⟩;have N:=B.trans M;refine MB (λs:Value×Nat=>[s.1,iv (s.2:Int)]) (λs g=>s.2<=(FE f).length/\bA w g/\Ow w2.heap.size fA g A (yA (FE f))/\Ow w.heap.size fA g s.1 (yA (((((FE f).take s.2).map fT).filter Fm.elem).map Fm.body))/\ ∀c,s.1.ownBlock=some c->A.ownBlock=some c->False) (λs=>(FE f).length-s.2) (af,0) rfl ⟨Nat.zero_le _,N,d,(G.ext M).mono K.size,λc k n=>?_⟩ ?_
 ·have k:=(G.blk c k).2;have n:=(d.blk c n).1;omega
 rintro⟨y,i⟩ J Kn ⟨E,r,d,l,p⟩ C;have E:i<=(FE f).length:=E;have l:Ow w.heap.size fA J y (yA (((((FE f).take i).map fT).filter Fm.elem).map Fm.body)):=l;have p:∀c,y.ownBlock=some c->A.ownBlock=some c->False:=p;intro _;simp only[gx];refine ZA d.sl (jB (dA (λY=>?_) (λY=>?_)))
 rotate_left
 ·rw[List.take_of_length_le (by omega)]at l;exact⟨r,l⟩
 have m:i<(FE f).length:=by omega
 obtain⟨a,V,H,W⟩:=P2 x (List.getElem_mem m);have X:=Fm.subs_good x a V;obtain⟨Q,R,-⟩:=kQ X.1 (show a.size<=40 by omega);have tk:(((FE f).take (i+1)).map fT).filter Fm.elem=(((FE f).take i).map fT).filter Fm.elem++(if a.elem then[a]else[]):=by
  rw[List.take_succ_eq_append_getElem m,List.map_append,List.filter_append,List.map_singleton,W];cases h:a.elem<;>simp[h]
 refine mQ d.sl m λad z=>DD z ?_;rw[H];refine aA ((TD a.body J).mono ?_);rintro _ w6 ⟨b,va,rfl,e⟩;have e:=e Q;rw[R]at e;refine lD (mD ?_);have u:=a.size_pos;refine WB (λxs g=>xs=[.bool a.elem]/\g=w6) (λag t=>?_) ?_
 ·refine eB (j:=0) (f:=0) e.sl rfl u (by decide) (rA e.sl).1 (BA (dA (λh=>?_) (λh=>?_)))
  ·exact t _ _ ⟨by rw[a.elem_kind,decide_eq_true (.inl (by omega))],rfl⟩
  refine eB (j:=0) (f:=0) e.sl rfl u (by decide) (rA e.sl).1 (BA (dA (λP=>?_) (λP=>?_)))
  ·exact t _ _ ⟨by rw[a.elem_kind,decide_eq_true (.inr (.inl (by omega)))],rfl⟩
  refine eB (j:=0) (f:=0) e.sl rfl u (by decide) (rA e.sl).1 (BA (t _ _ ⟨?_,rfl⟩));rw[a.elem_kind]
  congr 2
  exact decide_eq_decide.2 ⟨λq=>.inr (.inr (by omega)),λq=>by omega⟩
 rintro _ _ ⟨rfl,rfl⟩;intro _;simp only[gx];refine kB (λh=>?_) (λh=>?_)
 ·refine mQ (d.ext b).sl m λad z=>DD z ?_;rw[H];have ah:(yA (((((FE f).take i).map fT).filter Fm.elem).map Fm.body)).length<=40:=by
   rw[AA,List.length_map];have:=List.length_filter_le Fm.elem (((FE f).take i).map fT);rw[List.length_map,List.length_take]at this;omega
  refine WE IB EB rfl (l.ext b) rfl (by omega) (by omega) (r.trans b).size λI w8 ab D aa=>?_;have O:=sE (S:=λc=>y.ownBlock=some c) D λc o=>o;refine qA (by omega) ?_;refine C (I,i+1) _ ⟨m,(r.trans b).grown D λc o=>((l.ext b).blk c o).1,(d.ext b).ch O λc o U=>p c U o,?_,λc k n=>?_⟩ (by show(FE f).length-(i+1)<(FE f).length-i;omega)
  ·show Ow _ _ _ I (yA (((((FE f).take (i+1)).map fT).filter Fm.elem).map Fm.body));rw[tk,if_pos h,List.map_append];rw[show yA (((((FE f).take i).map fT).filter Fm.elem).map Fm.body++List.map Fm.body [a])=yA (((((FE f).take i).map fT).filter Fm.elem).map Fm.body)++[sv a.body]by simp[yA]];exact ab
  ·rcases aa with ac|⟨c',n1,n2⟩
   ·rw[ac]at k;exact p c k n
   ·rw[n1]at k;cases k;have:=((d.ext b).blk _ n).2;omega
 ·refine qA (by omega) ?_;refine C (y,i+1) _ ⟨m,r.trans b,d.ext b,?_,p⟩ (by show(FE f).length-(i+1)<(FE f).length-i;omega);show Ow _ _ _ y (yA (((((FE f).take (i+1)).map fT).filter Fm.elem).map Fm.body));rw[tk,h];simpa using l.ext b
theorem JQ(h:iM w v k)(x:k.length<=1)(f:∀t∈k,YK t=true):CB prog 484 #[v] w (.bool true):=by
 apply Bb;unfold cV;refine ZA h (jB (cA (decide_eq_false (by omega)) ?_));refine MB (λi:Nat=>[iv i]) (λi c=>i<=k.length/\bA w c) (λi=>k.length-i) 0 rfl ⟨Nat.zero_le _,bA.refl _⟩ ?_;rintro i j q ⟨u,a⟩ e;intro _;simp only[gx];refine ZA (Sl.ext h a) (jB (dA (λy=>?_) (λ_=>⟨by first|trivial|rfl,a⟩)));have b:i<k.length:=by omega
 have s:i=0:=by omega
 refine mQ (Sl.ext h a) b λz g=>DD g ?_;refine aA ((TD k[i] j).mono ?_);rintro _ l ⟨m,r,rfl,-⟩;rw[f _ (List.getElem_mem b)];refine lD (mD ?_);refine WB (λp c=>p=[.bool false]/\bA l c) (λJ d=>?_) ?_
 ·exact TA (cA rfl (jB (cA (decide_eq_false (by omega)) λB o=>d _ _ ⟨rfl,o⟩)))
 rintro _ A ⟨rfl,n⟩;intro _;simp only[gx];refine cA rfl (qA (by omega) ?_);exact e (i+1) _ ⟨b,(a.trans m).trans n⟩ (by omega)
theorem Xc{r:Fm}(h:Ld w v r)(f:r.good)(j:r.size<=40):CB prog 332 #[v] w (.bool true):=by
 obtain⟨vl,l,rfl,g,k⟩:=h.ex;apply Sg;unfold Q0;refine iC λu n s b d=>?_;refine WB (λq m=>q=[.bool true]/\bA n m) (λJ e=>?_) ?_
 ·refine pB (mA d (i:=0) (v:=vl) rfl ?_);refine gA (JQ (Sl.ext g b) (by simp) (λt a=>by cases a)) λy c=>iA rfl ?_;refine pB (mA (d.ext c) (i:=1) (v:=l) rfl ?_);refine gA (JQ (Sl.ext k (b.trans c)) (by simp) (λt a=>by rw[List.mem_singleton.1 a];exact(kQ f j).2.2)) λz p=>?_;exact e _ _ ⟨rfl,c.trans p⟩
 rintro _ x ⟨rfl,o⟩;intro _;exact⟨rfl,b.trans o⟩
end Go.Proofs.YtoojmhgpadkhmaaGreatDoor
