/- The proof of FnExpandedCard, part 5 of 7. Conditions: none. -/
import Derived.Test.YtoojmhgpadkhmaaGreatDoorKR56d
import Derived.RangeFuncNested
import Derived.RangeFuncCalls
import Derived.RangeFuncLeaves
import Derived.RangeFuncRecord
import Derived.Sort.LoopGhostIn
import Derived.TacticsIn
import Derived.OrdersIn
import Derived.Shelf.Strings.Count
import Derived.Lib.AppendZerosOnto
import Derived.Lib.Overlaps
import Derived.Lib.ConvBytes
import Derived.Lib.AppendIntMem
import Derived.Shelf.Strings.OnBuilder
namespace Go.Proofs.YtoojmhgpadkhmaaGreatDoor
open Go.Proofs.Tryz(prog)
variable{w a:World}{v i U:Value}{x n f C:Nat}{y J:List Value}{z:Value->Prop}{u H:TypeId}{t:Value->World->Prop}{s Y:jA}{r P:Fm}{m:List Nat}{k:List jA}{j:List Fm}{b:IntKind}{c:Exit->Act->World->Prop}{d:List kF}{h:Array Value}{l:World->Prop}{o:Int}{q:UInt8}{L:Act->World->Prop}{K:Bool}{Q:dE}{M:Act}{S:List Value->World->Prop}{T:List RN}{V:World->World->Prop}{W:FuncId}{X:(List Value->World->Prop)->Prop}{Z:Program}{A:Fr}{D:Oper}{E:Nat->(World->Prop)->(World->Prop)->(Ex->World->Prop)->List Value->World->(Value->World->Prop)->Prop}{I:Option (Option Bool)}{O:Array Oper}
structure H0(e:TypeId)(v v':Value)(lo q:Nat)(w w':World):Prop where
 ext:∀w0,bA w0 w->w0.heap.size<=lo->w0.heap.size<=q->bA w0 w'
 ow:∀{k lo' n:Nat} {e':TypeId} {u:Value} {ys:List Value},e'≠ja->(∀c,u.ownBlock=some c->v.ownBlock=some c->False)->dB k lo' e' w u n ys->dB k lo' e' w' u n ys
 bk:∀{e':TypeId} {b:Nat} {ds:List Value},e'≠ja->(v.ownBlock=some b->False)->GA e' w b ds->GA e' w' b ds
 ty:∀c,v.ownBlock=some c-> ∃cs,GA e w c cs
 new:v'.ownBlock=v.ownBlock∨ ∃c,v'.ownBlock=some c/\w.heap.size<=c
 sz:w.heap.size<=w'.heap.size
theorem H0.ne{lo:Nat}(h:H0 u v i lo x w a)(d:H≠ja)(e:H≠u)(b:dB n f H w U C y):dB n f H a U C y:=
 h.ow d (λc j k=>by
  obtain⟨l,g⟩:=h.ty c k;exact dB.ne_blk b g e j) b
theorem H0.bne(h:H0 u v i x n w a)(c:H≠ja)(d:H≠u)(b:GA H w f y):GA H a f y:=
 h.bk c (λg=>by
  obtain⟨j,e⟩:=h.ty f g;exact b.ne e d rfl) b
theorem H0.fresh(h:H0 u v i x n w a)(g:Ow f H w U y)(e:∀c,U.ownBlock=some c->v.ownBlock=some c->False):∀c,U.ownBlock=some c->i.ownBlock=some c->False:=λc d b=>by
 rcases h.new with j|⟨l,k,m⟩
 ·rw[j]at b;exact e c d b
 ·rw[k]at b;cases b;have:=(g.blk _ d).2;omega
section
variable{t ty e:TypeId}{z x v:Value}{bytes lo q k:Nat}{cs xs:List Value}{w:World}{K:World->Prop}
theorem oi(M:prog.underlying t=some (.slice e))(G:(prog.info? e).map (λi=>(i.zero,i.size,i.bytes))=some (some z,1,bytes))(Q:vA z=true)(s:e≠ja)(r:GA ja w q cs)(H:k<cs.length)(n:Ow lo e w v xs)(P:vA x=true)(C:(xs.length+1)*bytes<=140737488355328)(J:xs.length+1<=9223372036854775807)(I:lo<=w.heap.size)
  (A:∀d w',Ow lo e w' d (xs++[x])->GA ja w' q (cs.set k d)->H0 e v d lo q w w'->K w'):
  xB e (Value.cells z) 1 1 [(0,x)] w λV R=>nD prog (Builtin.append_ #[t,t] ty #[v,V]) R λd u=>IA (.pointer (some ⟨q,0,none⟩)) λp=>FA k p λp=>KC u p d K:=by
 refine WE M G Q n P C J I λd u o E L=>bB (pB ?_);have f:=sE (S:=λc=>v.ownBlock=some c) E λc a=>a;have m:=r.ch f (λb=>n.ne_blk r s b);rw[Nat.zero_add];refine QX m H o.cell λT B N=>?_;have g:=N.ch (S:=λc=>c=q) rfl;refine A d T (o.ch g λc a b=>by subst b;exact o.ne_blk m s a) B ⟨λW U h l=>(U.thenCh f λc a=>Nat.le_trans h (n.blk c a).1).thenCh g λc a=>by omega,λh l O=>?_,λh l D=>?_,λc a=>?_,L,Nat.le_trans f.size g.size⟩
 ·have j:=dB.ch O f λc a b=>l c a b;exact dB.ch j g λc a b=>by subst b;exact dB.ne_blk j m h a
 ·have j:=D.ch f λb=>l b;exact j.ch g λb=>j.ne m h b
 ·obtain⟨y,F⟩:=Ow.ty n a;exact⟨y.toList,by unfold GA;rw[F]⟩
theorem zk(ht:prog.underlying t=some (.slice e))(Y:(prog.info? e).map (λi=>(i.zero,i.size,i.bytes))=some (some z,1,bytes))(H:vA z=true)(F:e≠ja)(E:GA ja w q cs)(Z:k<cs.length)(r:Ow lo e w v xs)(G:vA x=true)(T:(xs.length+1)*bytes<=140737488355328)(hm:xs.length+1<=9223372036854775807)(ad:lo<=w.heap.size)
  (P:∀d w',Ow lo e w' d (xs++[x])->GA ja w' q (cs.set k d)->H0 e v d lo q w w'->K w'):
  ∀u,bA w u->xB e (Value.cells z) 1 1 [(0,x)] u λab B=>bA u B/\ ∀C,bA B C->nD prog (Builtin.append_ #[t,t] ty #[v,ab]) C λd I=>IA (.pointer (some ⟨q,0,none⟩)) λA=>FA k A λA=>∀D,bA I D->KC D A d λJ=>∀s,bA J s->K s:=by
 intro u x9;refine fF H G λac B _ L Q=>⟨L,λC M=>?_⟩
 have X:=(x9.trans L).trans M;have ae:=X.size;refine A2 ht Y H (r.ext X) (Sl.ofBlk (n:=1) (Q.ext M) rfl (by decide)) (by simpa using G) T hm (by omega) λd I y V hn=>bB (pB λD f=>?_);have h:=sE (S:=λc=>v.ownBlock=some c) V λc a=>a;have p:=((E.ext X).ch h (λb=>(r.ext X).ne_blk (E.ext X) F b)).ext f;rw[Nat.zero_add];refine QX p Z y.cell λJ R hu=>λs g=>?_;have j:=hu.ch (S:=λc=>c=q) rfl;refine P d s (((y.ext f).ch j λc a b=>by subst b;exact(y.ext f).ne_blk p F a).ext g) (R.ext g) ⟨λw0 x0 l o=>((((x0.trans X).thenCh h λc a=>Nat.le_trans l (r.blk c a).1).trans f).thenCh j λc a=>by omega).trans g,λl o aa=>?_,λl o U=>?_,λc a=>?_,?_,by have:=h.size;have:=f.size;have:=j.size;have:=g.size;omega⟩
 ·have m:=dB.ext (dB.ch (dB.ext aa X) h λc a b=>o c a b) f;exact dB.ext (dB.ch m j λc a b=>by subst b;exact dB.ne_blk m p l a) g
 ·have m:=((U.ext X).ch h λb=>o b).ext f;exact(m.ch j λb=>m.ne p l b).ext g
 ·obtain⟨N,W⟩:=Ow.ty r a;exact⟨N.toList,by unfold GA;rw[W]⟩
 ·exact hn.imp id λ⟨c,O,e2⟩=>⟨c,O,by omega⟩
end
def Sp(a u:Value)(e:Fm):Prop:=vA u=true/\ ∀w:World,oC w a e->e.modal=true->oC w u e.inner
theorem Vw{K:Value->Prop}(k:iL x w v r)(h:∀u,Sp v u r->K u):qP 2 v (some (iv 1)) none K:=by
 have c:=r.size_pos;obtain⟨_,s,y,p,_,A,_⟩:=k.sl;subst p;refine⟨_,_,_,1,r.size,rfl,rfl,⟨.i64,rfl⟩,c,by omega,h _ ⟨rfl,λq o m=>?_⟩⟩;have l:=(VW m).2;have:=sN (K:=λe=>oC q e r.inner) (i:=1) (ki:=.i64) o c λe n=>Z1 n l;obtain⟨t,C,z,d,j,f,b,a,_,_,g⟩:=this;obtain⟨rfl,rfl,rfl⟩:=Value.slice.inj f;obtain⟨B,a⟩:=a;have b:j=r.size:=b;have a:(1:Int)=(d:Int):=(Value.int.inj a).2;have a:d=1:=by omega
 subst b a;exact g
def lM(w:World)(u:Value)(e:Fm):Prop:=∃a,iL 0 w a e/\Sp a u e
theorem lM.at(h:lM w v r)(c:r.modal=true):oC w v r.inner:=
 let⟨_,a,b⟩:=h
 b.2 w a.sl c
theorem lM.ext(h:lM w v r)(x:bA w a):lM a v r:=
 let⟨b,c,d⟩:=h
 ⟨b,dB.ext c x,d⟩
theorem lM.push(h:lM w U r)(f:H0 u v i x n w a)(e:NA≠u):lM a U r:=
 let⟨b,c,d⟩:=h
 ⟨b,f.ne (by decide) e c,d⟩
theorem jQ{a:Type}[Inhabited a]{p:a->Bool}{e:List a}(b:x<e.length):(e.take (x+1)).filter p=(e.take x).filter p++(if p (gt e x)then[gt e x]else[]):=by
 rw[List.take_succ_eq_append_getElem b,List.filter_append,LA b];cases h:p e[x]<;>simp[h]
theorem wO{p:Nat->Bool}:(List.range (x+1)).filter p=(List.range x).filter p++(if p x then[x]else[]):=by
 rw[List.range_succ,List.filter_append];cases h:p x<;>simp[h]
theorem XV(A B:List Nat):JA (MA (A++B))=JA (MA A)++JA (MA B):=by simp[JA,MA]
section
variable{w w':World}{q m i t a b lo:Nat}{l:jA}{ps:List Fm}{vP vK vI vT vY vX vR:Value}
structure Vk(lo:Nat)(w:World)(q:Nat)(l:jA)(ps:List Fm)(k m:Nat)(vP vK vI vT vY:Value):Prop where
 loq:lo<=q
 blk:GA ja w q [sv l,vP,vK,vI,vT,vY,.slice none 0 0,.slice none 0 0]
 par:Ow lo fA w vP (yA (ps.map Fm.body))
 knd:Ow lo KA w vK (JA ((ps.take k).map λe=>(e.kind:Int)))
 inn:∃us,Ow lo XA w vI us/\us.length=k/\ ∀j,j<k-> ∃u,us[j]?=some u/\lM w u (gt ps j)
 tru:Ow lo KA w vT (JA (MA ((List.range m).map (Jp ps))))
 ne:∀c,vK.ownBlock=some c->vT.ownBlock=some c->False
theorem Vk.ext(h:Vk lo w q l ps x m vP vK vI vT vY)(c:bA w w'):Vk lo w' q l ps x m vP vK vI vT vY:=
 let⟨o,f,g,k⟩:=h.inn
 ⟨h.loq,h.blk.ext c,h.par.ext c,h.knd.ext c,⟨o,f.ext c,g,λj n=>let⟨u,d,e⟩:=k j n;⟨u,d,e.ext c⟩⟩,h.tru.ext c,h.ne⟩
theorem Vk.spa(h:Vk lo w q l ps ps.length m vP vK vI vT vY):OP w q l ps m vP vK vI vT vY (.slice none 0 0) (.slice none 0 0):=
 ⟨h.blk,h.par.sl,by have:=h.knd.sl;rwa [List.take_length]at this,h.tru.sl⟩
theorem Qv(c:x<ps.length):((ps.take (x+1)).map λe=>(e.kind:Int))=((ps.take x).map λe=>(e.kind:Int))++[((gt ps x).kind:Int)]:=by
 rw[List.take_succ_eq_append_getElem c,List.map_append,LA c];rfl
theorem K9{f:Fm}(hl:pA l<10)(hm:Ld w v f)(hg:f.good)(hn:f.size<=40)(h8:(EA f).length<=8):
  nA prog 334 #[sv l,v] w λr w'=>bA w w'/\ ∃q T vP vK vI vT vY,r= .pointer (some ⟨q,0,none⟩)/\Vk w.heap.size w' q l (EA f) (EA f).length (2^(EA f).length) vP vK vI vT vY/\Ow w.heap.size KA w' vY (JA (MA T))/\T.length<=2^(EA f).length/\Fs (pA l) (EA f) T/\ ∀t∈T,rJ (pA l) (EA f) T t=true:=by
 have A:=VG.of hg hn h8;have dl:=hm;obtain⟨vL,vR,rfl,hL,hR⟩:=hm.ex;have eg:2^(EA f).length<=2^8:=Nat.pow_le_pow_right (by decide) h8;apply Eb;unfold fV;refine iC λq3 w1 eo x1 cz=>DB cz rfl ?_;refine aA ((TJ (dl.ext x1) hg hn).mono ?_);rintro g w2 ⟨x2,bs⟩;generalize en:EA f=ps at*;refine PH λbd w3 eq x3 bt=>PH λbe w4 er x4 bu=>?_;refine GD (cs:=#[sv l,g,bd,be,.slice none 0 0,.slice none 0 0,.slice none 0 0,.slice none 0 0]) (by simp[Instr.fill,sA bs.cell,sA bt.cell,sA bu.cell,sA (show vA (sv l)=true from rfl)]) ?_;refine xC λq w5 hq x5 da=>?_;have hB:GA ja w5 q [sv l,g,bd,be,.slice none 0 0,.slice none 0 0,.slice none 0 0,.slice none 0 0]:=by simpa[Value.cells]using da
 have s1:=x1.size;have s2:=x2.size;have s3:=x3.size;have s4:=x4.size;have X5:=((((x1.trans x2).trans x3).trans x4).trans x5)
 have h0:Vk w.heap.size w5 q l ps 0 0 g bd be (.slice none 0 0) (.slice none 0 0):=
  ⟨by omega,hB,(((bs.mono s1).ext x3).ext x4).ext x5,((bt.mono (by omega)).ext x4).ext x5,⟨[],(bu.mono (by omega)).ext x5,rfl,λj C=>absurd C (Nat.not_lt_zero j)⟩,Ow.nil _ _ _,λc _ Y=>by cases Y⟩
 refine MB (λi:Nat=>[iv i]) (λi w'=>i<=ps.length/\bA w w'/\ ∃vK vI,Vk w.heap.size w' q l ps i 0 g vK vI (.slice none 0 0) (.slice none 0 0)) (λi=>ps.length-i) 0 rfl ⟨Nat.zero_le _,X5,_,_,h0⟩ ?_;rintro i w7 Kn ⟨hi,x7,vK,vI,X⟩ df;intro _;simp only[gx];refine bB (pB (mA X.blk (i:=1) (v:=g) rfl (ZA X.par.sl ?_)));rw[List.length_map];refine jB (dA (λad=>?_) (λad=>?_))
 ·have ab:i<ps.length:=by omega
  have an:=A.gd _ (VG.mem ab);obtain⟨g1,g2,-⟩:=kQ an.1 an.2;refine bB (pB (mA X.blk (i:=1) (v:=g) rfl (mQ X.par.sl (j:=i) (by rw[List.length_map];exact ab) λp hp=>DD hp ?_)));rw[show(ps.map Fm.body)[i]'(by rw[List.length_map];exact ab)=(gt ps i).body by rw[LA ab];simp];refine aA ((TD (gt ps i).body w7).mono ?_);rintro _ w8 ⟨x8,va,rfl,Z⟩;have Z:=Z g1;rw[g2]at Z;have N:=X.ext x8;have X8:=x7.trans x8;refine lD (mD (bB (pB (mA N.blk (i:=2) (v:=vK) rfl ?_))));refine eB (j:=0) (f:=0) Z.sl rfl (gt ps i).size_pos (by decide) (rA Z.sl).1 ?_;have G:(JA ((ps.take i).map λe=>(e.kind:Int))).length<=8:=by
   rw[SA,List.length_map,List.length_take];have:=A.le;omega
  refine zk TH RH rfl (by decide) N.blk (by simp) N.knd rfl (by omega) (by omega) X8.size λbg dt dd O r=>?_;have O:GA ja dt q [sv l,g,bg,vI,.slice none 0 0,.slice none 0 0,.slice none 0 0,.slice none 0 0]:=O;have bl:=r.ext _ X8 (Nat.le_refl _) N.loq;obtain⟨us,F,M,R⟩:=N.inn;refine bB (pB (mA O (i:=3) (v:=vI) rfl ?_));refine Vw (dB.mono (r.ne (by decide) (by decide) Z) (Nat.zero_le _)) λu K=>?_;refine zk aF XE rfl (by decide) O (by simp) (r.ne (by decide) (by decide) F) K.1 (by have:=A.le;omega) (by have:=A.le;omega) bl.size λci du db ay r2=>?_;have ay:GA ja du q [sv l,g,bg,ci,.slice none 0 0,.slice none 0 0,.slice none 0 0,.slice none 0 0]:=ay;refine qA (by omega) ?_;refine df (i+1) _ ⟨ab,r2.ext _ bl (Nat.le_refl _) N.loq,bg,ci,N.loq,ay,r2.ne (by decide) (by decide) (r.ne (by decide) (by decide) N.par),?_,⟨us++[u],db,by simp[M],λj C=>?_⟩,Ow.nil _ _ _,λc _ Y=>by cases Y⟩ (by omega)
  ·rw[Qv ab];rw[show JA (((ps.take i).map λe=>(e.kind:Int))++[((gt ps i).kind:Int)])=JA ((ps.take i).map λe=>(e.kind:Int))++[iv ((gt ps i).kind:Int)]by simp[JA]];exact r2.ne (by decide) (by decide) dd
  ·rcases Nat.lt_or_ge j i with n|n
   ·obtain⟨u',H,E⟩:=R j n;exact⟨u',by rw[List.getElem?_append_left (by omega)];exact H,(E.push r (by decide)).push r2 (by decide)⟩
   ·have:j=i:=by omega
    subst this;exact⟨u,by rw[List.getElem?_append_right (by omega),M];simp,va,dB.mono (r2.ne (by decide) (by decide) (r.ne (by decide) (by decide) Z)) (Nat.zero_le _),K⟩
 obtain rfl:i=ps.length:=by omega
 refine PH λds ex ep cm bv=>?_;have cv:=X.ext cm;have s7:=x7.size;refine MB (λs:Value×Nat=>[s.1,iv (s.2:Int)]) (λs w'=>s.2<=2^ps.length/\bA w w'/\ ∃vT,Vk w.heap.size w' q l ps ps.length s.2 g vK vI vT (.slice none 0 0)/\Ow w.heap.size KA w' s.1 (JA (MA ((List.range s.2).filter (PC (pA l) ps))))/\(∀c,s.1.ownBlock=some c->vK.ownBlock=some c->False)/\ ∀c,s.1.ownBlock=some c->vT.ownBlock=some c->False) (λs=>2^ps.length-s.2) (ds,0) rfl ⟨Nat.zero_le _,x7.trans cm,_,cv,bv.mono s7,λc n I=>by have:=(bv.blk c n).1;have:=(X.knd.blk c I).2;omega,λc _ Y=>by cases Y⟩ ?_;rintro⟨y,t⟩ bh K2 ⟨J,cn,vT,ac,hy,ag,ap⟩ bw;have J:t<=2^ps.length:=J;have ac:Vk w.heap.size bh q l ps ps.length t g vK vI vT (.slice none 0 0):=ac;have hy:Ow w.heap.size KA bh y (JA (MA ((List.range t).filter (PC (pA l) ps)))):=hy;have ag:∀c,y.ownBlock=some c->vK.ownBlock=some c->False:=ag;have ap:∀c,y.ownBlock=some c->vT.ownBlock=some c->False:=ap;have p8:=A.le;intro _;simp only[gx];refine ac.spa.nAt (gA (SG ps.length (by omega) bh) λdv au=>jB (dA (λad=>?_) (λad=>?_)))
 ·have ao:t<2^ps.length:=by omega
  refine MB (λs:Nat×Nat=>[iv (s.1:Int),iv (s.2:Int)]) (λs w'=>s.2<=ps.length/\bA dv w'/\s.1=yp ps t s.2) (λs=>ps.length-s.2) (0,0) rfl ⟨Nat.zero_le _,bA.refl _,rfl⟩ ?_;rintro⟨mk,j⟩ dw K3 ⟨C,bj,ae⟩ bx;have C:j<=ps.length:=C;have ae:mk=yp ps t j:=ae;have al:=au.trans bj;have h:=ac.ext al;obtain⟨us,F,M,R⟩:=h.inn;intro _;simp only[gx];refine bB (pB (mA h.blk (i:=3) (v:=vI) rfl (XC F.sl ?_)));rw[M];refine jB (dA (λdk=>?_) (λdk=>?_))
  ·have Q:j<ps.length:=by omega
   refine WB (λxs w'=>xs=[.bool ((gt ps j).modal&&tv ps t (gt ps j).inner)]/\bA dw w') (λef hJ=>?_) ?_
   ·refine h.spa.kAt Q (ZF (dA (λk0=>?_) (λk0=>?_)))
    ·have af:(gt ps j).modal=true:=by
      rcases BM (A.el _ (VG.mem Q))with⟨_,e⟩|⟨e,_⟩
      ·exact absurd e k0
      ·exact e
     obtain⟨u,H,E⟩:=R j Q;refine bB (pB (mA h.blk (i:=3) (v:=vI) rfl (pP (j:=(j:Int)) F.sl (by omega) (by omega) λp hp=>?_)));rw[Int.toNat_natCast,H]at hp;refine DD hp ?_;have an:=A.gd _ (VG.mem Q);have cd:=(VW af).1;have dj:=Fm.subs_good an.1 _ cd;refine gA (zT A ao _ h.spa (E.at af) dj.1 (λbp dh he=>A.cl _ (VG.mem Q) bp (Fm.subs_trans cd bp dh) he) (by omega)) λey ea=>hJ _ _ ⟨by rw[af,Bool.true_and],ea⟩
    ·have af:(gt ps j).modal=false:=by
      rcases BM (A.el _ (VG.mem Q))with⟨e,_⟩|⟨_,e⟩
      ·exact e
      ·exact absurd (show((gt ps j).kind:Int)≠0 by omega) k0
     exact hJ _ _ ⟨by rw[af,Bool.false_and],bA.refl _⟩
   rintro _ dx ⟨rfl,co⟩;intro _;simp only[gx];have ek:=Vr ps t j;have em:(2:Nat)^j<=2^8:=Nat.pow_le_pow_right (by decide) (by omega);refine kB (λB=>?_) (λB=>?_)
   ·refine gA (SG j (by omega) dx) λez eb=>SV (by omega) (by omega) (qA (by omega) ?_);refine bx (mk|||2^j,j+1) _ ⟨Q,(bj.trans co).trans eb,?_⟩ (by show ps.length-(j+1)<ps.length-j;omega);show mk|||2^j=yp ps t (j+1)
    rw[yp,if_pos B,ae]
   ·refine qA (by omega) ?_;refine bx (mk,j+1) _ ⟨Q,bj.trans co,?_⟩ (by show ps.length-(j+1)<ps.length-j;omega);show mk=yp ps t (j+1);rw[yp,if_neg (by rw[B];decide),ae]
  obtain rfl:j=ps.length:=by omega
  subst ae;have bm:=cn.trans al;have eh:(JA (MA ((List.range t).map (Jp ps)))).length<=256:=by rw[SA,WA,List.length_map,List.length_range];omega
  refine bB (pB (mA h.blk (i:=4) (v:=vT) rfl ?_));refine oi TH RH rfl (by decide) h.blk (by simp) h.tru rfl (by omega) (by omega) bm.size λah bi dg O r=>?_;have O:GA ja bi q [sv l,g,vK,vI,ah,.slice none 0 0,.slice none 0 0,.slice none 0 0]:=O;have bq:Vk w.heap.size bi q l ps ps.length (t+1) g vK vI ah (.slice none 0 0):=
   ⟨h.loq,O,r.ne (by decide) (by decide) h.par,r.ow (by decide) (λc n I=>h.ne c n I) h.knd,⟨us,r.ne (by decide) (by decide) F,M,λj C=>let⟨u,H,E⟩:=R j C;⟨u,H,E.push r (by decide)⟩⟩,by rw[List.range_succ,List.map_append,XV];exact dg,r.fresh h.knd h.ne⟩
  have ed:Ow w.heap.size KA bi y (JA (MA ((List.range t).filter (PC (pA l) ps)))):=r.ow (by decide) ap (hy.ext al);have bb:=r.fresh (hy.ext al) ap;have ax:=r.ext _ bm (Nat.le_refl _) h.loq;refine gA (L9 A bq.spa hl ao (by omega)) λcj ai=>?_;have x:=bq.ext ai;have aj:=ed.ext ai;have ew:(JA (MA ((List.range t).filter (PC (pA l) ps)))).length<=256:=by
   rw[SA,WA];have:=List.length_filter_le (PC (pA l) ps) (List.range t);rw[List.length_range]at this;omega
  refine kB (λB=>?_) (λB=>?_)
  ·refine WE TH RH rfl aj rfl (by omega) (by omega) (ax.trans ai).size λy' dy ho cb dm=>?_;have aa:=sE (S:=λc=>y.ownBlock=some c) cb λc d=>d;have cx:Vk w.heap.size dy q l ps ps.length (t+1) g vK vI ah (.slice none 0 0):=by
    obtain⟨us,F,M,R⟩:=x.inn;have bc:∀{c},y.ownBlock=some c-> ∃cs,GA KA cj c cs:=λd=>by
     obtain⟨cu,hh⟩:=Ow.ty aj d;exact⟨cu.toList,by unfold GA;rw[hh]⟩
    exact⟨x.loq,x.blk.ch aa λo=>aj.ne_blk x.blk (by decide) o,x.par.ch aa λc d o=>(by obtain⟨cs,hb⟩:=bc o;exact x.par.ne_blk hb (by decide) d),x.knd.ch aa λc d o=>ag c o d,⟨us,F.ch aa λc d o=>(by obtain⟨cs,hb⟩:=bc o;exact F.ne_blk hb (by decide) d),M,λj C=>let⟨u,H,a,E,e3⟩:=R j C;⟨u,H,a,dB.ch E aa λc d o=>(by obtain⟨cs,hb⟩:=bc o;exact dB.ne_blk E hb (by decide) d),e3⟩⟩,x.tru.ch aa λc d o=>bb c o d,x.ne⟩
   have fr:∀{u:Value} {aq:Nat} {e:TypeId} {ys:List Value},Ow aq e cj u ys->(∀c,y.ownBlock=some c->u.ownBlock=some c->False)-> ∀c,y'.ownBlock=some c->u.ownBlock=some c->False:=λK dn c n I=>by
    rcases dm with ar|⟨c',n1,n2⟩
    ·rw[ar]at n;exact dn c n I
    ·rw[n1]at n;cases n;have:=(K.blk _ I).2;omega
   refine qA (by omega) ?_;refine bw (y',t+1) _ ⟨ao,(ax.trans ai).grown cb λc d=>(aj.blk c d).1,ah,cx,?_,fr x.knd ag,fr x.tru bb⟩ (by show 2^ps.length-(t+1)<2^ps.length-t;omega);show Ow _ _ _ y' (JA (MA ((List.range (t+1)).filter (PC (pA l) ps))));rw[wO,B,if_pos rfl,XV];exact ho
  ·refine qA (by omega) ?_;refine bw (y,t+1) _ ⟨ao,ax.trans ai,ah,x,?_,ag,bb⟩ (by show 2^ps.length-(t+1)<2^ps.length-t;omega);show Ow _ _ _ y (JA (MA ((List.range (t+1)).filter (PC (pA l) ps))));rw[wO,B,if_neg (by decide),List.append_nil];exact aj
 obtain rfl:t=2^ps.length:=by omega
 have dc:Fs (pA l) ps ((List.range (2^ps.length)).filter (PC (pA l) ps)):=⟨λt J=>List.mem_range.1 (List.mem_filter.1 J).1,λt J=>(List.mem_filter.1 J).2,λee hB t J hg=>List.mem_filter.2 ⟨List.mem_range.2 J,hB.ok t J hg⟩⟩
 have cw:=ac.ext au;have ec:=hy.ext au;have ct:=cn.trans au;refine MB (λs:Value×List Nat=>[s.1]) (λs w'=>bA w w'/\Vk w.heap.size w' q l ps ps.length (2^ps.length) g vK vI vT (.slice none 0 0)/\Ow w.heap.size KA w' s.1 (JA (MA s.2))/\s.2.length<=2^ps.length/\Fs (pA l) ps s.2) (λs=>s.2.length) (y,(List.range (2^ps.length)).filter (PC (pA l) ps)) rfl ⟨ct,cw,ec,by have:=List.length_filter_le (PC (pA l) ps) (List.range (2^ps.length));rw[List.length_range]at this;exact this,dc⟩ ?_;rintro⟨y,T⟩ V K4 ⟨cp,br,ak,ba,P⟩ de;have ak:Ow w.heap.size KA V y (JA (MA T)):=ak;have ba:T.length<=2^ps.length:=ba;have P:Fs (pA l) ps T:=P;intro _;simp only[gx];refine PH λdr fa et av cy=>?_;have cg:=cp.size;refine MB (λs:Value×Nat=>[s.1,iv (s.2:Int)]) (λs w'=>s.2<=T.length/\bA w w'/\Vk w.heap.size w' q l ps ps.length (2^ps.length) g vK vI vT (.slice none 0 0)/\Ow w.heap.size KA w' y (JA (MA T))/\Ow V.heap.size KA w' s.1 (JA (MA ((T.take s.2).filter (rJ (pA l) ps T))))/\V.heap.size<=w'.heap.size/\bA V w') (λs=>T.length-s.2) (dr,0) rfl ⟨Nat.zero_le _,cp.trans av,br.ext av,ak.ext av,cy,by omega,av⟩ ?_;rintro⟨nx,k⟩ ck K5 ⟨hk,aw,z,W,U,ch,cr⟩ bz;have hk:k<=T.length:=hk;have U:Ow V.heap.size KA ck nx (JA (MA ((T.take k).filter (rJ (pA l) ps T)))):=U;have eu:∀c,y.ownBlock=some c->c<V.heap.size:=λc d=>(ak.blk c d).2;intro _;simp only[gx];refine WC (l:=T) W.sl (jB (dA (λad=>?_) (λad=>?_)))
 ·have G:k<T.length:=by omega
  have ca:∀{w':World} {bk:Value->Prop},Ow w.heap.size KA w' y (JA (MA T))->bk (iv ((gt T k:Nat):Int))->wA 1 y (iv k) λp=>kA w' p bk:=λY hK=>by
   refine tE Y.sl G λp hp=>DD hp ?_;rw[show T.getD k 0=gt T k by rw[LA G];simp[List.getD_eq_getElem?_getD,G]];exact hK
  have cc:gt T k∈T:=by rw[LA G];exact List.getElem_mem G
  refine ca W ?_;refine gA (m6 A z.spa hl W.sl (λu K=>⟨P.lt u K,P.lt u K⟩) (P.lt _ cc) (P.lt _ cc)) λfb D=>kB (λB=>?_) (λB=>?_)
  ·refine ca (W.ext D) ?_;have ej:(JA (MA ((T.take k).filter (rJ (pA l) ps T)))).length<=256:=by
    rw[SA,WA];have:=List.length_filter_le (rJ (pA l) ps T) (T.take k);rw[List.length_take]at this;omega
   refine WE TH RH rfl (U.ext D) rfl (by omega) (by omega) (Nat.le_trans ch D.size) λce dz ho di el=>?_;have bn:=sE (S:=λc=>nx.ownBlock=some c) di λc d=>d;have nb:∀c,nx.ownBlock=some c->V.heap.size<=c:=λc d=>(U.blk c d).1;have am:bA V dz:=(cr.trans D).thenCh bn nb;refine qA (by omega) ?_;refine bz (ce,k+1) _ ⟨G,(aw.trans D).thenCh bn λc d=>Nat.le_trans cg (nb c d),br.ext am,ak.ext am,?_,am.size,am⟩ (by show T.length-(k+1)<T.length-k;omega)
   ·show Ow _ _ _ ce (JA (MA ((T.take (k+1)).filter (rJ (pA l) ps T))));rw[jQ G,B,if_pos rfl,XV];exact ho
  ·refine qA (by omega) ?_;refine bz (nx,k+1) _ ⟨G,aw.trans D,z.ext D,W.ext D,?_,Nat.le_trans ch D.size,cr.trans D⟩ (by show T.length-(k+1)<T.length-k;omega);show Ow _ _ _ nx (JA (MA ((T.take (k+1)).filter (rJ (pA l) ps T))));rw[jQ G,B,if_neg (by decide),List.append_nil];exact U.ext D
 rw[List.take_of_length_le (by omega)]at U;refine WC (l:=T.filter (rJ (pA l) ps T)) U.sl (WC (l:=T) W.sl (BA (dA (λe=>?_) (λe=>?_))))
 ·have dq:=TY (p:=rJ (pA l) ps T) (L:=T) (by omega);refine bB (pB (QX z.blk (by simp) W.cell λcl az K=>?_));have az:GA ja cl q [sv l,g,vK,vI,vT,y,.slice none 0 0,.slice none 0 0]:=az;have bo:=K.ch (S:=λc=>c=q) rfl;have kp:∀{k aq ar:Nat} {e:TypeId} {u:Value} {ys:List Value},e≠ja->dB k aq e ck u ar ys->dB k aq e cl u ar ys:=λn I=>dB.ch I bo λc d o=>by subst o;exact dB.ne_blk I z.blk n d
  obtain⟨us,F,M,R⟩:=z.inn;refine⟨aw.thenCh bo λc d=>by have:=z.loq;omega,q,T,g,vK,vI,vT,y,rfl,⟨z.loq,az,kp (by decide) z.par,kp (by decide) z.knd,⟨us,kp (by decide) F,M,λj C=>let⟨u,H,a,E,e3⟩:=R j C;⟨u,H,a,kp (by decide) E,e3⟩⟩,kp (by decide) z.tru,z.ne⟩,kp (by decide) W,ba,P,dq⟩
 ·have ei:=List.length_filter_le (rJ (pA l) ps T) T;exact de (nx,T.filter (rJ (pA l) ps T)) _ ⟨aw,z,U.mono cg,by show(T.filter _).length<=_;omega,P.next⟩ (by show(T.filter (rJ (pA l) ps T)).length<T.length;omega)
end
theorem Vl(a:1<=x)(h:n<=f):x^n<=x^f:=Nat.pow_le_pow_right a h
theorem Zi:((List.range (n+1)).map λy=>bD (2^x-1) (2^y-1))=((List.range n).map λy=>bD (2^x-1) (2^y-1))++[bD (2^x-1) (2^n-1)]:=by rw[List.range_succ,List.map_append];rfl
theorem Qe(n k:Nat)(f:n<=256)(o:k<=1000)(w:World):CB prog 442 #[iv n,iv k] w (.bool (decide (n^k<=4096))):=by
 apply Qi;unfold R6;refine MB (λj:Nat=>[iv ((n^j:Nat):Int),iv j]) (λj i=>i=w/\n^j<=4096/\j<=k) (λj=>k-j) 0 rfl ⟨rfl,by simp,Nat.zero_le _⟩ ?_;rintro j r l ⟨rfl,c,m⟩ d;intro _;simp only[gx];refine jB (dA (λh=>?_) (λh=>?_))
 ·have p:n^j*n<=4096*256:=Nat.mul_le_mul c f;have e:((n^j:Nat):Int)*(n:Int)=((n^(j+1):Nat):Int):=by rw[Nat.pow_succ];simp
  have q:n^(j+1)=n^j*n:=Nat.pow_succ ..;refine Bj (by rw[e];omega) ?_;rw[e];refine jB (dA (λb=>?_) (λb=>?_))
  ·have g:1<=n:=by
    rcases Nat.eq_zero_or_pos n with a|a
    ·subst a;rw[Nat.pow_succ]at b;simp at b
    ·exact a
   have:=Vl g (show j+1<=k by omega);rw[decide_eq_false (by omega)];exact⟨by first|trivial|rfl,bA.refl _⟩
  ·refine qA (by omega) ?_;exact d (j+1) _ ⟨rfl,by omega,by omega⟩ (by omega)
 ·obtain rfl:j=k:=by omega
  rw[decide_eq_true c];exact⟨by first|trivial|rfl,bA.refl _⟩
theorem MQ(n k:Nat)(c:1<=n/\n<=256)(q:k<=1000)(w:World):nA prog 363 #[iv n,iv k] w λr b=>b=w/\ ∃z:Nat,r=iv z/\(4096<z↔4096<n^k)/\(n^k<=4096->z=n^k):=by
 apply F8;unfold LS;refine MB (λj:Nat=>[iv ((k-j:Nat):Int),iv ((n^j:Nat):Int)]) (λj b=>b=w/\n^j<=4096*256/\j<=k) (λj=>k-j) 0 (by simp) ⟨rfl,by simp,Nat.zero_le _⟩ ?_;rintro j i o ⟨rfl,t,p⟩ g;intro _;refine WB (λm b=>m=[.bool (decide (j<k)&&decide (n^j<=4096))]/\b=i) (λJ f=>?_) ?_
 ·simp only[gx];refine jB (dA (λh=>?_) (λh=>?_))
  ·refine LF (f _ _ ⟨?_,rfl⟩);rw[decide_eq_true (show j<k by omega),Bool.true_and]
   congr 2
   exact decide_eq_decide.2 (by omega)
  ·exact f _ _ ⟨by rw[decide_eq_false (show¬j<k by omega),Bool.false_and],rfl⟩
 rintro _ l ⟨rfl,rfl⟩;intro _;simp only[gx];refine kB (λd=>?_) (λd=>?_)
 ·rw[Bool.and_eq_true,decide_eq_true_eq,decide_eq_true_eq]at d;have s:n^j*n<=4096*256:=Nat.mul_le_mul d.2 c.2;have e:((n^j:Nat):Int)*(n:Int)=((n^(j+1):Nat):Int):=by rw[Nat.pow_succ];simp
  have u:n^(j+1)=n^j*n:=Nat.pow_succ ..;refine Bj (by rw[e];omega) ?_;rw[e];refine HB (by omega) ?_;have:=g (j+1) l ⟨rfl,by omega,by omega⟩ (by omega)
  rwa [show((k-(j+1):Nat):Int)=((k-j:Nat):Int)-1 by omega]at this
 ·refine⟨by first|trivial|rfl,n^j,rfl,?_,λh=>?_⟩
  ·rcases Nat.lt_or_ge j k with a|a
   ·rw[decide_eq_true a,Bool.true_and,decide_eq_false_iff_not]at d;have:=Vl c.1 (show j<=k by omega);omega
   ·rw[show j=k by omega]
  ·rcases Nat.lt_or_ge j k with a|a
   ·rw[decide_eq_true a,Bool.true_and,decide_eq_false_iff_not]at d;have:=Vl c.1 (show j<=k by omega);omega
   ·rw[show j=k by omega]
theorem Q5(a:Ow x KA w v (JA (MA m))):nA prog 445 #[v] w λr g=>bA w g/\r= .agg #[iv (m.length:Int),v]:=by
 apply Na;unfold EU;refine iC λq k j b e=>?_;refine gA (AF (a.ext b).sl) λl c=>?_;rw[SA,WA];refine GD (cs:=#[iv (m.length:Int),v]) (by simp[Instr.fill,sA a.cell,sA (show vA (iv (m.length:Int))=true from rfl)]) ?_;exact RJ (e.ext c) rfl a.cell λn d f=>DB f rfl ⟨(b.trans c).thenCh d λh i=>by omega,rfl⟩
theorem l9(E:n<=7)(w:World):nA prog 282 #[iv n] w λH b=>bA w b/\ ∃u,H= .agg #[iv n,u]/\Ow w.heap.size KA b u (JA (MA (Xn n))):=by
 have l:∀{x:Nat},x<=7->0<(2:Nat)^x/\(2:Nat)^x<=128:=λ{x} r=>⟨Nat.pow_pos (by decide),by have:=Nat.pow_le_pow_right (n:=2) (by decide) r;omega⟩
 apply Fa;unfold wU;refine iC λR g O m t=>?_;have I:=m.size;refine MB (λs:Value×Nat=>[s.1,iv (s.2:Int)]) (λs b=>s.2<=n/\bA g b/\Ow g.heap.size KA b s.1 (JA (MA ((List.range s.2).map λy=>bD (2^n-1) (2^y-1))))) (λs=>n-s.2) (.slice none 0 0,0) rfl ⟨Nat.zero_le _,bA.refl _,Ow.nil _ _ _⟩ ?_;rintro⟨y,x⟩ J M ⟨k,d,a⟩ A;have k:x<=n:=k;have a:Ow g.heap.size KA J y (JA (MA ((List.range x).map λy=>bD (2^n-1) (2^y-1)))):=a;have j:(JA (MA ((List.range x).map λy=>bD (2^n-1) (2^y-1)))).length=x:=by rw[SA,WA];simp
 intro _;simp only[gx];refine jB (dA (λD=>?_) (λD=>?_))
 ·have G:x<n:=by omega
  have P:=l E;have Q:=l (show x<=7 by omega);refine HH (by omega) (HB (by omega) (HH (by omega) (HB (by omega) ?_)));rw[show((2^n:Nat):Int)-1=((2^n-1:Nat):Int)by omega,show((2^x:Nat):Int)-1=((2^x-1:Nat):Int)by omega];refine VI (by omega) (by omega) λT K=>?_;refine fF rfl rfl λN U _ L z=>λV o=>?_;have X:=(K.trans L).trans o;refine A2 TH RH rfl (a.ext X) (Sl.ofBlk (n:=1) (z.ext o) rfl (by decide)) (by simp[vA]) (by rw[j];simp;omega) (by rw[j];simp;omega) (d.trans X).size λq W F C _=>λY p=>?_;refine qA (by omega) ?_;refine A (q,x+1) _ ⟨G,((d.trans X).grown C λf c=>((a.ext X).blk f c).1).trans p,?_⟩ (by show n-(x+1)<n-x;omega);show Ow _ _ _ q (JA (MA ((List.range (x+1)).map λy=>bD (2^n-1) (2^y-1))));rw[Zi,XV];exact F.ext p
 ·obtain rfl:x=n:=by omega
  refine aA ((Q5 a).mono ?_);rintro _ Z ⟨e,rfl⟩;have i:=t.ext (d.trans e);rw[show((List.range x).map λy=>bD (2^x-1) (2^y-1)).length=x by simp];refine RJ i rfl a.cell λS h v=>DB v rfl ⟨((m.trans d).trans e).thenCh h λf c=>by omega,y,rfl,?_⟩;exact((a.ext e).ch h λf c B=>by subst B;exact(a.ext e).ne_blk i (by decide) c).mono I
theorem r6(F:n<=7)(w:World):nA prog 532 #[iv n] w λI b=>bA w b/\ ∃u,I= .agg #[iv n,u]/\Ow w.heap.size KA b u (JA (MA (Xn n))):=by
 have o:∀{x:Nat},x<=7->0<(2:Nat)^x/\(2:Nat)^x<=128:=λ{x} t=>⟨Nat.pow_pos (by decide),by have:=Nat.pow_le_pow_right (n:=2) (by decide) t;omega⟩
 apply H8;unfold NS;refine iC λT g P h z=>PH λJ W Q L v=>?_;have U:=h.size;refine MB (λs:Value×Nat=>[s.1,iv (s.2:Int)]) (λs b=>s.2<=n/\bA g b/\Ow g.heap.size KA b s.1 (JA (MA ((List.range s.2).map λy=>bD (2^n-1) (2^y-1))))) (λs=>n-s.2) (J,0) rfl ⟨Nat.zero_le _,L,v⟩ ?_;rintro⟨y,x⟩ p O ⟨m,c,a⟩ B;have m:x<=n:=m;have a:Ow g.heap.size KA p y (JA (MA ((List.range x).map λy=>bD (2^n-1) (2^y-1)))):=a;have k:(JA (MA ((List.range x).map λy=>bD (2^n-1) (2^y-1)))).length=x:=by rw[SA,WA];simp
 intro _;simp only[gx];refine jB (dA (λE=>?_) (λE=>?_))
 ·have H:x<n:=by omega
  have R:=o F;have S:=o (show x<=7 by omega);refine gA (oG n (by omega) p) λK M=>gA (oG x (by omega) K) λY N=>?_;have X:=M.trans N;refine VI (by omega) (by omega) ?_;refine WE TH RH rfl (a.ext X) rfl (by rw[k];omega) (by rw[k];omega) (c.trans X).size λr Z G D _=>?_;refine qA (by omega) ?_;refine B (r,x+1) _ ⟨H,(c.trans X).grown D λe d=>((a.ext X).blk e d).1,?_⟩ (by show n-(x+1)<n-x;omega);show Ow _ _ _ r (JA (MA ((List.range (x+1)).map λy=>bD (2^n-1) (2^y-1))));rw[Zi,XV];exact G
 ·obtain rfl:x=n:=by omega
  refine aA ((M9 (l:=(List.range x).map λy=>bD (2^x-1) (2^y-1)) a.sl (by simp;omega)).mono ?_);rintro _ w9 ⟨q,u,rfl,f⟩;have j:=z.ext (c.trans q);rw[show((List.range x).map λy=>bD (2^x-1) (2^y-1)).length=x by simp];refine RJ j rfl f.cell λV i A=>DB A rfl ⟨((h.trans c).trans q).thenCh i λe d=>by omega,u,rfl,?_⟩;exact(f.ch i λe d C=>by subst C;exact f.ne_blk j (by decide) d).mono (h.trans c).size
def fc:Option Nat->Fence
 |none=>Fence.wide
 |some l=>Fence.wide.inRound l
theorem Af(r:Option Nat)(f:FuncId):(fc r).fn f:=by cases r<;>trivial
theorem mc(r:Option Nat):(fc r).depth=none:=by cases r<;>rfl
theorem sj(r:Option Nat):(fc r).round=r:=by cases r<;>rfl
section
variable{P:Program}
theorem Pb(r:Option Nat){R:Ending->World->Prop}(a:Calls P W h w R):CallsIn (fc r) x P W h w R:=by
 cases r with
 |none=>exact callsIn_wide.2 a
 |some l=>exact CallsIn.inRound l (callsIn_wide.2 a)
theorem np(r:Option Nat){a:String}(d:Rows P a h w t):RowsIn (fc r) x P a h w t:=by
 intro c b _;obtain⟨v,f,hR,e⟩:=d c b;have:=stepsIn_wide.2 e;cases r<;>exact⟨v,f,hR,this⟩
theorem lm(r:Option Nat){a b:Code}{R:Ending->World->Prop}(e:RoundIn Fence.wide n P f W h a b w R):RoundIn (fc r) x P f W h a b w R:=by
 refine⟨Af r W,λc d _=>?_⟩;have:=e.2 c d (room_wide _);cases r<;>exact this
theorem KR(r:Option Nat){Q:Exit->Act->World->Prop}(d:∀c,D.op≠ .defer c)(h:D.wp P M w L Q):D.wpIn (fc r) x P M w L Q:=by
 unfold Oper.wp at h;unfold Oper.wpIn;refine⟨λf _=>Af r f,?_⟩;have e:D.semAt (fc r).round M.eval=execOp M.eval D:=by
  rw[sj];cases r with
  |none=>exact Oper.semAt_none _ _
  |some l=>exact Oper.semAt_some l _ _ d
 rw[e];generalize(execOp M.eval D).run P w=a at*;have b:(fc r).depth.isSome=true->1<=x:=λh=>by rw[mc]at h;cases h
 cases a with
 |ok nx g=>
  cases nx<;>simp only[Oper.upon,Oper.uponIn]at h⊢ <;>
   first
    |exact h
    |exact⟨b,Pb r h⟩
    |exact⟨b,np r h⟩
    |exact h.elim
 |halt a g=>cases a<;>simp only[Oper.upon,Oper.uponIn]at h⊢ <;>exact h
def callY(P:Program)(b:Value)(a:List Value)(w:World)(K:Value->World->Prop):Prop:=
 TB P b a w K∨ ∃l,b= .func (.yield l) #[] #[]/\YieldAt Fence.wide 0 P l a.toArray w λe c=>∃v,e= .returned v/\K v c
theorem callY.mono{c:Value->World->Prop}(h:callY P v y w t)(d:∀a b,t a b->c a b):callY P v y w c:=by
 rcases h with h|⟨m,k,g,n,e,f,l,j⟩
 ·exact .inl (h.mono d)
 ·exact .inr ⟨m,k,g,n,e,f,l,j.mono λo b ⟨a,i,h⟩=>⟨a,i,d _ _ h⟩⟩
def Zw(o:Oper):Option (Operand×Array Operand):=
 match o.op with
 | .call c=>(match c.callee with
  | .value (.tmp t)=>some (.tmp t,c.args)
  |_=>none)
 |_=>none
def Fq(P:Program)(o:Oper)(a:dE)(w:World)(K:Value->World->Prop):Prop:=
 match Zw o with
 |some (f,args)=>callY P (ev a f) (Y8 a args) w K
 |none=>lT P o a w K
theorem Ge(h:lT P D Q w t):∀c,D.op≠ .defer c:=by
 intro c e;unfold lT at h;rw[e]at h;exact h
theorem mi(h:HC P D=true):∀c,D.op≠ .defer c:=by
 intro c e;unfold HC at h;rw[e]at h;simp only[KZ]at h;rw[e]at h;cases h
theorem Gq(r:Option Nat){c:dE}{Q:Exit->Act->World->Prop}(o:M.eval=ev c)(h:Fq P D c w t):D.wpIn (fc r) 0 P M w (Nx D M t) Q:=by
 unfold Fq at h;split at h
 ·rename_i u H a;obtain⟨k,F,s,q,i,m⟩:=D;unfold Zw at a;split at a
  ·rename_i g p;have p:F= .call g:=p;subst p;obtain⟨x,b,j⟩:=g;split at a
   ·rename_i f n;have n:x= .value (.tmp f):=n;subst n;injection a with a
    injection a with z A
    subst z;subst A;have v:execOp M.eval ⟨k,.call ⟨.value (.tmp f),b,j⟩,s,q,i,m⟩=(do let d<-Deferred.ofValue (ev c (.tmp f)) (Y8 c b).toArray;invoke d.target d.args):=by
     rw[DZ o,<-o];simp only[execOp,resolve]
    rcases h with h|⟨l,C,K,L,I,J,E,B⟩
    ·exact KR r (by intro g e;cases e) (sg v h)
    ·unfold Oper.wpIn;refine⟨λu _=>Af r u,?_⟩;have e:(⟨k,.call ⟨.value (.tmp f),b,j⟩,s,q,i,m⟩:Oper).semAt (fc r).round M.eval=execOp M.eval ⟨k,.call ⟨.value (.tmp f),b,j⟩,s,q,i,m⟩:=by
      rw[sj];cases r with
      |none=>exact Oper.semAt_none _ _
      |some l=>exact Oper.semAt_some l _ _ (by intro g e;cases e)
     rw[e,v,C];have y:(do let d<-Deferred.ofValue (.func (.yield l) #[] #[]) (Y8 c b).toArray;invoke d.target d.args:Sem Next).run P w=(Instr.yield l (Y8 c b).toArray).run P w:=by
      simp[Deferred.ofValue,invoke]
     rw[y,E,Oper.uponIn_round];refine⟨(λh=>by rw[mc]at h;cases h),(lm r B).mono ?_⟩;rintro e N ⟨G,rfl,hK⟩;exact⟨G,rfl,hK⟩
   ·cases a
  ·cases a
 ·exact KR r (Ge h) (U9 o h)
def Zx(D:Nat):Deferred:={target:=.collected D,args:=#[]}
structure Uk(n:Nat)(ds:List Nat)(env:dE)(a:Act):Prop where
 defers:a.defers=ds.map Zx
 ag:Ag n env {a with defers:=[]}
variable{n:Nat}
theorem Uk.eval(h:Uk n m Q M):M.eval=ev Q:=by
 have:=h.ag.eval;rw[<-this];rfl
theorem Vh{W:List Nat}{a:Option Nat}{K:dE->Prop}(h:GN n Q a v I K)(e:Uk n m Q M)(k:∀b,I=some b->v=kv b)(j:∀d,a=some d->d∈W):
  ∃c,K c/\Uk n m c (M.put a v)/\RB W Q c:=by
 obtain⟨c,f,g,i⟩:=NO h e.ag k j;exact⟨c,f,⟨by cases a<;>exact e.defers,by cases a<;>exact g⟩,i⟩
def Th(P:Program)(n:Nat)(c:Array Oper):List Oper->dE->World->VJ->Prop
 |[],a,w,K=>K a w
 |o::r,a,w,K=>I7 c o a
  (λa=>match HC P o with
   |true=>FH P o a w λv d=>GN n a o.dst v d λb=>Th P n c r b w K
   |false=>Fq P o a w λv e=>GN n a o.dst v none λb=>Th P n c r b e K)
  (λa=>GN n a o.dst undef (some none) λb=>Th P n c r b w K)
theorem wn(r:Option Nat){W:List Nat}{Q:Exit->Act->World->Prop}{K:VJ}:∀(q:List Oper) (k:dE) (a:Act) (w:World),
  Th P n O q k w K->Uk n m k a->(∀o∈q,∀d,o.dst=some d->d∈W)->
  (∀l b c,K l c->Uk n m l b->RB W k l->Q .normal b c)->wpListIn (fc r) 0 P O Q q a w:=by
 intro q
 induction q with
 |nil=>intro k a w u s _ y;exact y k a w u s (RB.refl _ _)
 |cons o rs ih=>
  intro k a w u s A y;have v:∀d,o.dst=some d->d∈W:=A o (by simp);have G:∀o∈rs,∀d,o.dst=some d->d∈W:=λR L=>A R (by simp[L]);obtain⟨z,f,N,H⟩:=VQ (a:={a with defers:=[]}) u s.ag W;have f:Uk n m z a:=⟨s.defers,f⟩
  have next:∀{e:dE} {b c},Th P n O rs e c K->Uk n m e b->RB W z e->wpListIn (fc r) 0 P O Q rs b c:=λ{e b c} g h i=>
   ih e b c g h G λl b c hK p F=>y l b c hK p ((N.trans i).trans F)
  unfold wpListIn;rcases H with⟨j,p⟩|⟨j,E⟩
  ·have j:Region.wanted o (yielded O a.tmps)=true:=j;rw[if_pos j];split at p
   ·rename_i B;obtain⟨S,T,M,x,J⟩:=ni f.eval f.ag.ok B p;refine KR r (mi B) ?_;unfold Oper.wp;rw[M w (bA.refl w),Oper.upon_value];obtain⟨e,g,h,i⟩:=Vh x f J v;exact next g h i
   ·have:=Gq (Q:=Q) r f.eval p;refine Oper.wpIn_mono (λb c ⟨S,I,x⟩=>?_) this;obtain⟨e,g,h,i⟩:=Vh x f (λC t=>by cases t) v;rw[I];exact next g h i
  ·have j:Region.wanted o (yielded O a.tmps)=false:=j;rw[if_neg (by rw[j];simp)];obtain⟨e,g,h,i⟩:=Vh E f (λC t=>by cases t;rfl) v;exact⟨λD _=>Af r D,next g h i⟩
abbrev jY:=List Nat->dE->World->Prop
def Gi(D:Nat)(w:World):Prop:=w.heap[D]?=some (.deferred (some []))
def Cs(P:Program)(r:Value)(s:Nat)(w:World)(B:Nat->(World->Prop)->(World->Prop)->(Ex->World->Prop)->List Value->World->(Value->World->Prop)->Prop)(K:Nat->World->Prop)(p:Nat->Nat->World->Prop)(q:Nat->World->Prop):Prop:=
 ∃j o,r= .func (.func j) #[] o/\Mp P j/\ ∀(l:Nat) (b h:World->Prop) (d:Ex->World->Prop) (g:World),
  l=w.heap.size+1->g.heap.size=w.heap.size+2->bA w g->b g->
  (∀(S:Nat->Prop) (W f:World),Ch S W f-> ¬S l-> ¬S w.heap.size->(b W->b f)/\(h W->h f)/\ ∀k,d k W->d k f)->
  (∀i W T,b W->i.length=s->B l b h d i W T->callY P (.func (.yield l) #[] #[]) i W T)->
  nA P j (#[.func (.yield l) #[] #[]]++o) g λ_ c=>
   (b c/\ ∀a,Ch (λe=>e=l) c a->Gi w.heap.size a->K w.heap.size a)∨
   (∃m,d (.ext m) c/\ ∀a,Ch (λe=>e=l) c a->Gi w.heap.size a->p m w.heap.size a)∨(d .ret c/\ ∀a,Ch (λe=>e=l) c a->Gi w.heap.size a->q w.heap.size a)
def Jx(i j:Nat)(A B:Prop):Prop:=match Nat.beq i j with
 |true=>A
 |false=>B
def ox(f:Ex)(l:Nat)(b:World->Prop)(d:Ex->World->Prop)(T:Value->World->Prop)(W:World):Prop:=
 match f with
 | .nrm=>∀a,Ch (λc=>c=l) W a->b a->T (.bool true) a
 |e=>∀a,Ch (λc=>c=l) W a->d e a->T (.bool false) a
def Hn(next:jY)(Q:Ex->jY):Ex->jY
 | .nrm,ds,env,w=>next ds env w
 |e,ds,env,w=>Q e ds env w
def il(id:Nat)(Q:Ex->jY):Ex->jY
 | .ext i,ds,env,w=>match Nat.beq i id with
  |true=>Q .nrm ds env w
  |false=>Q (.ext i) ds env w
 |e,ds,env,w=>Q e ds env w
def ER(a:Array Oper):Bool:=a.toList.all λo=>match o.op with| .defer _=>false|_=>true
def gQ(P:Program)(n:Nat):Bool->Code->WQ->(Ex->jY)->List Nat->dE->World->Prop
 |_,.skip,_,Q,d,c,w=>Q .nrm d c w
 |_,.label _,_,Q,d,c,w=>Q .nrm d c w
 |_,.ret,_,Q,d,c,w=>Q .ret d c w
 |_,.exit id,_,Q,d,c,w=>Q (.ext id) d c w
 |_,.region _ ops false,h,Q,d,c,w=>match hK h with
  |none=>Th P n ops ops.toList c w (Q .nrm d)
  |some keep=>Jf n keep (CZ ops.toList) c (Q .nrm d) λJ=>Th P n ops ops.toList c w J
 |false,.region id ops true,h,Q,[],c,w=>De P n (.region id ops true) h (λj=>Q j []) c w
 |true,.region id ops true,h,Q,[],c,w=>match Region.noSelect ops&&ER ops with
  |true=>De P n (.region id ops true) h (λj=>Q j []) c w
  |false=>False
 |r,.seq a b,h,Q,d,c,w=>gQ P n r a (hL h) (Hn (gQ P n r b (hR h) Q) Q) d c w
 |r,.cond i x y,h,Q,d,c,w=>Tb c i (λc=>gQ P n r x (hL h) Q d c w) (λc=>gQ P n r y (hR h) Q d c w)
 |r,.block id b,h,Q,d,c,w=>gQ P n r b h (il id Q) d c w
 |r,.loop b,h,Q,d,c,w=>match PO n ((hK h).getD [])&&PO n (wr b)with
  |true=>lp (λt E w=>∀F:Nat->Value,gQ P n r b (hL h) (Hn (λz A D=>z=d/\t (OX ((hK h).getD []) A) D) Q) d (cT ((hK h).getD []) 0 E (dT (wr b) F c)) w) (OX ((hK h).getD []) c) w
  |false=>False
 |false,.rangeFunc g ps assign body,h,Q,[],c,w=>match ps.toList with
  |[p]=>(match Nat.blt p n with
   |true=>Cs P (ev c g) 1 w (λs m l u v W T=>gQ P n true assign .leaf (λk d B q=>match k with
    | .nrm=>d=[]/\m q/\ ∀f,Ch (λi=>i=s) q f->l f->gQ P n true body h (λk d _ o=>d=[]/\l o/\ox k s m u T o) [] B f
    |_=>False) [] (⟨p,gx v 0,none⟩::c) W) (λe W=>Q .nrm [e] c W) (λC e W=>Q (.ext C) [e] c W) (λe W=>Q .ret [e] c W)
   |false=>False)
  |_=>False
 |_,_,_,_,_,_,_=>False
def Ks(n:Nat)(W:List Nat)(f:dE)(Q:Ex->jY):Exit->Act->World->Prop:=
 λe d w=>∃c b a,f5 e=some c/\Q c b a w/\Uk n b a d/\RB W f a
theorem Ks.weaken{a:List Nat}{c:dE}{b:Ex->jY}(o:RB a Q c)(p:∀s,s∈m->s∈a){e:Exit}(h:Ks n m c b e M w):Ks n a Q b e M w:=by
 obtain⟨g,d,f,i,j,k,l⟩:=h;exact⟨g,d,f,i,j,k,o.trans (l.mono p)⟩
theorem sI{o:Obj}:Ch (λc=>c=x) w (w.putObj x o):=
 ⟨rfl,rfl,rfl,by rw[World.putObj_size];exact Nat.le_refl _,λ_ _ h=>World.putObj_heap_other h⟩
def zl:Ex->Code
 | .nrm=>.skip
 | .ext i=>.exit i
 | .ret=>.ret
theorem Ql(h:ER O=true)(b:O[x]?=some D):∀c,D.op≠ .defer c:=by
 have a:=List.all_eq_true.1 h D (by simpa using Array.mem_of_getElem? b);intro c e;rw[e]at a;cases a
theorem ws{d:Act->World->Prop}(h:D.wp P M w L (λ_ _ _=>False))(b:∀M w,L M w->d M w):D.wp P M w d c:=by
 unfold Oper.wp at*;generalize(execOp M.eval D).run P w=r at*;cases r with
 |ok n g=>
  cases n<;>simp only[Oper.upon]at h⊢ <;>
   first
    |exact b _ _ h
    |exact Calls.mono h (λe i a=>by cases e<;>first|exact b _ _ a|exact a.elim|exact(let⟨_,_,f⟩:=a;f.elim))
    |exact Rows.mono h (λ_ _ a=>b _ _ a)
 |halt x g=>cases x<;>simp only[Oper.upon]at h
theorem Pk(r:Option Nat){e:Act->World->Prop}(g:ER O=true)(h:wpOp P O (λ_ _ _=>False) x L M w)(b:∀M w,L M w->e M w):wpOpIn (fc r) 0 P O c x e M w:=by
 unfold wpOp at h;unfold wpOpIn;split
 ·rename_i a;simp only[a]at h;exact b _ _ h
 ·rename_i o a;simp only[a]at h;split
  ·rename_i d;simp only[d,if_true]at h;rcases h with h|⟨_,M,w,h⟩
   ·exact KR r (Ql g a) (ws h b)
   ·exact h.elim
  ·rename_i d;simp only[d]at h;exact⟨λf _=>Af r f,b _ _ h⟩
theorem FL(r:Option Nat)(d:ER O=true)(hQ:∀a w,L a w->c .normal a w):∀(b:Nat) (e:Array Bool) (a:Act) (w:World),
  lL P V m O L b e a w->wpAnyIn (fc r) 0 P .any O c b e a w
 |0,_,_,w,h=>⟨(h w (bA.refl w)).1,hQ _ _ (h w (bA.refl w)).2⟩
 |b+1,_,_,w,h=>⟨λg=>hQ _ _ ((h w (bA.refl w)).1 g),λk j=>Pk r d ((h w (bA.refl w)).2 k j) λf l i=>FL r d hQ b _ f l i.2⟩
theorem kg(r:Option Nat){id:Nat}{j:VJ}(v:P.follows .mixedOrders=true)(q:Region.noSelect O=true)(p:ER O=true)
  (h:Vt P n O true K m Q w j)(l:Ag n Q M)(hQ:∀a b d,j a d->Ag n a b->RB (CZ O.toList) Q a->c .normal b d):(Code.region id O true).wpIn (fc r) 0 P c M w:=by
 have k:∀(s:Nat) (o:Oper),O[s]?=some o-> ∀e,o.dst=some e->e∈CZ O.toList:=λs o x e u=>
  List.mem_filterMap.2 ⟨o,by simpa using Array.mem_of_getElem? x,u⟩
 refine wpIn_region_any v ?_;cases K with
 |false=>
  have:=xq q (W:=CZ O.toList) k O.size _ Q M w h l (QW _);exact FL r p (λb d ⟨a,f,g,i⟩=>hQ a b d f g i) _ _ _ _ (this.later (bA.drew w))
 |true=>
  obtain⟨E,t,h⟩:=Cn h;have:=yq t q (W:=CZ O.toList) k O.size _ Q M w h l (QW _);exact FL r p (λb d ⟨a,f,g,i⟩=>hQ a b d f g i) _ _ _ _ (this.later (bA.drew w))
theorem Ps(hm:P.follows .mixedOrders=true):∀(C:Code) (r:Option Nat) (h:WQ) (Q:Ex->jY) (c:List Nat) (b:dE) (d:Act) (w:World),(r=none->gH C=true)->gQ P n r.isSome C h Q c b w->Uk n c b d->
  C.wpIn (fc r) 0 P (Ks n (wr C) b Q) d w:=by
 intro C
 induction C with
 |skip=>intro r h Q c b d w _ a i;cases r<;>exact wpIn_skip ⟨.nrm,c,b,rfl,a,i,RB.refl _ _⟩
 |label Y=>intro r h Q c b d w _ a i;cases r<;>exact wpIn_label ⟨.nrm,c,b,rfl,a,i,RB.refl _ _⟩
 |ret=>intro r h Q c b d w _ a i;cases r<;>exact wpIn_ret ⟨.ret,c,b,rfl,a,i,RB.refl _ _⟩
 |exit id=>intro r h Q c b d w _ a i;cases r<;>exact wpIn_exit ⟨.ext id,c,b,rfl,a,i,RB.refl _ _⟩
 |goto=>intro r h Q c b d w _ a _;cases r<;>exact a.elim
 |refuse=>intro r h Q c b d w _ a _;cases r<;>exact a.elim
 |scope=>intro r h Q c b d w _ a _;cases r<;>exact a.elim
 |region id ops draw=>
  intro r h Q c b d w K a i;cases draw with
  |false=>
   have a:(match hK h with
    |none=>Th P n ops ops.toList b w (Q .nrm c)
    |some ad=>Jf n ad (CZ ops.toList) b (Q .nrm c) λae=>Th P n ops ops.toList b w ae):=by cases r<;>exact a
   refine wpIn_region_list ?_;split at a
   ·exact wn r (W:=CZ ops.toList) ops.toList b d w a i (λo ho u a=>List.mem_filterMap.2 ⟨o,ho,a⟩) λe B t hK m R=>⟨.nrm,c,e,rfl,hK,m,R⟩
   ·obtain⟨ae,hJ,hK⟩:=I2 a i.ag.ok;refine wn r (W:=CZ ops.toList) ops.toList b d w hJ i (λo ho u a=>List.mem_filterMap.2 ⟨o,ho,a⟩) λe B t hj m R=>?_;obtain⟨E,f,l,p⟩:=hK e {B with defers:=[]} t hj m.ag R;exact⟨.nrm,c,E,rfl,f,⟨m.defers,l⟩,p⟩
  |true=>
   cases c with
   |cons u c=>cases r<;>exact a.elim
   |nil=>
   have m:Ag n b d:=by
    have f:=i.ag;have l:d.defers=[]:=i.defers;exact⟨l,f.size,f.vals,f.ok⟩
   cases r with
   |some Y=>
    have a:(match Region.noSelect ops&&ER ops with
     |true=>De P n (.region id ops true) h (λj=>Q j []) b w
     |false=>False):=a
    cases S:Region.noSelect ops&&ER ops with
    |false=>rw[S]at a;exact a.elim
    |true=>
     rw[S]at a;rw[Bool.and_eq_true]at S;simp only[De]at a;split at a
     ·exact kg _ hm S.1 S.2 a m λe B t hK m R=>⟨.nrm,[],e,rfl,hK,⟨m.defers,⟨rfl,m.size,m.vals,m.ok⟩⟩,R⟩
     ·obtain⟨ae,hJ,hK⟩:=I2 a m.ok;exact kg _ hm S.1 S.2 hJ m λe B t hj m R=>by
       obtain⟨E,f,l,p⟩:=hK e B t hj m R;exact⟨.nrm,[],E,rfl,f,⟨l.defers,⟨rfl,l.size,l.vals,l.ok⟩⟩,p⟩
   |none=>
     have a:De P n (.region id ops true) h (λj=>Q j []) b w:=a;refine wpIn_wide.2 (wp_mono (uq hm _ h _ b d w (K rfl) a m) λj B t s=>?_);obtain⟨z,e,f,l,p,O⟩:=s;exact⟨z,[],e,f,l,⟨p.defers,⟨rfl,p.size,p.vals,p.ok⟩⟩,O⟩
 |seq x y ihx ihy=>
  intro r h Q c b d w K a i;have aj:r=none->gH x=true:=λh=>by have:=K h;simp only[gH,Bool.and_eq_true]at this;exact this.1
  have ak:r=none->gH y=true:=λh=>by have:=K h;simp only[gH,Bool.and_eq_true]at this;exact this.2
  have a:gQ P n r.isSome x (hL h) (Hn (gQ P n r.isSome y (hR h) Q) Q) c b w:=by cases r<;>exact a
  refine wpIn_seq (wpIn_mono (ihx r (hL h) _ c b d w aj a i) λj B t s=>?_);obtain⟨z,N,e,f,l,p,O⟩:=s;have ag:RB (wr (.seq x y)) b e:=O.mono λam hs=>by simp[wr,hs]
  cases j<;>simp only[f5,Option.some.injEq]at f<;>first|(cases f;done)|skip
  ·subst f;exact wpIn_mono (ihy r (hR h) Q N e B t ak l p) λj d w s=>s.weaken ag λam hs=>by simp[wr,hs]
  ·subst f;exact⟨_,N,e,rfl,l,p,ag⟩
  ·subst f;exact⟨_,N,e,rfl,l,p,ag⟩
 |cond C x y ihx ihy=>
  intro r h Q c b d w K a i;have aj:r=none->gH x=true:=λh=>by have:=K h;simp only[gH,Bool.and_eq_true]at this;exact this.1
  have ak:r=none->gH y=true:=λh=>by have:=K h;simp only[gH,Bool.and_eq_true]at this;exact this.2
  have a:Tb b C (λb=>gQ P n r.isSome x (hL h) Q c b w) (λb=>gQ P n r.isSome y (hR h) Q c b w):=by cases r<;>exact a
  obtain⟨J,e,G,m,R,s⟩:=jj a i.ag (wr x++wr y);have m:Uk n c e d:=⟨i.defers,m⟩
  have G:d.eval C= .bool J:=G;cases J
  ·exact wpIn_cond G (wpIn_mono (ihy r (hR h) Q c e d w ak (by simpa using s) m) λj d w s=>s.weaken R λam hs=>by simp[hs])
  ·exact wpIn_cond G (wpIn_mono (ihx r (hL h) Q c e d w aj (by simpa using s) m) λj d w s=>s.weaken R λam hs=>by simp[hs])
 |block id J ih=>
  intro r h Q c b d w K a i;have a:gQ P n r.isSome J h (il id Q) c b w:=by cases r<;>exact a
  refine wpIn_block (wpIn_mono (ih r h _ c b d w K a i) λj B t s=>?_);obtain⟨z,N,e,f,l,p,O⟩:=s;cases j<;>simp only[f5,Option.some.injEq]at f<;>first|(cases f;done)|skip
  ·subst f;exact⟨_,N,e,rfl,l,p,O⟩
  ·rename_i L;subst f;simp only[Exit.inBlock,il]at l⊢;split at l
   ·rename_i j;rw[if_pos (Nat.eq_of_beq_eq_true j)];exact⟨.nrm,N,e,rfl,l,p,O⟩
   ·rename_i j;rw[if_neg (λh=>by subst h;simp at j)];exact⟨_,N,e,rfl,l,p,O⟩
  ·subst f;exact⟨_,N,e,rfl,l,p,O⟩
 |loop J ih=>
  intro r h Q c b d w K a i;have a:(match PO n ((hK h).getD [])&&PO n (wr J)with
   |true=>lp (λKn xs w=>∀ys:Nat->Value,gQ P n r.isSome J (hL h) (Hn (λN e t=>N=c/\Kn (OX ((hK h).getD []) e) t) Q) c (cT ((hK h).getD []) 0 xs (dT (wr J) ys b)) w) (OX ((hK h).getD []) b) w
   |false=>False):=by cases r<;>exact a
  split at a
  ·obtain⟨av,⟨m0,h0⟩,bo⟩:=a;generalize bu:(hK h).getD []=ad at*;refine wpIn_loop_ghost (λal B t=>∃e,Uk n c e B/\RB (wr J) b e/\av al (OX ad e) t) m0 ⟨b,i,RB.refl _ _,h0⟩ ?_;rintro al B t ⟨e,ap,ao,hI⟩;have G:=bo al (OX ad e) t hI (wF e);refine wpIn_mono (ih r (hL h) _ c _ B t K G ⟨ap.defers,ap.ag.rebind ao i.ag.ok⟩) λj a2 w2 s=>?_;obtain⟨z,an,E,f,l,p,O⟩:=s;have ah:RB (wr J) b E:=(FW ao).trans O;cases j<;>simp only[f5,Option.some.injEq]at f<;>first|(cases f;done)|skip
   ·subst f;obtain⟨rfl,m',au,az⟩:=l;exact⟨m',au,E,p,ah,az⟩
   ·subst f;exact⟨_,an,E,rfl,l,p,ah⟩
   ·subst f;exact⟨_,an,E,rfl,l,p,ah⟩
  ·exact a.elim
 |rangeFunc g ps assign body iha ihb=>
  intro r h Q c b d w _ a i;cases r with
  |some Y=>exact a.elim
  |none=>
  cases c with
  |cons u c=>exact a.elim
  |nil=>
  obtain⟨A,rfl,hp,a⟩:∃A,ps=#[A]/\A<n/\Cs P (ev b g) 1 w (λY LR LB LX args W ac=>gQ P n true assign .leaf (λz c E M=>match z with
    | .nrm=>c=[]/\LR M/\ ∀Wb,Ch (λC=>C=Y) M Wb->LB Wb->gQ P n true body h (λz c _ Z=>c=[]/\LB Z/\ox z Y LR LX ac Z) [] E Wb
    |_=>False) [] (⟨A,gx args 0,none⟩::b) W) (λu W=>Q .nrm [u] b W) (λL u W=>Q (.ext L) [u] b W) (λu W=>Q .ret [u] b W):=by
   obtain⟨ps⟩:=ps;cases ps with
   |nil=>exact a.elim
   |cons A rs=>
    cases rs with
    |cons _ _=>exact a.elim
    |nil=>
     have a:(match Nat.blt A n with
      |true=>Cs P (ev b g) 1 w (λY LR LB LX args W ac=>gQ P n true assign .leaf (λz c E M=>match z with
       | .nrm=>c=[]/\LR M/\ ∀Wb,Ch (λC=>C=Y) M Wb->LB Wb->gQ P n true body h (λz c _ Z=>c=[]/\LB Z/\ox z Y LR LX ac Z) [] E Wb
       |_=>False) [] (⟨A,gx args 0,none⟩::b) W) (λu W=>Q .nrm [u] b W) (λL u W=>Q (.ext L) [u] b W) (λu W=>Q .ret [u] b W)
      |false=>False):=a
     cases G:Nat.blt A n with
     |false=>rw[G]at a;exact a.elim
     |true=>rw[G]at a;exact⟨A,rfl,Nat.le_of_ble_eq_true G,a⟩
  obtain⟨gf,lb,hg,G,a⟩:=a;refine wpIn_rangeFunc ?_;intro fn bt;obtain⟨q,H⟩:∃q:LoopState->Option Code->Loop,q=λst pe=>{state:=st,pending:=pe,fn,tmps:=d.tmps,params:=#[A],assign,body,defers:=w.heap.size}:=⟨_,rfl⟩
  obtain⟨U,aa⟩:∃U,(w.alloc (.deferred (some []))).alloc (.loop (q .ready none))=U:=⟨_,rfl⟩
  have bb:U.heap[w.heap.size+1]?=some (.loop (q .ready none)):=by
   rw[<-aa];have:=World.alloc_heap_new (w.alloc (.deferred (some []))) (.loop (q .ready none));rwa [World.size_alloc]at this
  have ba:U.heap[w.heap.size]?=some (.deferred (some [])):=by
   rw[<-aa];exact(Go.RowKit.Below.heap_alloc _ _ _ (by simp)).trans (World.alloc_heap_new w _)
  have bd:=a (w.heap.size+1) (λW=>W.heap[w.heap.size+1]?=some (.loop (q .ready none))/\Gi w.heap.size W) (λW=>W.heap[w.heap.size+1]?=some (.loop (q .busy none))/\Gi w.heap.size W)
   (λj W=>j≠ .nrm/\W.heap[w.heap.size+1]?=some (.loop (q .done (some (zl j))))/\Gi w.heap.size W) U rfl (by rw[<-aa];simp) (by rw[<-aa];exact(bA.alloc w _).trans (bA.alloc _ _)) ⟨bb,ba⟩ ?_ ?_
  ·refine⟨w.heap.size+1,[{target:=.collected w.heap.size,args:=#[]}],U,{target:=.fn (.func gf) lb,args:=#[.func (.yield (w.heap.size+1)) #[] #[]]},U,gf,
    #[.func (.yield (w.heap.size+1)) #[] #[]]++lb,U,?_,?_,?_,?_,(λh=>by rw[mc]at h;cases h),?_⟩
   ·rw[<-aa,H];exact run_enterLoop_outer _ _ _ _ _
   ·have bg:d.eval g= .func (.func gf) #[] lb:=by rw[i.eval];exact hg
    simp only[resolve,bg];simp[go_sem]
   ·intro f' _;exact Af none f'
   ·simp[invoke,go_sem,S1 G]
   ·refine Pb none (bd.2.mono ?_);rintro _ M ⟨v,rfl,l⟩;have m:Uk n [w.heap.size] b {d with defers:=[{target:=.collected w.heap.size,args:=#[]}]++d.defers}:=⟨by rw[i.defers];rfl,i.ag⟩
    rcases l with⟨⟨X,D⟩,hQ⟩|⟨L,⟨bn,X,D⟩,hQ⟩|⟨⟨bn,X,D⟩,hQ⟩
    ·have au:=(Array.getElem?_eq_some_iff.1 X).1;refine⟨none,_,by have:=run_endLoop (P:=P) X (by rw[H];simp);rw[H]at this;exact this,⟨.nrm,[w.heap.size],b,rfl,hQ _ sI ((World.putObj_heap_other (by omega)).trans D),m,RB.refl _ _⟩⟩
    ·have ab:=run_endLoop (P:=P) X (by rw[H];simp);have T:=hQ _ sI ((World.putObj_heap_other (o:=.loop {q .done (some (zl (.ext L)))with state:=.exhausted}) (by omega)).trans D);rw[H]at ab T;exact⟨some (.exit L),_,ab,wpIn_exit ⟨.ext L,[w.heap.size],b,rfl,T,m,RB.refl _ _⟩⟩
    ·have ab:=run_endLoop (P:=P) X (by rw[H];simp);have T:=hQ _ sI ((World.putObj_heap_other (o:=.loop {q .done (some (zl .ret))with state:=.exhausted}) (by omega)).trans D);rw[H]at ab T;exact⟨some .ret,_,ab,wpIn_ret ⟨.ret,[w.heap.size],b,rfl,T,m,RB.refl _ _⟩⟩
  ·intro aw W Z be f h0;have D:∀k o,¬aw k->W.heap[k]?=some o->Z.heap[k]?=some o:=λk o S ho=>(be.block k (Array.getElem?_eq_some_iff.1 ho).1 S).trans ho;exact⟨λh=>⟨D _ _ f h.1,D _ _ h0 h.2⟩,λh=>⟨D _ _ f h.1,D _ _ h0 h.2⟩,λj h=>⟨h.1,D _ _ f h.2.1,D _ _ h0 h.2.2⟩⟩
  ·rintro args W ac ⟨X,D⟩ bk hB;obtain⟨v,rfl⟩:∃v,args=[v]:=by
    match args,bk with
    |[v],_=>exact⟨v,rfl⟩
   have hy:=run_yield (P:=P) (args:=#[v]) X (by rw[H];rfl);rw[H]at hy;refine .inr ⟨w.heap.size+1,rfl,fn,_,assign,body,hy,roundIn_of_wpIn (F:=Fence.wide) trivial ?_⟩;have m:Uk n [] (⟨A,gx [v] 0,none⟩::b) {tmps:=(#[A].zip #[v]).foldl (λbp (A,v)=>bp.setIfInBounds A v) d.tmps,defers:=[]}:=by
    have:=i.ag.put hp (v:=v) (k:=none) (λJ j=>by cases j);refine⟨rfl,(show Ag n (⟨A,v,none⟩::b) _ from ?_)⟩;simpa[Act.put]using this
   refine wpIn_mono (iha (some (w.heap.size+1)) .leaf _ [] _ _ W (λh=>by cases h) hB m) ?_;rintro j a1 M ⟨z,bq,ax,V,T,ay,_⟩;cases z with
   |ext L=>exact T.elim
   |ret=>exact T.elim
   |nrm=>
    obtain⟨rfl,⟨aq,bh⟩,bc⟩:=T;cases j<;>simp only[f5,Option.some.injEq]at V<;>first|(cases V;done)|skip
    have bl:=(Array.getElem?_eq_some_iff.1 aq).1;have ai:=run_beginRound (P:=P) aq (by rw[H]);have bj:(M.putObj (w.heap.size+1) (.loop (q .busy none))).heap[w.heap.size+1]?=some (.loop (q .busy none)):=World.putObj_heap_same bl;have ai:(Instr.beginRound (w.heap.size+1)).run P M= .ok () (M.putObj (w.heap.size+1) (.loop (q .busy none))):=by
     rw[ai,H]
    refine⟨_,ai,wpIn_mono (ihb (some (w.heap.size+1)) h _ [] ax a1 _ (λh=>by cases h) (bc _ sI ⟨bj,(World.putObj_heap_other (by omega)).trans bh⟩) ay) ?_⟩;rintro j a3 W3 ⟨z,br,bs,V,⟨rfl,⟨ar,bi⟩,hT⟩,_,_⟩;have bm:=(Array.getElem?_eq_some_iff.1 ar).1;have af:∀(I:Option Code),(Instr.endRound (w.heap.size+1) I).run P W3= .ok (.bool I.isNone) (W3.putObj (w.heap.size+1) (.loop (q (if I.isNone then .ready else .done) I)))/\
      (W3.putObj (w.heap.size+1) (.loop (q (if I.isNone then .ready else .done) I))).heap[w.heap.size+1]?=some (.loop (q (if I.isNone then .ready else .done) I))/\Gi w.heap.size (W3.putObj (w.heap.size+1) (.loop (q (if I.isNone then .ready else .done) I))):=λI=>by
     have:=run_endRound (P:=P) I ar;refine⟨?_,World.putObj_heap_same bm,(World.putObj_heap_other (by omega)).trans bi⟩;rw[this,H]
    cases j<;>simp only[f5,Option.some.injEq]at V<;>first|(cases V;done)|skip
    ·subst V;obtain⟨f1,f2,f3⟩:=af none;exact⟨_,_,f1,_,rfl,hT _ sI ⟨f2,f3⟩⟩
    ·rename_i L;subst V;obtain⟨f1,f2,f3⟩:=af (some (.exit L));exact⟨_,_,f1,_,rfl,hT _ sI ⟨by simp,f2,f3⟩⟩
    ·subst V;obtain⟨f1,f2,f3⟩:=af (some .ret);exact⟨_,_,f1,_,rfl,hT _ sI ⟨by simp,f2,f3⟩⟩
def uv(P:Program)(c:Func)(R:Value->World->Prop):jY
 |[],env,w=>uk P env w c.results.toList λa=>R (Zo a) w
 |[d],env,w=>Gi d w/\ ∀b,Ch (λe=>e=d) w b->uk P env b c.results.toList λa=>R (Zo a) b
 |_,_,_=>False
def tq(P:Program)(a:Func)(e:Code)(h:WQ)(d:List Value)(w:World)(R:Value->World->Prop):Prop:=
 gQ P a.ntmps false e h (λf b c w=>match f with
  | .nrm=>uv P a R b c w
  | .ret=>uv P a R b c w
  | .ext _=>False) [] (vM 0 d) w
theorem Gm{b:Func}{R:Value->World->Prop}(h:uv P b R m Q w)(a:Uk b.ntmps m Q M):LeavesInM (fc none) 0 P b M.tmps (λe g=>∃v,e= .returned v/\R v g) M.defers .returning w:=by
 match m,h with
 |[],h=>
  rw[a.defers];obtain⟨v,c,hR⟩:=QR (R:=λv=>R v w) a.ag.vals h;exact⟨v,c,v,rfl,hR⟩
 |[d],h=>
  rw[a.defers];obtain⟨f,h⟩:=h;refine⟨by simp,.inl ⟨_,_,rfl,run_takeDeferred f,?_⟩⟩;obtain⟨v,c,hR⟩:=QR (R:=λv=>R v _) a.ag.vals (h _ sI);exact⟨v,c,v,rfl,hR⟩
theorem a7{a:Func}{d:Code}{h:WQ}(m:P.follows .mixedOrders=true)
  (g:P.funcs[W]?=some a)(o:(a.name== "runtime.NumGoroutine")=false)(f:a.body=some d)(q:gH d=true)(k:Nat.ble y.length a.ntmps=true)
  (l:tq P a d h y w t):nA P W y.toArray w t:=by
 refine⟨⟨a,g,o,by rw[f];rfl⟩,callsIn_wide.1 (callsIn_of_wp_marks (n:=0) g f trivial ?_ rfl)⟩;have A:y.length<=a.ntmps:=Nat.le_of_ble_eq_true k;have j:Ag a.ntmps (vM 0 y) {tmps:=y.toArray++Array.replicate (a.ntmps-y.toArray.size) undef,defers:=[]}:=by
  refine⟨rfl,by simp;omega,λs=>?_,Rh _ _⟩;rw[m5];simp only[Nat.zero_le,if_true,Nat.sub_zero];by_cases b:s<y.length
  ·simp[Array.getElem?_append,b]
  ·simp only[Array.getD_eq_getD_getElem?,Array.getElem?_append,List.size_toArray,b,if_false];rw[show y.getD s undef=undef by simp[List.getD,List.getElem?_eq_none (show y.length<=s by omega)]];by_cases c:s-y.length<a.ntmps-y.length
   ·simp[c]
   ·simp[c]
 refine wpIn_mono (Ps m d none h _ [] _ _ w (λ_=>q) l ⟨rfl,j⟩) λi r B p=>?_;obtain⟨x,u,v,b,c,e,z⟩:=p;cases i<;>simp only[f5,Option.some.injEq]at b<;>first|(cases b;done)|skip
 ·subst b;exact Gm c e
 ·subst b;exact c.elim
 ·subst b;exact Gm c e
end
set_option maxRecDepth 100000
section
variable(a b:Value)(w:World)(R:RT)
def RF:=PA (Value.cells a) 211 w λa d=>PA (Value.cells b) 27 d λb d=>PA (Value.cells sn) 42 d λd e=>PA (Value.cells (iv 0)) 2 e λe f=>PA (Value.cells ff) 4 f λf g=>HA g 2 a λh=>kA g b λi=> ∀j,bA g j->xB 27 (Value.cells sn) 1 1 [(0,i)] j λg i=>bA j i/\ ∀j,bA i j->cf 145 [g] j λg i=>bA j i/\ ∀j,bA i j->cf 589 [h,g] j λg h=> ∀i,bA h i->Cs prog g 1 i (λg h i j k l m=>([]:List Nat)=[]/\h l/\ ∀n,Ch (λc=>c=g) l n->i n->HA n 2 a λl=>kA n b λb=>cf 590 [l,(gx k 0),b] n λb l=>HA l 2 a λa=>cf 587 [a] l λa l=>zI .i64 b a λa=>eA a (cf 251 [(gx k 0)] l λa k=>KC k d a λa=>KC a e b λa=>KC a f tt λa=>([]:List Nat)=[]/\i a/\ox .ret g h j m a) (([]:List Nat)=[]/\i l/\ox .nrm g h j m l)) (λa b=>KC b d sn λb=>KC b e (iv 0) λb=>KC b f ff λb=>Gi a b/\ ∀g,Ch (λc=>c=a) b g->kA g d λa=>kA g e λb=>kA g f λh=>R (.tuple #[a,b,h]) g) (λa b g=>Jx a 0 (KC g d sn λa=>KC a e (iv 0) λa=>KC a f ff λa=>Gi b a/\ ∀g,Ch (λc=>c=b) a g->kA g d λa=>kA g e λb=>kA g f λh=>R (.tuple #[a,b,h]) g) (False)) (λa b=>Gi a b/\ ∀g,Ch (λc=>c=a) b g->kA g d λa=>kA g e λb=>kA g f λd=>R (.tuple #[a,b,d]) g)
end
theorem yR(a b:Value)(w:World)(R:Value->World->Prop):RF a b w R=tq prog Tryz.f444 (Tryz.f444.body.getD .skip) .leaf [a,b] w R:=by kernel_rfl
theorem dR(h:RF v i w t):nA prog 444 #[v,i] w t:=
 a7 Kd Tryz.func444 (by kernel_rfl) (show Tryz.f444.body=some (Tryz.f444.body.getD .skip)by kernel_rfl) (by kernel_rfl) (by kernel_rfl) ((yR v i w t).mp h)
theorem pN:Mp prog 686:=⟨_,Tryz.func686,by kernel_rfl,by kernel_rfl⟩
section
variable(a b c d e f:Value)(w:World)(R:RT)
def JC:=kA w b λg=>lA g λg=>BB .i64 a g λg=>eA g (kA w c λc=>kA w d λg=>callY prog c [g] w λc g=>R c g) (kA w e λc=>lA c λe=>lp (λg h i=>NV->lB .i64 (gx h 0) e λe=>eA e (wA 1 c (gx h 0) λc=>kA i c λc=>kA i d λd=>kA i b λb=>wA 1 b a λb=>kA i b λb=>wA 1 d b λb=> ∀d,bA i d->KC d b c λb=> ∀c,bA b c->kA c f λb=>oA .i64 a (iv 1) λa=>callY prog b [a] c λa b=>VA a λa=>eA a (R ff b) (oA .i64 (gx h 0) (iv 1) λa=>([]:List Nat)=([]:List Nat)/\g [a] b)) (R tt i)) [(iv 0)] w)
end
theorem tL(a b c d e f:Value)(w:World)(R:Value->World->Prop):JC a b c d e f w R=tq prog Tryz.f687 (Tryz.f687.body.getD .skip) (.node none .leaf (.node none .leaf (.node none (.node none .leaf (.node (some [19]) .leaf .leaf)) .leaf))) [a,b,c,d,e,f] w R:=by kernel_rfl
theorem jG{a b c:Value}(h:JC v i U a b c w t):nA prog 687 #[v,i,U,a,b,c] w t:=
 a7 Kd Tryz.func687 (by kernel_rfl) (show Tryz.f687.body=some (Tryz.f687.body.getD .skip)by kernel_rfl) (by kernel_rfl) (by kernel_rfl) ((tL v i U a b c w t).mp h)
theorem Fx{first:Array Value}(b:v= .func (.func W) first h)(a:nA prog W (first++y.toArray++h) w t):callY prog v y w t:=.inl (lQ b a)
structure Bx(f:Fr)(yv:Value)(bad:List Nat->Bool)(m:Nat)(S:Nat->Prop)(J:World->Prop)(X:List Nat->World->Prop):Prop where
 keep:∀(T:Nat->Prop) (W W':World),J W->Ch T W W'->(∀b,T b->m<=b)->J W'
 lt:∀b,S b->b<m
 visit:∀(W:World) (lo:Nat) (v:Value) (c:List Nat),J W->Ow lo KA W v (JA (MA c))->m<=lo->(∀b,v.ownBlock=some b-> ¬S b)->c.length=6->(∀x∈c,x∈RA f)->
  callY prog yv [v] W λu W'=>Ch S W W'/\if bad c then u= .bool false/\X c W' else u= .bool true/\J W'
def Sx(b:List Nat)(k:Nat)(c:List Nat)(V:Nat->Nat)(a:List Nat):Prop:=∀v,v<6->a.getD v 0=if v∈b.drop k then V v else c.getD v 0
section
variable{f:Fr}{yv:Value}{bad:List Nat->Bool}{m:Nat}{S:Nat->Prop}{J:World->Prop}{X:List Nat->World->Prop}
structure nw(m:Nat)(vars ups:List Nat)(yv:Value)(b1 b2 b3 b4 b5:Nat)(vv vs vu:Value)(S:Nat->Prop)(e2 e5:TypeId)(lo:Nat)(w:World)(c:List Nat):Prop where
 B1:GA 42 w b1 [vv]
 B2:GA e2 w b2 [yv]
 B3:GA 42 w b3 [vs]
 B4:GA 42 w b4 [vu]
 B5:GA e5 w b5 [.func (.func 687) #[] #[.pointer (some ⟨b1,0,none⟩),.pointer (some ⟨b2,0,none⟩),.pointer (some ⟨b3,0,none⟩),.pointer (some ⟨b4,0,none⟩),.pointer (some ⟨b5,0,none⟩)]]
 nS:¬S b1/\ ¬S b2/\ ¬S b3/\ ¬S b4/\ ¬S b5
 ne2:e2≠KA
 ne5:e5≠KA
 V1:∃l1,Ow l1 KA w vv (JA (MA vars))
 nV:∀b,vv.ownBlock=some b-> ¬S b/\vs.ownBlock≠some b
 U1:∃l1,Ow l1 KA w vu (JA (MA ups))
 nU:∀b,vu.ownBlock=some b-> ¬S b/\vs.ownBlock≠some b
 row:Ow lo KA w vs (JA (MA c))
 nR:∀b,vs.ownBlock=some b-> ¬S b
 hm:m<=lo
theorem nw.ch{t s:List Nat}{p q:Nat}{o:Nat}{y r:List Nat}(h:nw m t s yv x n C p q v i U S u H o w y)(k:Ch (λb=>S b∨i.ownBlock=some b) w a)(E:Ow o KA a i (JA (MA r))):
  nw m t s yv x n C p q v i U S u H o a r:=by
 have e:∀{g:TypeId} {b:Nat} {z:List Value},GA g w b z->g≠KA-> ¬S b-> ¬(S b∨i.ownBlock=some b):=λA D B c=>c.elim B λc=>h.row.ne_blk A (λg=>D g.symm) c;obtain⟨F,G,I,K,L⟩:=h.nS;refine⟨h.B1.ch k (e h.B1 (by decide) F),h.B2.ch k (e h.B2 h.ne2 G),h.B3.ch k (e h.B3 (by decide) I),h.B4.ch k (e h.B4 (by decide) K),h.B5.ch k (e h.B5 h.ne5 L),h.nS,h.ne2,h.ne5,?_,h.nV,?_,h.nU,E,h.nR,h.hm⟩
 ·obtain⟨l,j⟩:=h.V1;exact⟨l,j.ch k λb d c=>c.elim (h.nV b d).1 (h.nV b d).2⟩
 ·obtain⟨l,j⟩:=h.U1;exact⟨l,j.ch k λb d c=>c.elim (h.nU b d).1 (h.nU b d).2⟩
theorem Rt(hP:Po f)(av:Bx f yv bad m S J X){a:List Nat}(aq:a.Nodup)(af:∀v∈a,v<6){W Y Z:Nat}{G:Value}{Q:Nat}:
  ∀(I k:Nat),I=a.length-k->k<=a.length-> ∀(w:World) (e:List Nat),nw m a (RA f) yv x C W Y Z i U G S u H Q w e->J w->e.length=6->(∀l∈e,l∈RA f)->
  nA prog 687 #[iv k,.pointer (some ⟨x,0,none⟩),.pointer (some ⟨C,0,none⟩),.pointer (some ⟨W,0,none⟩),.pointer (some ⟨Y,0,none⟩),.pointer (some ⟨Z,0,none⟩)] w λag t=>
   Ch (λb=>S b∨U.ownBlock=some b) w t/\((ag= .bool false/\ ∃c,c.length=6/\(∀l∈c,l∈RA f)/\bad c=true/\X c t)∨
    (ag= .bool true/\J t/\(∃c,Ow Q KA t U (JA (MA c))/\c.length=6/\(∀l∈c,l∈RA f)/\ ∀v,v<6->v∉a.drop k->c.getD v 0=e.getD v 0)/\
     ∀V:Nat->Nat,(∀v,V v∈RA f)-> ∃c,c.length=6/\(∀l∈c,l∈RA f)/\Sx a k e V c/\bad c=false)):=by
 intro I
 induction I with
 |zero=>
  intro k hd hk w e g hJ A B;obtain rfl:k=a.length:=by omega
  apply jG;unfold JC;obtain⟨l1,r⟩:=g.V1;refine mA g.B1 (v:=i) rfl ?_;have ab:jL w i a:=r.sl;refine WC ab ?_;refine BA (iA (by simp) ?_);refine mA g.B2 (v:=yv) rfl (mA g.B3 (v:=U) rfl ?_);refine(av.visit w Q U e hJ g.row g.hm g.nR A B).mono ?_;rintro cd w1 ⟨aj,P⟩;refine⟨aj.mono λb h=>.inl h,?_⟩;cases z:bad e
  ·rw[if_neg (by rw[z];simp)]at P;obtain⟨rfl,aw⟩:=P;refine .inr ⟨rfl,aw,⟨e,g.row.ch aj g.nR,A,B,λv _ _=>rfl⟩,λV _=>⟨e,A,B,λv _=>by rw[if_neg (by simp)],z⟩⟩
  ·rw[if_pos z]at P;obtain⟨rfl,bg⟩:=P;exact .inl ⟨rfl,e,A,B,z,bg⟩
 |succ I ih=>
  intro k hd hk w e g hJ A B;have O:k<a.length:=by omega
  have bv:a.length<=6:=by
   have E:=(SQ _ a rfl λbt hy=>Nat.lt_trans (af bt hy) (by decide)).2 aq;have L:=Uf (m:=6) (by decide) (HW (n:=6) af);omega
  have M:a.drop k=a[k]::a.drop (k+1):=List.drop_eq_getElem_cons O;have bx:a[k]∉a.drop (k+1):=by
   have:=aq.sublist (List.drop_sublist k a);rw[M]at this;exact(List.nodup_cons.1 this).1
  have ca:=af _ (List.getElem_mem O);apply jG;unfold JC;obtain⟨l1,r⟩:=g.V1;obtain⟨l4,hU⟩:=g.U1;have ab:jL w i a:=r.sl;have bb:jL w G (RA f):=hU.sl;have bz:=E0 hP.ok;refine mA g.B1 (v:=i) rfl (WC ab (BA (cA (decide_eq_false (by omega)) ?_)));refine mA g.B4 (v:=G) rfl (WC bb ?_);refine MB (λd:Nat=>[iv d]) (λd t=>d<=(RA f).length/\Ch (λb=>S b∨U.ownBlock=some b) w t/\J t/\ ∃o,nw m a (RA f) yv x C W Y Z i U G S u H Q t o/\o.length=6/\(∀l∈o,l∈RA f)/\(∀v,v<6->v∉a.drop k->o.getD v 0=e.getD v 0)/\
   ∀V:Nat->Nat,(∀v,V v∈RA f)->V a[k]∈(RA f).take d-> ∃c,c.length=6/\(∀l∈c,l∈RA f)/\Sx a k e V c/\bad c=false) (λd=>(RA f).length-d) 0 rfl
   ⟨Nat.zero_le _,(bA.refl w).ch,hJ,e,g,A,B,λv _ _=>rfl,λV _ h=>by simp at h⟩ ?_
  rintro d R Kn ⟨hi,am,ah,o,q,ad,ak,ae,ac⟩ az;obtain⟨cb,bd⟩:=q.V1;obtain⟨cc,ba⟩:=q.U1;intro _;simp only[gx];refine jB (dA (λh=>?_) (λh=>?_))
  ·have N:d<(RA f).length:=by omega
   have bc:jL R G (RA f):=ba.sl;have be:jL R i a:=bd.sl;refine tE bc N λbs hp=>DD hp ?_;refine mA q.B3 (v:=U) rfl (mA q.B1 (v:=i) rfl ?_);refine tE be O λbs hp=>DD hp ?_;have hg:a.getD k 0=a[k]:=by simp[O]
   have bo:(RA f).getD d 0=(RA f)[d]:=by simp[N]
   rw[hg,bo];have bw:(JA (MA o)).length=6:=by rw[SA,WA];exact ad
   refine sh q.row (j:=a[k]) (by omega) λbu ai br=>?_;intro w4 x4;obtain⟨E,K,L⟩:=br w4 _ rfl (q.row.ext x4);refine rt (by rw[E,List.getElem?_eq_getElem (by omega)]) K rfl ?_;intro T x6;have ar:=PI.setCell w4 bu a[k] (iv (((RA f)[d]:Nat):Int));have h5:=L (iv (((RA f)[d]:Nat):Int));have y:(JA (MA o)).set a[k] (iv (((RA f)[d]:Nat):Int))=JA (MA (o.set a[k] (RA f)[d])):=by simp[JA,MA,List.map_set]
   rw[y]at h5;have an:Ch (λb=>S b∨U.ownBlock=some b) R T:=((x4.ch (S:=λb=>S b∨U.ownBlock=some b)).trans (ar.ch (S:=λb=>S b∨U.ownBlock=some b) (.inr ai)) λb h=>.inl h).trans (x6.ch (S:=λb=>S b∨U.ownBlock=some b)) λb h=>.inl h;have aa:=q.ch an (h5.ext x6);have ax:J T:=by
    refine av.keep (λb=>U.ownBlock=some b) R T ah (((x4.ch (S:=λb=>U.ownBlock=some b)).trans (ar.ch (S:=λb=>U.ownBlock=some b) ai) λb h=>.inl h).trans (x6.ch (S:=λb=>U.ownBlock=some b)) λb h=>.inl h) λb z=>?_;have E:=(q.row.blk b z).1;have K:=q.hm;omega
   have bj:(o.set a[k] (RA f)[d]).length=6:=by rw[List.length_set];exact ad
   have bk:∀l∈o.set a[k] (RA f)[d],l∈RA f:=λl hx=>by
    rcases List.mem_or_eq_of_mem_set hx with h|rfl
    ·exact ak l h
    ·exact List.getElem_mem N
   have al:∀v,v<6->(o.set a[k] (RA f)[d]).getD v 0=if v=a[k]then(RA f)[d]else o.getD v 0:=λv p=>by
    rw[List.getD_eq_getElem?_getD,List.getElem?_set];by_cases y:a[k]=v
    ·rw[if_pos y,if_pos y.symm,if_pos (by omega)];rfl
    ·rw[if_neg y,if_neg (λh=>y h.symm),<-List.getD_eq_getElem?_getD]
   refine mA aa.B5 (v:=_) rfl ?_;refine qA (by omega) ?_;rw[show(k:Int)+1=((k+1:Nat):Int)by omega];refine Fx rfl ((ih (k+1) (by omega) (by omega) T _ aa ax bj bk).mono ?_);rintro ag w7 ⟨ap,hr⟩;have ao:Ch (λb=>S b∨U.ownBlock=some b) w w7:=(am.trans an λb h=>.inl h).trans ap λb h=>.inl h;rcases hr with⟨rfl,bi⟩|⟨rfl,ay,⟨c7,bp,bl,bn,bm⟩,bh⟩
   ·exact TA (iA rfl ⟨ao,.inl ⟨by first|trivial|rfl,bi⟩⟩)
   ·refine TA (cA rfl (qA (by omega) ⟨by first|trivial|rfl,?_⟩));have bq:∀v,v∉a.drop k->v≠a[k]/\v∉a.drop (k+1):=λv p=>by
     rw[M,List.mem_cons,not_or]at p;exact p
    refine az (d+1) _ ⟨by omega,ao,ay,c7,aa.ch ap bp,bl,bn,λv p au=>?_,λV r s=>?_⟩ (by omega)
    ·obtain⟨n1,n2⟩:=bq v au;rw[bm v p n2,al v p,if_neg n1,ae v p au]
    ·rw[List.take_succ_eq_append_getElem N]at s;rcases List.mem_append.1 s with s|s
     ·exact ac V r s
     ·have s:V a[k]=(RA f)[d]:=by simpa using s
      obtain⟨c,E,K,L,h4⟩:=bh V r;refine⟨c,E,K,λv p=>?_,h4⟩;rw[L v p,M];by_cases F:v∈a.drop (k+1)
      ·rw[if_pos F,if_pos (List.mem_cons_of_mem _ F)]
      ·rw[if_neg F,al v p];by_cases D:v=a[k]
       ·rw[if_pos D,if_pos (by rw[D];exact List.mem_cons_self),<-s,D]
       ·rw[if_neg D,if_neg (by rw[List.mem_cons,not_or];exact⟨D,F⟩)];exact ae v p (by rw[M,List.mem_cons,not_or];exact⟨D,F⟩)
  ·refine⟨am,.inr ⟨by first|trivial|rfl,ah,⟨o,q.row,ad,ak,ae⟩,λV r=>?_⟩⟩;rw[List.take_of_length_le (by omega)]at ac;exact ac V r (r _)
end
theorem WZ(u:Po A)(z:jL w v A.a)(x:vA U=true):nA prog 589 #[.agg #[iv (A.n:Int),v],U] w λB d=>bA w d/\ ∃g f a,B= .func (.func 686) #[] #[.pointer (some ⟨g,0,none⟩),.pointer (some ⟨f,0,none⟩)]/\
   w.heap.size<=g/\w.heap.size<=f/\GA 42 d g [U]/\GA 42 d f [a]/\Ow w.heap.size KA d a (JA (MA (RA A))):=by
 apply RP;unfold WH;refine xC λD I E l s=>?_;refine xC λo C F e c=>?_;rw[sA x]at c;have c:GA 42 C o [U]:=c;refine DB (s.ext e) rfl ?_;refine aA ((aL u.ok (z.ext (l.trans e))).mono ?_);rintro a J ⟨m,j⟩;refine xC λb p G n t=>?_;have y:=j.ext n;refine QH t (i:=0) (by simp[Value.cells]) j.cell λh=>?_;have h:GA 42 (p.setCell ⟨b,0,none⟩ a) b [a]:=h;have k:=PI.setCell p b 0 a;have H:=m.size;have r:=(l.trans e).size;refine⟨(((l.trans e).trans m).trans n).upd k (by omega),o,b,a,rfl,by omega,by omega,((c.ext m).ext n).upd k (by omega),h,?_⟩;exact(y.upd k λq=>by have:=(j.blk b q).2;omega).mono r
theorem lW{z:List Nat->Bool}{S:Nat->Prop}{X:List Nat->World->Prop}(M:Po A)(F:Bx A U z x S l X)(aj:vA U=true)(an:m.Nodup)(T:∀v∈m,v<6){s r:Value}{W Y:Nat}
  (ad:GA 42 w f [s])(ac:GA 42 w C [r])(O:Ow W KA w s (JA (MA m)))(N:Ow Y KA w r (JA (MA (RA A))))(Q:¬S f/\ ¬S C)(am:∀b,s.ownBlock=some b-> ¬S b)(al:∀b,r.ownBlock=some b-> ¬S b)(hJ:l w)(P:x<=w.heap.size):
  nA prog 686 #[U,.pointer (some ⟨f,0,none⟩),.pointer (some ⟨C,0,none⟩)] w λ_ G=>Ch S w G/\((∃c,c.length=6/\(∀t∈c,t∈RA A)/\z c=true/\X c G)∨
   (l G/\ ∀V:Nat->Nat,(∀v,V v∈RA A)-> ∃c,c.length=6/\(∀t∈c,t∈RA A)/\(∀v∈m,c.getD v 0=V v)/\z c=false)):=by
 have p:∀b,S b->b<w.heap.size:=λb d=>Nat.lt_of_lt_of_le (F.lt b d) P;apply LN;unfold eH;refine xC λJ w1 aq x1 K=>?_;rw[sA aj]at K;refine uw (k:=.i64) (n:=6) (by decide) (by decide) rfl λa w2 av x2 ab=>?_;refine xC λg H ar I B=>?_;refine QH B (i:=0) (by simp[Value.cells]) rfl λaa=>?_;have E:=PI.setCell H g 0 (.slice (some ⟨a,0,none⟩) 6 6);generalize ap:H.setCell ⟨g,0,none⟩ (.slice (some ⟨a,0,none⟩) 6 6)=Z at*;have B:GA 42 Z g [.slice (some ⟨a,0,none⟩) 6 6]:=aa;refine xC λy w5 au u D=>?_;refine QH D (i:=0) (by simp[Value.cells]) rfl λL=>?_;have q:=PI.setCell w5 y 0 (.func (.func 687) #[] #[.pointer (some ⟨f,0,none⟩),.pointer (some ⟨J,0,none⟩),.pointer (some ⟨g,0,none⟩),.pointer (some ⟨C,0,none⟩),.pointer (some ⟨y,0,none⟩)]);have aw:Z.heap.size=H.heap.size:=by rw[<-ap];simp
 have D:=L;refine mA L (i:=0) (v:=_) rfl ?_;have e:bA w _:=((((x1.trans x2).trans I).upd E (by omega)).trans u).upd q (by omega);have ao:Ow a KA _ (.slice (some ⟨a,0,none⟩) 6 6) (JA (MA (List.replicate 6 0))):=Ow.ofBlk (((((ab.ext I).upd E (by omega)).ext u).upd q (by omega))) (Nat.le_refl _) rfl (by decide);have hF:nw x m (RA A) U f J g C y s (.slice (some ⟨a,0,none⟩) 6 6) r S _ _ a _ (List.replicate 6 0):=
  {B1:=ad.ext e,B2:=(((((K.ext x2).ext I).upd E (by omega)).ext u).upd q (by omega)),B3:=((B.ext u).upd q (by omega)),B4:=ac.ext e,B5:=D,
   nS:=⟨Q.1,λh=>by have:=p _ h;omega,λh=>by have:=p _ h;omega,Q.2,λh=>by have:=p _ h;omega⟩,
   ne2:=by decide,ne5:=by decide,V1:=⟨W,O.ext e⟩,
   nV:=λb d=>⟨am b d,λh=>by
    have o:=(O.blk b d).2;have j:a=b:=by simpa[Value.ownBlock]using h
    omega⟩,
   U1:=⟨Y,N.ext e⟩,
   nU:=λb d=>⟨al b d,λh=>by
    have o:=(N.blk b d).2;have j:a=b:=by simpa[Value.ownBlock]using h
    omega⟩,
   row:=ao,
   nR:=λb d h=>by
    have o:=p _ h;have j:a=b:=by simpa[Value.ownBlock]using d
    omega,
   hm:=by omega}
 have ae:=F.keep (λ_=>False) w _ hJ e.ch (λ_ h=>h.elim);refine lQ rfl ((Rt M F an T _ 0 rfl (Nat.zero_le _) _ _ hF ae (by simp) (λt hx=>by rw[List.eq_of_mem_replicate hx];exact UR M)).mono ?_);rintro ax w7 ⟨ak,hr⟩;have hk:Ch S w w7:=(e.ch (S:=S)).trans ak λb h=>h.elim .inl λh=>.inr (by
  have j:a=b:=by simpa[Value.ownBlock]using h
  omega)
 refine⟨hk,?_⟩;rcases hr with⟨_,ai⟩|⟨_,af,_,ah⟩
 ·exact .inl ai
 ·refine .inr ⟨af,λV ag=>?_⟩;obtain⟨c,o,j,h3,h4⟩:=ah V ag;refine⟨c,o,j,λv R=>?_,h4⟩;have:=h3 v (T v R);rw[List.drop_zero,if_pos R]at this;exact this
theorem Ix(h:Jj T=true):T.all cP=true:=by
 unfold Jj MW at h;rw[Bool.and_eq_true,Bool.and_eq_true]at h;exact h.2.1
theorem sM:∀{a:Fm},Fm.has n a->(0,(n:Int))∈cB a
 | .var x,h=>by
  have h:x=n:=h;subst h;exact List.mem_cons_self
 | .fls,h=>h.elim
 | .and a b,h=>List.mem_cons_of_mem _ (List.mem_append.2 (h.imp sM sM))
 | .or a b,h=>List.mem_cons_of_mem _ (List.mem_append.2 (h.imp sM sM))
 | .imp a b,h=>List.mem_cons_of_mem _ (List.mem_append.2 (h.imp sM sM))
 | .box a,h=>List.mem_cons_of_mem _ (sM (a:=a) h)
 | .dia a,h=>List.mem_cons_of_mem _ (sM (a:=a) h)
theorem vo(h:Fm.has x r):(pD (cB r)).testBit x=true:=(Qf r x).2 (sM h)
theorem Gi.ch{S:Nat->Prop}(h:Gi x w)(k:Ch S w a)(d:¬S x):Gi x a:=by
 have c:x<w.heap.size:=by
  unfold Gi at h;rcases Nat.lt_or_ge x w.heap.size with b|b
  ·exact b
  ·rw[Array.getElem?_eq_none b]at h;cases h
 exact(k.block x c d).trans h
theorem Ww{bad:List Nat->Bool}{S:Nat->Prop}{J:World->Prop}{X:List Nat->World->Prop}(hP:Po A)(al:m.Nodup)(am:∀e∈m,e<6){l2:Nat}{K:Nat->World->Prop}{KE:Nat->Nat->World->Prop}{I:Nat->World->Prop}
  (N:GA 42 w n [v])(M:GA 42 w f [i])(P:Ow C KA w v (JA (MA m)))(O:Ow l2 KA w i (JA (MA (RA A))))(U:¬S n/\ ¬S f)(ak:∀b,v.ownBlock=some b-> ¬S b)(aj:∀b,i.ownBlock=some b-> ¬S b)
  (ai:∀b,S b->b<w.heap.size)(hJ:J w)
  (u:∀(T:Nat->Prop) (W a:World),J W->Ch T W a->(∀b,T b->w.heap.size<=b)->J a)
  (ap:∀(T:Nat->Prop) (c:List Nat) (W a:World),X c W->Ch T W a->(∀b,T b->w.heap.size<=b)->X c a)
  (hB:∀(l:Nat) (j p:World->Prop) (k:Ex->World->Prop),l=w.heap.size+1->
   (∀(S:Nat->Prop) (W a:World),Ch S W a-> ¬S l-> ¬S w.heap.size->(j W->j a)/\(p W->p a)/\ ∀o,k o W->k o a)->
   ∀(W:World) (y:Nat) (e:Value) (c:List Nat),J W->j W->w.heap.size+2<=y->w.heap.size+2<=W.heap.size->Ow y KA W e (JA (MA c))->c.length=6->(∀x∈c,x∈RA A)->
    E l j p k [e] W λH a=>Ch (λb=>b=l∨S b) W a/\if bad c then H= .bool false/\k .ret a/\X c a else H= .bool true/\j a/\J a)
  (hK:∀W,J W->w.heap.size+2<=W.heap.size->Gi w.heap.size W->(∀V:Nat->Nat,(∀e,V e∈RA A)-> ∃c,c.length=6/\(∀x∈c,x∈RA A)/\(∀e∈m,c.getD e 0=V e)/\bad c=false)->K w.heap.size W)
  (ac:∀W c,X c W->w.heap.size+2<=W.heap.size->Gi w.heap.size W->c.length=6->(∀x∈c,x∈RA A)->bad c=true->I w.heap.size W):
  Cs prog (.func (.func 686) #[] #[.pointer (some ⟨n,0,none⟩),.pointer (some ⟨f,0,none⟩)]) 1 w E K KE I:=by
 refine⟨_,_,rfl,pN,λl j p k Z hl aw t ad Y ao=>?_⟩;have an:Bx A (.func (.yield l) #[] #[]) bad (w.heap.size+2) (λb=>b=l∨S b) (λW=>J W/\j W/\w.heap.size+2<=W.heap.size) (λc W=>k .ret W/\X c W/\w.heap.size+2<=W.heap.size):=
  {keep:=λT W a h G z=>⟨u T W a h.1 G λb d=>by have:=z b d;omega,(Y T W a G (λh=>by have:=z _ h;omega) (λh=>by have:=z _ h;omega)).1 h.2.1,by have:=G.size;omega⟩
   lt:=λb d=>by
    rcases d with rfl|d
    ·omega
    ·have:=ai b d;omega
   visit:=λW y e c r ho ah ar B D=>by
    refine(ao [e] W _ r.2.1 rfl (hB l j p k hl Y W y e c r.1 r.2.1 ah r.2.2 ho B D)).mono ?_;rintro H a ⟨Q,g⟩;have hs:=Q.size;have au:=r.2.2;refine⟨Q,?_⟩;cases d:bad c
    ·rw[if_neg (by rw[d];simp)]at g;rw[if_neg (by simp)];exact⟨g.1,g.2.2,g.2.1,by omega⟩
    ·rw[if_pos d]at g;rw[if_pos rfl];exact⟨g.1,g.2.1,g.2.2,by omega⟩}
 have R:∀{b o cs},GA o w b cs->b≠l:=λh o=>by
  have:=h.lt;omega
 have aa:J Z:=u (λ_=>False) w Z hJ t.ch (λ_ h=>h.elim);refine(lW hP an rfl al am (N.ext t) (M.ext t) (P.ext t) (O.ext t) ⟨λh=>h.elim (R N) U.1,λh=>h.elim (R M) U.2⟩
  (λb d h=>h.elim (λo=>by have:=(P.blk b d).2;omega) (ak b d)) (λb d h=>h.elim (λo=>by have:=(O.blk b d).2;omega) (aj b d)) ⟨aa,ad,by omega⟩ (by omega)).mono ?_
 rintro _ L ⟨_,g⟩;rcases g with⟨c,B,D,d,hX,af,aq⟩|⟨⟨ab,ae,av⟩,ag⟩
 ·exact .inr (.inr ⟨hX,λq s F=>ac q c (ap _ c L q af s λb d=>by omega) (by have:=s.size;omega) F B D d⟩)
 ·exact .inl ⟨ae,λq s F=>hK q (u _ L q ab s λb d=>by omega) (by have:=s.size;omega) F ag⟩
theorem U5 {f:Fr} (hP:Po f) {va vn:Value} {w:World} (hs:jL w va f.a) {a:Fm} (ha:oC w vn a) (hcn:vA vn = true) (hpl:Fm.pl a) (hsz:a.size ≤ 1000000):
  nA Tryz.prog 444 #[.agg #[.int .i64 (f.n:Int),va],vn] w fun r w'=>bA w w' ∧ ∃ u m b,r = .tuple #[u,m,.bool b] ∧ (b = true ↔ ¬ Ni f a):=by
 have hok:(cB a).all cP = true:=List.all_eq_true.2 (BD (NR hpl))
 have h8:=hP.ok.1
 apply dR;unfold RF
 refine xC fun b2 w1 hb2 x1 hB2=>?_
 refine xC fun b3 w2 hb3 x2 hB3=>?_
 refine xC fun b4 w3 hb4 x3 hB4=>?_
 refine xC fun b5 w4 hb5 x4 hB5=>?_
 refine xC fun b6 w5 hb6 x5 hB6=>?_
 have hB2:GA _ w5 b2 [.int .i64 (f.n:Int),va]:=(((hB2.ext x2).ext x3).ext x4).ext x5
 rw [sA hcn] at hB3
 have hB3:GA _ w5 b3 [vn]:=((hB3.ext x3).ext x4).ext x5
 have hB4:GA _ w5 b4 [.slice none 0 0]:=(hB4.ext x4).ext x5
 have hB5:GA _ w5 b5 [.int .i64 0]:=hB5.ext x5
 have hB6:GA _ w5 b6 [.bool false]:=hB6
 have X5:=(((x1.trans x2).trans x3).trans x4).trans x5
 refine DB hB2 rfl (mA hB3 (v:=vn) rfl ?_)
 intro w6 x6
 refine fF rfl hcn fun br w7 hbr x7 hBr=>⟨x7,?_⟩
 intro w8 x8
 have X8:=((X5.trans x6).trans x7).trans x8
 have hN:SO w8 vn (cB a):=oC.raw (rB.ext ha X8)
 have hRw:P6 w8 (.slice (some ⟨br,0,none⟩) 1 1) [(vn,cB a)]:=P6.one (Ow.ofBlk (hBr.ext x8) (Nat.le_refl _) rfl (by simp)).sl hN
 have hokL:∀ p ∈ [(vn,cB a)],p.2.all cP = true:=fun p hp=>by
  rw [List.mem_singleton] at hp
  subst hp;exact hok
 refine aA ((bE hRw hokL).mono ?_)
 rintro vv w9 ⟨x9,hov⟩
 refine ⟨x9,?_⟩
 intro w10 x10
 have X10:=(X8.trans x9).trans x10
 refine aA ((WZ hP (hs.ext X10) hov.cell).mono ?_)
 rintro r11 w11 ⟨x11,bv,bu,vu,rfl,hbv,hbu,hBv,hBu,hou⟩
 intro w12 x12
 have X12:=(X10.trans x11).trans x12
 have x512:bA w5 w12:=(((((x6.trans x7).trans x8).trans x9).trans x10).trans x11).trans x12
 have hsz5:w5.heap.size ≤ w8.heap.size:=((x6.trans x7).trans x8).size
 have hsz10:w8.heap.size ≤ w10.heap.size:=(x9.trans x10).size
 have hsz12:w5.heap.size ≤ w12.heap.size:=x512.size
 have hmem:∀ v,v ∈ EE (XI [(vn,cB a)]) ↔ (pD (cB a)).testBit v = true:=fun v=>by
  rw [YW (Nat.lt_of_lt_of_le (Qj hokL) (by decide)),Lo]
  simp
 have hvis:=hov.ext ((x10.trans x11).trans x12)
 refine Ww (bad:=fun c=>decide (¬ zM f (vV c) a = 2 ^ f.n - 1)) (S:=fun b=>b = b4 ∨ b = b5 ∨ b = b6) (J:=fun W=>bA w12 W) (X:=fun c W=>Ch (fun b=>b = b4 ∨ b = b5 ∨ b = b6) w12 W ∧ (∃ u,GA 42 W b4 [u]) ∧ (∃ m,GA KA W b5 [m]) ∧ GA 4 W b6 [.bool true])
  hP (ZW _) (fun v hv=>?_) (hBv.ext x12) (hBu.ext x12) hvis (hou.ext x12) ⟨fun h=>by omega,fun h=>by omega⟩ (fun b hb h=>by have:=(hov.blk b hb).1;omega) (fun b hb h=>by have:=(hou.blk b hb).1;omega)
  (fun b h=>by omega) (bA.refl _) (fun T W W' h k hT=>h.thenCh k hT) (fun T c W W' h k hT=>?_) ?_ ?_ ?_
 ·exact jq (YI hok) ((hmem v).1 hv)
 ·obtain ⟨h1,⟨u,h2⟩,⟨m,h3⟩,h4⟩:=h
  exact ⟨h1.trans k fun b hb=>.inr (hT b hb),⟨u,h2.ch k fun h=>by have:=hT _ h;omega⟩,⟨m,h3.ch k fun h=>by have:=hT _ h;omega⟩,h4.ch k fun h=>by have:=hT _ h;omega⟩
 ·intro l LR LB LX hl hstab W lo v c hJW hLR hlo hWs ho hc hcu
  refine ⟨rfl,hLR,fun Wb kb hLB=>?_⟩
  have XWb:bA w12 Wb:=hJW.thenCh kb fun b hb=>by omega
  have hoWb:=ho.ch kb fun b hb e=>by have:=(ho.blk b hb).1;omega
  refine DB (hB2.ext (x512.trans XWb)) rfl (mA (hB3.ext (x512.trans XWb)) (v:=vn) rfl ?_)
  have hlt6:∀ x ∈ c,x < 2 ^ f.n:=fun x hx=>tg (hcu x hx)
  refine gA (Sc hP.ok (hs.ext (X12.trans XWb)) hoWb.sl hc hlt6 (rB.ext ha (X12.trans XWb)) hpl hsz) fun w14 x14=>?_
  refine DB (hB2.ext ((x512.trans XWb).trans x14)) rfl ?_
  refine gA (bJ f.n h8 va w14) fun w15 x15=>?_
  have xb15:=x14.trans x15
  have hsWb:=kb.size
  have hLB15:LB _:=(hstab (fun _=>False) Wb _ xb15.ch (fun h=>h) (fun h=>h)).2.1 hLB
  refine ZF (dA (fun hb=>?_) (fun hb=>?_))
  ·have hbd:decide (¬ zM f (vV c) a = 2 ^ f.n - 1) = true:=decide_eq_true fun e=>hb (by rw [e])
   have hb4:=hB4.ext ((x512.trans XWb).trans xb15)
   refine aA ((CH (l:=MA c) (hoWb.ext xb15).sl (by rw [WA];omega)).mono ?_)
   rintro vc w16 ⟨x16,hoc⟩
   have hb4:=(hB4.ext ((x512.trans XWb).trans xb15)).ext x16
   have hb5:=(hB5.ext ((x512.trans XWb).trans xb15)).ext x16
   have hb6:=(hB6.ext ((x512.trans XWb).trans xb15)).ext x16
   refine QH hb4 (i:=0) (by simp) hoc.cell fun hb4'=>?_
   have u4:=PI.setCell w16 b4 0 vc
   refine QH (hb5.upd u4 (by omega)) (i:=0) (by simp) rfl fun hb5'=>?_
   have u5:=PI.setCell (w16.setCell ⟨b4,0,none⟩ vc) b5 0 (.int .i64 ((zM f (vV c) a:Nat):Int))
   refine QH ((hb6.upd u4 (by omega)).upd u5 (by omega)) (i:=0) (by simp) rfl fun hb6'=>?_
   have u6:=PI.setCell ((w16.setCell ⟨b4,0,none⟩ vc).setCell ⟨b5,0,none⟩ (.int .i64 ((zM f (vV c) a:Nat):Int))) b6 0 (.bool true)
   generalize hw19:((w16.setCell ⟨b4,0,none⟩ vc).setCell ⟨b5,0,none⟩ (.int .i64 ((zM f (vV c) a:Nat):Int))).setCell ⟨b6,0,none⟩ (.bool true) = w19 at *
   have hk:Ch (fun b=>b = b4 ∨ b = b5 ∨ b = b6) Wb w19:=((((xb15.trans x16).ch (S:=fun b=>b = b4 ∨ b = b5 ∨ b = b6)).trans (u4.ch (S:=fun b=>b = b4) rfl) fun b h=>.inl (.inl h)).trans (u5.ch (S:=fun b=>b = b5) rfl) fun b h=>.inl (.inr (.inl h))).trans (u6.ch (S:=fun b=>b = b6) rfl) fun b h=>.inl (.inr (.inr h))
   refine ⟨rfl,(hstab _ Wb w19 hk (fun h=>by omega) (fun h=>by omega)).2.1 hLB,fun W' k' hLX=>?_⟩
   have hs19:=hk.size
   refine ⟨((kb.mono (S':=fun b=>b = l ∨ b = b4 ∨ b = b5 ∨ b = b6) fun b h=>.inl h).trans (hk.mono (S':=fun b=>b = l ∨ b = b4 ∨ b = b5 ∨ b = b6) fun b h=>.inr h) fun b h=>.inl h).trans k' fun b h=>.inl (.inl h),?_⟩
   rw [if_pos hbd]
   refine ⟨rfl,hLX,((XWb.ch (S:=fun b=>b = b4 ∨ b = b5 ∨ b = b6)).trans hk fun b h=>.inl h).trans k' fun b h=>.inr (by omega),⟨vc,?_⟩,⟨.int .i64 ((zM f (vV c) a:Nat):Int),?_⟩,hb6'.ch k' fun h=>by omega⟩
   ·exact ((hb4'.upd u5 (by omega)).upd u6 (by omega)).ch k' fun h=>by omega
   ·exact (hb5'.upd u6 (by omega)).ch k' fun h=>by omega
  ·have hbd:decide (¬ zM f (vV c) a = 2 ^ f.n - 1) = false:=decide_eq_false fun e=>hb fun h=>e (by exact_mod_cast h)
   refine ⟨rfl,hLB15,fun W' k' hLR'=>?_⟩
   have hs15:=xb15.size
   refine ⟨(kb.trans (xb15.ch.trans k' fun b h=>.inl h) fun b h=>.inl h).mono fun b h=>.inl h,?_⟩
   rw [if_neg (by rw [hbd];simp)]
   exact ⟨rfl,hLR',(XWb.trans xb15).thenCh k' fun b hb=>by omega⟩
 ·intro W hJW hsW hD hall
  have x5W:=x512.trans hJW
  refine QH (hB4.ext x5W) (i:=0) (by simp) rfl fun hb4'=>?_
  have u4:=PI.setCell W b4 0 (.slice none 0 0)
  refine QH ((hB5.ext x5W).upd u4 (by omega)) (i:=0) (by simp) rfl fun hb5'=>?_
  have u5:=PI.setCell (W.setCell ⟨b4,0,none⟩ (.slice none 0 0)) b5 0 (.int .i64 0)
  refine QH (((hB6.ext x5W).upd u4 (by omega)).upd u5 (by omega)) (i:=0) (by simp) rfl fun hb6'=>?_
  have u6:=PI.setCell ((W.setCell ⟨b4,0,none⟩ (.slice none 0 0)).setCell ⟨b5,0,none⟩ (.int .i64 0)) b6 0 (.bool false)
  generalize hw19:((W.setCell ⟨b4,0,none⟩ (.slice none 0 0)).setCell ⟨b5,0,none⟩ (.int .i64 0)).setCell ⟨b6,0,none⟩ (.bool false) = w19 at *
  have hk:Ch (fun b=>b = b4 ∨ b = b5 ∨ b = b6) W w19:=((u4.ch (S:=fun b=>b = b4 ∨ b = b5 ∨ b = b6) (.inl rfl)).trans (u5.ch (S:=fun b=>b = b5) rfl) fun b h=>.inl (.inr (.inl h))).trans (u6.ch (S:=fun b=>b = b6) rfl) fun b h=>.inl (.inr (.inr h))
  refine ⟨Gi.ch hD hk fun h=>by omega,fun w23 k23=>?_⟩
  have hs19:=hk.size
  have e4:=((hb4'.upd u5 (by omega)).upd u6 (by omega)).ch k23 fun h=>by omega
  have e5:=(hb5'.upd u6 (by omega)).ch k23 fun h=>by omega
  have e6:=hb6'.ch k23 fun h=>by omega
  refine mA e4 rfl (mA e5 rfl (mA e6 rfl ⟨?_,_,_,_,rfl,?_⟩))
  ·exact ((X5.trans x5W).thenCh hk fun b h=>by omega).thenCh k23 fun b h=>by omega
  ·refine Iff.intro (fun h=>by cases h) (fun h=>?_)
   refine (h ?_).elim
   intro V hV
   obtain ⟨c,h1,h2,h3,h4⟩:=hall V hV
   have h4:zM f (vV c) a = 2 ^ f.n - 1:=by simpa using h4
   rw [← h4]
   exact jI a fun v hv=>(h3 v ((hmem v).2 (vo hv))).symm
 ·intro W c ⟨hX,⟨u,h4⟩,⟨m,h5⟩,h6⟩ hsW hD hc hcu hbd
  refine ⟨hD,fun w37 k37=>?_⟩
  have e4:=h4.ch k37 fun h=>by omega
  have e5:=h5.ch k37 fun h=>by omega
  have e6:=h6.ch k37 fun h=>by omega
  refine mA e4 rfl (mA e5 rfl (mA e6 rfl ⟨?_,_,_,_,rfl,?_⟩))
  ·exact ((X12).thenCh hX fun b h=>by omega).thenCh k37 fun b h=>by omega
  ·refine ⟨fun _ hv=>?_,fun _=>rfl⟩
   have hbd:¬ zM f (vV c) a = 2 ^ f.n - 1:=by simpa using hbd
   exact hbd (hv _ (Vu hP hcu))
theorem u9(f:Po A){va vn:Value}(k:jL w va A.a)(g:oC w vn r)(i:vA vn=true)(j:Fm.pl r)(l:r.size<=1000000):
  nA prog 281 #[.agg #[iv (A.n:Int),va],vn] w λd m=>bA w m/\ ∃b,d= .bool b/\(b=true↔Ni A r):=by
 apply yV;unfold FK;refine xC λo s p a e=>?_;refine DB e rfl ?_;refine aA ((U5 f (k.ext a) (rB.ext g a) i j l).mono ?_);rintro d t ⟨n,u,q,b,rfl,c⟩;refine eD (by rfl) (eD (by rfl) (eD (by rfl) ?_));refine TA ⟨a.trans n,_,rfl,?_⟩;cases b
 ·refine⟨λ_=>?_,λ_=>rfl⟩;apply Classical.byContradiction;intro h;exact absurd (c.2 h) (by simp)
 ·exact⟨λh=>(by cases h),λh=>(c.1 rfl h).elim⟩
theorem sk(n i:Nat):(List.replicate n (0:Nat)).getD i 0=0:=by rw[List.getD_eq_getElem?_getD,List.getElem?_replicate];split<;>rfl
theorem UW(h:x<m.length):m.getD x 0=m[x]:=by rw[List.getD_eq_getElem?_getD,List.getElem?_eq_getElem h];rfl
theorem Sr(h:x<m.length):(m.take (x+1)).reverse=gt m x::(m.take x).reverse:=by
 rw[List.take_succ_eq_append_getElem h,List.reverse_append,LA h];rfl
theorem F0(b:r.good):∀x∈cE r,x<6:=λx d=>by
 have c:pD (cB r)<2^6:=YI (List.all_eq_true.2 (BD b));have a:=(YW (by omega)).1 d;rcases Nat.lt_or_ge x 6 with h|h
 ·exact h
 ·rw[Nat.testBit_lt_two_pow (Nat.lt_of_lt_of_le c (Nat.pow_le_pow_right (by decide) h))]at a;cases a
theorem pu(a:r.good)(h:Fm.has x r):x∈cE r:=by
 have b:pD (cB r)<2^6:=YI (List.all_eq_true.2 (BD a));exact(YW (by omega)).2 (xc h)
theorem Pn(a:Po A)(d:r.good):Ni A r↔ ∀j,j<(RA A).length^(cE r).length->zM A (vV (wR (RA A) (cE r).reverse j (List.replicate 6 0))) r=2^A.n-1:=by
 have c:0<(RA A).length:=List.length_pos_of_mem (UR a);have hR:∀v∈(cE r).reverse,v<(List.replicate 6 0:List Nat).length:=λv b=>by rw[List.length_replicate];exact F0 d v (List.mem_reverse.1 b)
 have n:∀i,i<(List.replicate 6 0:List Nat).length->(List.replicate 6 0:List Nat).getD i 0∈RA A:=λi _=>by
  rw[sk];exact UR a
 constructor
 ·intro h j _;refine h _ (Vu a λx m=>?_);obtain⟨i,e,rfl⟩:=List.getElem_of_mem m;have f:=e;rw[W1]at f;have:=Xb c (cE r).reverse j (List.replicate 6 0) hR n i f
  rwa [UW e]at this
 ·intro h V k;obtain⟨j,g,l⟩:=mj c (V:=V) (cE r).reverse (List.replicate 6 0) (List.pairwise_reverse.2 ((ZW _).imp Ne.symm)) hR λv _=>k v;rw[List.length_reverse]at g;rw[<-h j g];refine jI r λv b=>?_;show V v=(wR _ _ _ _).getD v 0;rw[l v,if_pos (List.mem_reverse.2 (pu d b))]
theorem y3{ups vs:List Nat}(m:jL w v ups)(I:0<ups.length)(p:jL w i vs)(J:∀x∈vs,x<6)(F:f<2^40):
  nA prog 640 #[v,i,iv f] w λN h=>bA w h/\Ow w.heap.size KA h N (JA (MA (wR ups vs.reverse f (List.replicate 6 0)))):=by
 apply V4;unfold KP;refine uw (n:=6) (by decide) (by decide) rfl λb O T u q=>?_;have q:GA KA O b (JA (MA (List.replicate 6 0))):=q;have K:=(Sl.ext p u).len;rw[SA,WA]at K;refine WC (l:=vs) (Sl.ext p u) (HB (by omega) ?_);refine MB (λs:Nat×Nat×List Nat=>[iv (s.1:Int),iv ((s.2.1:Int)-1)]) (λs h=>s.2.1<=vs.length/\s.1<2^40/\bA w h/\s.2.2.length=6/\GA KA h b (JA (MA s.2.2))/\wR ups (vs.take s.2.1).reverse s.1 s.2.2=wR ups vs.reverse f (List.replicate 6 0)) (λs=>s.2.1) (f,vs.length,List.replicate 6 0) rfl ⟨Nat.le_refl _,F,u,by simp,q,by rw[List.take_length]⟩ ?_;rintro⟨n,k,c⟩ P R ⟨A,r,g,a,j,d⟩ E;have A:k<=vs.length:=A;have r:n<2^40:=r;have a:c.length=6:=a;have j:GA KA P b (JA (MA c)):=j;have d:wR ups (vs.take k).reverse n c=wR ups vs.reverse f (List.replicate 6 0):=d;intro _;simp only[gx];refine LF (dA (λG=>?_) (λG=>?_))
 ·obtain⟨k,rfl⟩:∃L,k=L+1:=⟨k-1,by omega⟩
  have e:k<vs.length:=by omega
  rw[Sr e,wR]at d;have C:gt vs k<6:=J _ (by rw[LA e];exact List.getElem_mem e);rw[show((k+1:Nat):Int)-1=(k:Int)by omega]at*;refine tE (l:=vs) (Sl.ext p g) e λM t=>DD t ?_;rw[show vs.getD k 0=gt vs k by rw[LA e];simp[List.getD_eq_getElem?_getD,e]];have H:n%ups.length<ups.length:=Nat.mod_lt _ I;refine WC (l:=ups) (Sl.ext m g) (Rq (by omega) ?_);rw[show(n:Int)%(ups.length:Int)=((n%ups.length:Nat):Int)by simp];refine tE (l:=ups) (Sl.ext m g) H λM t=>DD t ?_;refine Ke (o:=0) C λU y=>?_;rw[Nat.zero_add];refine QX (j.ext y) (by rw[SA,WA,a];exact C) rfl λV D B=>λQ z=>?_;refine WC (l:=ups) (Sl.ext m ((g.trans y).thenCh (B.ch (S:=λc=>c=b) rfl) (λc a=>by omega) |>.trans z)) (d9 (by omega) (HB (by omega) ?_));rw[show(n:Int)/(ups.length:Int)=((n/ups.length:Nat):Int)by simp];refine E (n/ups.length,k,c.set (gt vs k) (ups.getD (n%ups.length) 0)) _ ⟨by show k<=vs.length;omega,Nat.lt_of_le_of_lt (Nat.div_le_self _ _) r,((g.trans y).thenCh (B.ch (S:=λc=>c=b) rfl) λc a=>by omega).trans z,by show(c.set _ _).length=6;rw[List.length_set];exact a,?_,d⟩ (by show k<k+1;omega);have:JA (MA (c.set (gt vs k) (ups.getD (n%ups.length) 0)))=(JA (MA c)).set (gt vs k) (iv ((ups.getD (n%ups.length) 0:Nat):Int)):=by simp[JA,MA,List.map_set]
  show GA KA Q b (JA (MA (c.set (gt vs k) (ups.getD (n%ups.length) 0))));rw[this];exact D.ext z
 ·have:k=0:=by omega
  subst this;rw[List.take_zero,List.reverse_nil,wR]at d;rw[<-d];refine⟨g,?_⟩;exact Ow.ofBlk (n:=6) j (by omega) (by rw[SA,WA,a]) (by decide)
theorem q6{g:Fr}(a:Po g){u:Value}(t:jL w U g.a)(s:oC w u r)(c:r.good)(hp:r.plain=true)(hn:r.size<=40)(V:(RA g).length<=256)(L:(RA g).length^(cE r).length<=4096):
  nA prog 365 #[.agg #[iv (g.n:Int),U],u] w λE e=>bA w e/\ ∃b,E= .bool b/\(b=true↔Ni g r):=by
 have C:0<(RA g).length:=List.length_pos_of_mem (UR a);have aa:Fm.pl r:=AW.2 ⟨c,by rw[YE];exact hp⟩;have h8:=a.ok.1;have Y:∀{w:World},jL w U g.a->oC w u r->nA prog 536 #[.agg #[iv (g.n:Int),U],u] w λE e=>bA w e/\ ∃N M b,E= .tuple #[N,M,.bool b]/\(b=false↔Ni g r):=λ{w} t s=>by
  apply E8;unfold KS;refine iC λac w1 hq f h=>DB h rfl ?_;refine aA ((HO a.ok (Sl.ext t f)).mono ?_);rintro ae O ⟨m,I⟩;have G:=f.trans m;refine aA ((RE (oC.rawS (rB.ext s G)) (List.all_eq_true.2 (BD c))).mono ?_);rintro ad y ⟨n,q⟩;have q:Ow O.heap.size KA y ad (JA (MA (cE r))):=q;have Q:=G.trans n;refine WC (l:=RA g) (I.ext n).sl (WC (l:=cE r) q.sl ?_);have ab:(cE r).length<=1000:=by
   have:(cE r).length<=64:=by
    have:=List.Nodup.length_le_of_subset (ZW (pD (cB r))) (l₂:=List.range 6) λx k=>List.mem_range.2 (F0 c x k);rw[List.length_range]at this;exact Nat.le_trans this (by decide)
   omega
  refine aA ((MQ (RA g).length (cE r).length ⟨C,V⟩ ab y).mono ?_);rintro _ y ⟨rfl,ag,rfl,-,hz⟩;rw[hz L];refine MB (λj:Nat=>[iv j]) (λj e=>j<=(RA g).length^(cE r).length/\bA w e/\bA y e/\ ∀i,i<j->zM g (vV (wR (RA g) (cE r).reverse i (List.replicate 6 0))) r=2^g.n-1) (λj=>(RA g).length^(cE r).length-j) 0 rfl ⟨Nat.zero_le _,Q,bA.refl _,λi d=>absurd d (Nat.not_lt_zero i)⟩ ?_;rintro j w6 Kn ⟨hj,P,o,J⟩ T;intro _;simp only[gx];refine jB (dA (λZ=>?_) (λZ=>?_))
  ·have D:j<(RA g).length^(cE r).length:=by omega
   refine aA ((y3 (ups:=RA g) (vs:=cE r) ((I.ext n).ext o).sl C (q.ext o).sl (F0 c) (Nat.lt_of_lt_of_le D (Nat.le_trans L (by decide)))).mono ?_);rintro af w7 ⟨z,S⟩;have hR:∀v∈(cE r).reverse,v<(List.replicate 6 0:List Nat).length:=λv hv=>by rw[List.length_replicate];exact F0 c v (List.mem_reverse.1 hv)
   have X:∀x∈wR (RA g) (cE r).reverse j (List.replicate 6 0),x∈RA g:=λx k=>by
    obtain⟨i,d,rfl⟩:=List.getElem_of_mem k;have K:=d;rw[W1]at K;have:=Xb C (cE r).reverse j (List.replicate 6 0) hR (λi _=>by rw[sk];exact UR a) i K
    rwa [UW d]at this
   have p:=P.trans z;refine DB (h.ext ((m.trans n).trans (o.trans z))) rfl ?_;refine gA (p6 a.ok (by rw[W1];simp) (λx k=>tg (X x k)) r (Sl.ext t p) S.sl (rB.ext s p) aa (by omega)) λw8 A=>?_;refine pB (mA (h.ext (((m.trans n).trans (o.trans z)).trans A)) (i:=0) (v:=iv (g.n:Int)) rfl ?_);refine gA (oG g.n (by omega) w8) λw9 F=>ZF (dA (λH=>?_) (λH=>?_))
   ·refine⟨(p.trans A).trans F,_,_,true,rfl,(λB=>by cases B),λB=>?_⟩;have:=(Pn a c).1 B j D;exact absurd (by rw[this]) H
   ·refine qA (by omega) ?_;refine T (j+1) _ ⟨D,(p.trans A).trans F,((o.trans z).trans A).trans F,λi d=>?_⟩ (by omega);by_cases R:i=j
    ·subst R;omega
    ·exact J i (by omega)
  ·exact⟨P,_,_,false,rfl,λ_=>(Pn a c).2 λi d=>J i (by omega),λ_=>rfl⟩
 apply G8;unfold MS;refine iC λac w1 hq f h=>DB h rfl ?_;refine aA ((Y (Sl.ext t f) (rB.ext s f)).mono ?_);rintro _ O ⟨m,N,M,b,rfl,W⟩;refine eD (by rfl) (eD (by rfl) (eD (by rfl) ?_));refine TA ⟨f.trans m,_,rfl,?_⟩;rw[<-W];cases b<;>simp
def bC(c:UInt8):jA->List jA
 |[]=>[[]]
 |x::t=>if x=c then[]::bC c t else(x::(bC c t).head!)::(bC c t).tail
theorem UG:∀{t:jA},(∀x∈t,x≠q)->bC q t=[t]
 |[],_=>rfl
 |x::t,h=>by
  rw[bC,if_neg (h x (by simp)),UG (λy a=>h y (by simp[a]))];rfl
theorem sK{r:jA}:∀{a:jA},(∀x∈a,x≠q)->bC q (a++q::r)=a::bC q r
 |[],_=>by rw[List.nil_append,bC,if_pos rfl]
 |x::a,h=>by
  rw[List.cons_append,bC,if_neg (h x (by simp)),sK (λy b=>h y (by simp[b]))];rfl
theorem Ub(h:∀x∈s,x≠q):s.count q=0:=List.count_eq_zero.2 λa=>h q a rfl
theorem Zn(h:∀x∈s,x≠q):(s++q::Y).count q=Y.count q+1:=by
 rw[List.count_append,Ub h,List.count_cons_self];omega
theorem pg(c:UInt8){Q:jA->Prop}(h0:∀t,(∀x∈t,x≠c)->Q t)(h1:∀a r,(∀x∈a,x≠c)->Q r->Q (a++c::r)):∀t,Q t:=by
 suffices H:∀n,∀t:jA,t.length<=n->Q t fromλt=>H t.length t (Nat.le_refl _)
 intro n
 induction n with
 |zero=>intro t ht;exact h0 t (by have:t=[]:=List.length_eq_zero_iff.1 (by omega);subst this;simp)
 |succ n ih=>
  intro t ht;rcases JE t c with⟨h,_⟩|⟨a,r,rfl,h,_⟩
  ·exact h0 t h
  ·refine h1 a r h (ih r ?_);rw[List.length_append,List.length_cons]at ht;omega
theorem SR(c:UInt8)(t:jA):(bC c t).length=t.count c+1:=by
 induction t using pg c with
 |h0 t h=>rw[UG h,Ub h];rfl
 |h1 a r h ih=>rw[sK h,Zn h,List.length_cons,ih]
theorem og(c:UInt8)(t:jA):(bC c t).length<=t.length+1:=by
 rw[SR];have:=List.count_le_length (a:=c) (l:=t);omega
theorem zd(c:UInt8)(t:jA):∀s∈bC c t,s.length<=t.length:=by
 induction t using pg c with
 |h0 t h=>rw[UG h];intro s b;rw[List.mem_singleton.1 b];exact Nat.le_refl _
 |h1 a r h ih=>
  rw[sK h];intro s b;rw[List.length_append,List.length_cons];rcases List.mem_cons.1 b with rfl|b
  ·omega
  ·have:=ih s b;omega
theorem zq(d:x<=n)(b:n<s.length)(c:s.getD n 0=q):s.drop x=(s.drop x).take (n-x)++q::s.drop (n+1):=by
 have a:=List.take_append_drop (n-x) (s.drop x);rw[List.drop_drop,show x+(n-x)=n by omega,List.drop_eq_getElem_cons b]at a;have:s[n]=q:=by rw[<-c];simp[List.getD_eq_getElem?_getD,b]
 rw[this]at a;exact a.symm
theorem Ck{Q:UInt8->Prop}(h:∀j,x<=j->j<n->Q (s.getD j 0)):∀a∈(s.drop x).take (n-x),Q a:=by
 intro a c;obtain⟨j,b,rfl⟩:=List.getElem_of_mem c;rw[List.length_take,List.length_drop]at b;have:=h (x+j) (by omega) (by omega);rw[List.getElem_take,List.getElem_drop]
 rwa [List.getD_eq_getElem?_getD,List.getElem?_eq_getElem (by omega),Option.getD_some]at this
theorem FQ(c:UInt8)(H:o=((c.toNat:Nat):Int))(P:s.length<=4194304)(w:World):nA prog 101 #[sv s,.int .u8 o] w λr m=>bA w m/\Ow w.heap.size fA m r (yA (bC c s)):=by
 subst H;apply b8;unfold tS;refine PH λI S R M G=>?_;refine MB (λa:Value×Nat×Nat=>[a.1,iv (a.2.1:Int),iv (a.2.2:Int)]) (λa m=>a.2.1<=a.2.2/\a.2.2<=s.length/\bA w m/\ ∃L,Ow w.heap.size fA m a.1 (yA L)/\L.length<=a.2.1/\bC c s=L++bC c (s.drop a.2.1)/\ ∀j,a.2.1<=j->j<a.2.2->s.getD j 0≠c) (λa=>s.length-a.2.2) (I,0,0) rfl
  ⟨Nat.le_refl _,Nat.zero_le _,M,[],G,Nat.le_refl _,rfl,λj e b=>absurd b (Nat.not_lt_zero j)⟩ ?_
 rintro⟨C,p,i⟩ J N ⟨t,A,n,L,d,hL,l,h⟩ z;have t:p<=i:=t;have A:i<=s.length:=A;have d:Ow w.heap.size fA J C (yA L):=d;have hL:L.length<=p:=hL;have l:bC c s=L++bC c (s.drop p):=l;have h:∀j,p<=j->j<i->s.getD j 0≠c:=h;have O:=AA L;intro _;simp only[gx];refine HD (jB ?_);refine dA (λF=>?_) (λF=>?_)
 ·have g:i<s.length:=by omega
  refine Hp g ?_;refine BA (dA (λf=>?_) (λf=>?_))
  ·have f:s.getD i 0=c:=UInt8.toNat_inj.1 (by exact_mod_cast f);refine Bc t (by omega) ?_;refine nT IB EB rfl d rfl (by omega) (by omega) n.size λD K k x=>?_;refine qA (by omega) ?_;refine qA (by omega) ?_;rw[uG]at k;refine z (D,i+1,i+1) _ ⟨Nat.le_refl _,g,n.grown x λu v=>(d.blk u v).1,_,k,?_,?_,λj e b=>?_⟩ (by show s.length-(i+1)<s.length-i;omega)
   ·show(L++[(s.drop p).take (i-p)]).length<=i+1;rw[List.length_append,List.length_singleton];omega
   ·show bC c s=L++[(s.drop p).take (i-p)]++bC c (s.drop (i+1));have q:=sK (r:=s.drop (i+1)) (Ck (Q:=λy=>y≠c) h);rw[<-zq t g f]at q;rw[l,q];simp
   ·have e:i+1<=j:=e;have b:j<i+1:=b;omega
  ·refine qA (by omega) ?_;refine z (C,p,i+1) _ ⟨by show p<=i+1;omega,g,n,L,d,hL,l,λj e b=>?_⟩ (by show s.length-(i+1)<s.length-i;omega);have b:j<i+1:=b;by_cases q:j=i
   ·subst q;intro E;exact f (by rw[E])
   ·exact h j e (by omega)
 ·have g:i=s.length:=by omega
  refine yO (by omega) ?_;refine nT IB EB rfl d rfl (by omega) (by omega) n.size λD K k x=>?_;rw[uG]at k;refine⟨n.grown x λu v=>(d.blk u v).1,?_⟩;have B:=Ck (Q:=λy=>y≠c) h;rw[List.take_of_length_le (by rw[List.length_drop];omega)]at B;rw[l,UG B];exact k
theorem E3(t:jA)(c:UInt8)(w:World):CB prog 237 #[sv t,sv [c]] w (iv ((t.count c:Nat):Int)):=by
 refine⟨⟨_,Tryz.func237,by kernel_rfl,by kernel_rfl⟩,?_⟩;refine(Any.strings_Count_one Et ⟨t.toArray⟩ c w).mono ?_;rintro e a ⟨rfl,rfl⟩;exact⟨_,rfl,rfl,bA.refl _⟩
theorem Oe(l:jA)(c:UInt8)(w:World):CB prog (190) #[sv l,sv [c]] w (iv (Lib.indexByte l c)):=by
 refine⟨⟨_,Tryz.func190,by kernel_rfl,by kernel_rfl⟩,?_⟩;refine(Any.stringslite_Index_one XW ⟨l.toArray⟩ c w).mono ?_;rintro e a ⟨rfl,rfl⟩;exact⟨_,rfl,rfl,bA.refl _⟩
theorem JO(t:jA)(c:UInt8)(w:World):CB prog 100 #[sv t,sv [c]] w (iv (Lib.indexByte t c)):=by
 apply T8;unfold ZS;exact gA (Oe t c w) λb a=>⟨by first|trivial|rfl,a⟩
theorem Qw{b:Int}(h:z (iv (min o b))):mw (iv o) (iv b) z:=by
 refine⟨_,_,_,_,rfl,rfl,?_⟩;have e:(if b<o then b else o)=min o b:=by split<;>omega
 rw[e];exact h
theorem F3(c:UInt8)(ht:s.length<=4194304)(w:World):nA prog 69 #[sv s,sv [c]] w λr d=>bA w d/\Ow w.heap.size fA d r (yA (bC c s)):=by
 apply V8;unfold bT;refine aA (nA.mono (R:=λr d=>bA w d/\Ow w.heap.size fA d r (yA (bC c s))) ?_ λr d y=>y);apply zZ;unfold kN;have ab:=SR c s;have ag:=List.count_le_length (a:=c) (l:=s);refine BA (cA rfl ?_);refine yB (b:=[]) (cA (by simp) ?_);refine jB ?_;refine WB (λL d=>L=[iv ((s.count c+1:Nat):Int)]/\bA w d) (λaf V=>?_) ?_
 ·refine iA rfl ?_;refine gA (E3 s c w) λw1 x1=>?_;refine qA (by omega) (V _ _ ⟨?_,x1⟩);simp
 rintro L w3 ⟨rfl,K⟩;intro _;simp only[gx];refine HD (qA (by omega) (Qw ?_));rw[show min ((s.count c+1:Nat):Int) ((s.length:Int)+1)=((s.count c+1:Nat):Int)by omega];refine uw (z:=sv []) (by omega) (by omega) rfl λh I hg x5 U=>?_;refine HB (by omega) ?_;have N:=K.trans x5;have s5:=K.size;have aa:Ow w.heap.size fA I (.slice (some ⟨h,0,none⟩) (s.count c+1) (s.count c+1)) (yA (List.replicate (s.count c+1) [])):=by
  refine Ow.ofBlk (n:=s.count c+1) ?_ (by omega) (by simp[yA]) (by omega);simpa[yA]using U
 refine MB (λg:jA×Nat=>[sv g.1,iv (g.2:Int)]) (λg d=>g.2<=s.count c/\g.1.length<=s.length/\ ∃M,ED w.heap.size fA sv (.slice (some ⟨h,0,none⟩) (s.count c+1) (s.count c+1)) I d M/\M.length=s.count c+1/\bC c s=M.take g.2++bC c g.1) (λg=>g.1.length) (s,0) rfl
  ⟨Nat.zero_le _,Nat.le_refl _,List.replicate (s.count c+1) [],ED.refl aa,by simp,by simp⟩ ?_
 rintro⟨r,i⟩ v Kn ⟨G,D,M,A,X,p⟩ W;have G:i<=s.count c:=G;have D:r.length<=s.length:=D;have p:bC c s=M.take i++bC c r:=p;have O:bA w v:=N.thenCh A.ch λb m=>by cases m;exact(show w.heap.size<=h by omega)
 intro _;simp only[gx]
 --what both ends do:the rest goes into the row,whose first i+1 places are handed back
 have F:∀o,bA v o->(∀x∈r,x≠c)->wA 1 (.slice (some ⟨h,0,none⟩) (s.count c+1) (s.count c+1)) (iv i) λac=>KC o ac (sv r) λJ=>oA .i64 (iv i) (iv 1) λad=>qP 1 (.slice (some ⟨h,0,none⟩) (s.count c+1) (s.count c+1)) none (some ad) λae=>
   bA w J/\Ow w.heap.size fA J ae (yA (bC c s)):=λo t j=>by
  have u:=A.ext t;refine Aj u.ow (by omega) (by rw[List.length_map];omega) λb E m _ _ B C f=>?_;refine rt (B.trans (List.getElem?_eq_getElem (by rw[List.length_map];omega))) C rfl ?_;have f:=f (sv r);rw[Int.toNat_natCast,<-List.map_set]at f;refine qA (by omega) ?_;rw[show(i:Int)+1=((i+1:Nat):Int)by omega];refine wh (k:=i+1) (by omega) (Nat.le_refl _) ?_;have H:(bC c s).length=i+1:=by rw[p,UG j,List.length_append,List.length_take,List.length_singleton];omega
  have Z:i=s.count c:=by omega
  refine⟨(O.trans t).thenCh ((PI.setCell o b E _).ch (S:=λq=>Value.ownBlock (.slice (some ⟨h,0,none⟩) (s.count c+1) (s.count c+1))=some q) m) λb m=>by cases m;exact(show w.heap.size<=h by omega),?_⟩;have P:M.set i r=bC c s:=by
   rw[p,UG j];apply List.ext_getElem
   ·rw[List.length_set,List.length_append,List.length_take,List.length_singleton];omega
   ·intro ah T h2;rw[List.getElem_set];split
    ·rename_i e;subst e;rw[List.getElem_append_right (by rw[List.length_take];omega)];simp
    ·rw[List.getElem_append_left (by rw[List.length_take];rw[List.length_set]at T;omega),List.getElem_take]
  rw[<-P];have:i+1=s.count c+1:=by omega
  rw[this];exact f
 refine jB (dA (λy=>?_) (λy=>?_))
 ·refine gA (JO r c v) λo t=>?_;refine jB ?_;rcases JE r c with⟨j,e⟩|⟨a,q,rfl,j,e⟩
  ·rw[e];exact iA rfl (F o t j)
  ·rw[e];refine cA (by simp) ?_;have Y:a.length<=(a++c::q).length:=by simp
   rw[List.length_append,List.length_cons]at D;refine qA (by omega) ?_;rw[Int.add_zero];refine Cc Y ?_;rw[List.take_left];have u:=A.ext t;refine Aj u.ow (by omega) (by rw[List.length_map];omega) λb E m _ _ B C f=>?_;refine rt (B.trans (List.getElem?_eq_getElem (by rw[List.length_map];omega))) C rfl ?_;have f:=f (sv a);rw[Int.toNat_natCast,<-List.map_set]at f;refine HD ?_;refine qA (by simp;omega) ?_;rw[show(a.length:Int)+(([c]:jA).length:Nat)=((a.length+1:Nat):Int)by simp];refine yO (by simp) ?_;refine qA (by omega) ?_;have Q:(a++c::q).drop (a.length+1)=q:=by rw[List.drop_append];simp
   rw[Q];refine W (q,i+1) _ ⟨by show i+1<=s.count c;omega,by show q.length<=s.length;omega,M.set i a,⟨f,u.ch.trans ((PI.setCell o b E _).ch (S:=λq=>Value.ownBlock (.slice (some ⟨h,0,none⟩) (s.count c+1) (s.count c+1))=some q) m) λ_ e=>.inl e⟩,by rw[List.length_set];exact X,?_⟩ (by show q.length<(a++c::q).length;simp;omega);show bC c s=(M.set i a).take (i+1)++bC c q;rw[p,sK j,List.take_succ_eq_append_getElem (by rw[List.length_set];omega),List.getElem_set_self,List.take_set_of_le (Nat.le_refl _)];simp
 ·have Z:i=s.count c:=by omega
  have j:∀x∈r,x≠c:=by
   have H:=congrArg List.length p;rw[ab,List.length_append,List.length_take,SR]at H;have:r.count c=0:=by omega
   intro x hx e;subst e;exact List.count_eq_zero.1 this hx
  exact F v (bA.refl _) j
def hY:jA:=[109,105,100,100,108,101]
def qu:jA:=[109,111,100,97,108]
def su:jA:=[119,111,114,108,100,115]
def ru:jA:=[114,97,110,107]
def Bp:jA:=[101,113,117,97,108]
def OW:jA:=[102,105,120]
def eW:List jA:=[[115,104,111,119],[110,111,100,101,115],[108,101,116,116,101,114,115],[99,108,97,115,115,105,99,97,108],[99,110,102],[110,111,114,109,97,108],[105,110,116],[115,116,101,112,115],[116,101,114,109],[108,111,103,105,99,115],[115,97,104,108,113,118,105,115,116],[116,114,97,99,101]]
def mW:List jA:=[qu,su,ru]
def nW:List jA:=[hY,qu,su,ru,OW]
def Sk:List jA:=[[75],[68],[84],[75,52],[83,52],[71,76],[83,53],[75,66]]
def RC:List jA:=[[66,68,50],[66,68,51],[66,87,50],[66,87,51],[67,76],[73,110,116],[75,67],[76,67],[83,109,76]]
def Ho(t:jA):Bool:=decide (t.length=1)&&(decide (112<=(t.getD 0 0).toNat)&&decide ((t.getD 0 0).toNat<=117))
def qL(p:jA->Bool)(n:Nat):List jA->Bool
 |[]=>false
 |l::es=>p l&&(decide (es.length=n)&&es.all AC)
def qB:List jA->Bool
 |[]=>false
 |w0::rest=>
  if w0∈eW then decide (rest.length=1)&&rest.all AC
  else if w0=hY then qL (λt=>decide (t∈RC)) 1 rest
  else if w0∈mW then qL (λt=>decide (t∈Sk)) 1 rest
  else if w0=Bp then qL (λt=>decide (t∈Sk)) 2 rest
  else if w0=OW then qL Ho 1 rest
  else false
def zx(t:jA):Bool:=decide (t.length<=300)&&qB (bC 32 t)
def BC(a:jA):jA:=
 if a∈eW then[69]else if a=hY then[77,69]else if a∈mW then[76,69]else if a=Bp then[76,69,69]else if a=OW then[86,69]else[]
def Wg(c:UInt8)(t:jA):Bool:=if c=69 then AC t else if c=76 then decide (t∈Sk)else if c=77 then decide (t∈RC)else Ho t
def qF(a:jA)(b:List jA):Bool:=decide (BC a≠[])&&(decide (b.length=(BC a).length)&&(List.range (BC a).length).all λi=>Wg ((BC a).getD i 0) (gt b i))
def Rp(W:List jA)(a c:jA)(es:List jA):Prop:=∃b,W=a::b/\((a∈eW/\es=b)∨(¬a∈eW/\b=c::es))
theorem yn(b:jA)(a:List jA):qB (b::a)=if b∈eW then decide (a.length=1)&&a.all AC
  else if b=hY then qL (λt=>decide (t∈RC)) 1 a
  else if b∈mW then qL (λt=>decide (t∈Sk)) 1 a
  else if b=Bp then qL (λt=>decide (t∈Sk)) 2 a
  else if b=OW then qL Ho 1 a
  else false:=rfl
theorem kx(e:jA)(a:List jA):qF e a=qB (e::a):=by
 have o:List.range 1=[0]:=rfl;have p:List.range 2=[0,1]:=rfl;have q:List.range 3=[0,1,2]:=rfl;have g:¬hY∈eW:=of_decide_eq_true rfl;have h:¬Bp∈eW:=of_decide_eq_true rfl;have i:¬Bp=hY:=of_decide_eq_true rfl;have j:¬Bp∈mW:=of_decide_eq_true rfl;have k:¬OW∈eW:=of_decide_eq_true rfl;have l:¬OW=hY:=of_decide_eq_true rfl;have m:¬OW∈mW:=of_decide_eq_true rfl;have n:¬OW=Bp:=of_decide_eq_true rfl;unfold qF qB BC;split
 ·rcases a with _|⟨b,_|⟨c,r⟩⟩<;>simp[*,Wg,gt]
 split
 ·rcases a with _|⟨b,_|⟨c,_|⟨d,r⟩⟩⟩<;>simp[*,Wg,gt,qL]
 split
 ·rcases a with _|⟨b,_|⟨c,_|⟨d,r⟩⟩⟩<;>simp[*,Wg,gt,qL]
 split
 ·rcases a with _|⟨b,_|⟨c,_|⟨d,_|⟨f,r⟩⟩⟩⟩<;>simp[*,Wg,gt,qL]
 split
 ·rcases a with _|⟨b,_|⟨c,_|⟨d,r⟩⟩⟩<;>simp[*,Wg,gt,qL]
 ·simp[*]
theorem C7(c:UInt8)(t:jA):∃a r,bC c t=a::r:=by
 cases h:bC c t with
 |nil=>have:=SR c t;rw[h]at this;simp at this
 |cons a r=>exact⟨a,r,rfl⟩
theorem tM{c:jA}{G:Value->(List Value->World->Prop)->Prop}(d:∀a,bA w a->S [.bool K] a)(f:s=Y->K=true)
  (h:¬s=Y-> ∀b:List Value->World->Prop,(∀a,bA w a->b [.bool K] a)->G (.bool (decide (s=c))) b):eA (.bool (decide (s=Y))) (S [.bool true] w) (xA .eql (sv s) (sv c) λv=>jn (λb=>G v b) (λi g=>∀_:Nat->Value,S [gx i 0] g)):=by
 refine dA (λe=>?_) (λe=>?_)
 ·have:=d w (bA.refl w)
  rwa [f e]at this
 ·exact yB (Ji (h e _ λa x _=>d a x))
theorem kt{c:jA}(a:∀w4,bA w w4->S [.bool K] w4)(b:s=Y->K=true)(h:¬s=Y->K=decide (s=c)):eA (.bool (decide (s=Y))) (S [.bool true] w) (xA .eql (sv s) (sv c) λv=>S [v] w):=by
 refine dA (λe=>?_) (λe=>?_)
 ·have:=a w (bA.refl w)
  rwa [b e]at this
 ·refine yB ?_;rw[<-h e];exact a w (bA.refl w)
theorem Jw{a b d e f:jA}(h:∀c w',c=w.heap.size/\w'.heap.size=c+1->bA w w'->GA u w' c (yA [s,Y,a,b,d,e,f])->t (.slice (some ⟨c,0,none⟩) 7 7) w'):
  xB u (Value.cells (sv [])) 1 7 [(0,sv s),(1,sv Y),(2,sv a),(3,sv b),(4,sv d),(5,sv e),(6,sv f)] w t:=by
 refine⟨#[sv s,sv Y,sv a,sv b,sv d,sv e,sv f],?_,h _ _ ⟨rfl,by simp⟩ (bA.alloc w _) (GA.new w #[sv s,sv Y,sv a,sv b,sv d,sv e,sv f] u)⟩;simp[Instr.fill,Value.cells,show Array.range 7=#[0,1,2,3,4,5,6]from rfl]
theorem Kw{a b d e f g:jA}(h:∀c w',c=w.heap.size/\w'.heap.size=c+1->bA w w'->GA u w' c (yA [s,Y,a,b,d,e,f,g])->t (.slice (some ⟨c,0,none⟩) 8 8) w'):
  xB u (Value.cells (sv [])) 1 8 [(0,sv s),(1,sv Y),(2,sv a),(3,sv b),(4,sv d),(5,sv e),(6,sv f),(7,sv g)] w t:=by
 refine⟨#[sv s,sv Y,sv a,sv b,sv d,sv e,sv f,sv g],?_,h _ _ ⟨rfl,by simp⟩ (bA.alloc w _) (GA.new w #[sv s,sv Y,sv a,sv b,sv d,sv e,sv f,sv g] u)⟩;simp[Instr.fill,Value.cells,show Array.range 8=#[0,1,2,3,4,5,6,7]from rfl]
theorem Gu{a b d e f g h:jA}(i:∀c w',c=w.heap.size/\w'.heap.size=c+1->bA w w'->GA u w' c (yA [s,Y,a,b,d,e,f,g,h])->t (.slice (some ⟨c,0,none⟩) 9 9) w'):
  xB u (Value.cells (sv [])) 1 9 [(0,sv s),(1,sv Y),(2,sv a),(3,sv b),(4,sv d),(5,sv e),(6,sv f),(7,sv g),(8,sv h)] w t:=by
 refine⟨#[sv s,sv Y,sv a,sv b,sv d,sv e,sv f,sv g,sv h],?_,i _ _ ⟨rfl,by simp⟩ (bA.alloc w _) (GA.new w #[sv s,sv Y,sv a,sv b,sv d,sv e,sv f,sv g,sv h] u)⟩;simp[Instr.fill,Value.cells,show Array.range 9=#[0,1,2,3,4,5,6,7,8]from rfl]
theorem JW(g:1<=f)(h:1<f->z (.slice (some ⟨x,n+1,none⟩) (f-1) (C-1)))(c:f=1-> ∀a,z (.slice a 0 (C-1)))(d:f<=C):qP 1 (.slice (some ⟨x,n,none⟩) f C) (some (iv 1)) none z:=by
 refine⟨_,_,_,1,f,rfl,rfl,⟨.i64,rfl⟩,g,d,?_⟩;rcases Nat.lt_or_ge 1 f with b|b
 ·have:=h b;rw[if_neg (by omega),Option.map_some,XD,Nat.mul_one];exact this
 ·have e:f=1:=by omega
  have:=c e;rw[e,Nat.sub_self];exact this _
def ka(w:World):Prop:=∀i,i<9->w.cell? ⟨0,i,none⟩=some (sv (gt RC i))
theorem Ug{a:Addr}(h:w.cell? a=some v):a.block<w.heap.size:=by
 rcases Nat.lt_or_ge a.block w.heap.size with b|b
 ·exact b
 ·simp only[World.cell?,Array.getElem?_eq_none b]at h;cases h
theorem ka.ext(h:ka w)(x:bA w a):ka a:=λi c=>by
 have b:=h i c;have d:=Ug b;simp only[World.cell?]at b⊢;rw[Go.RowKit.Below.block x _ d];exact b
theorem Kx:prog.underlying 183=some (.array 9 fA):=by kernel_rfl
theorem rx:prog.underlying fA=some .string:=by kernel_rfl
theorem Wv(d:x<9)(b:h[x]?=some v):(Instr.index 183 (.agg h) (iv x)).run prog w= .ok v w:=by
 obtain⟨i,c,a⟩:=Option.map_eq_some_iff.1 EB;simp only[Prod.mk.injEq]at a;simp[Instr.index,run_underlying Kx,run_underlying rx,asIntOf,part,isAgg,AE c,a.2.1,b];intro e;omega
theorem dJ(m:ka w):nA prog 70 #[sv s] w λr c=>bA w c/\ ∃z:Int,r=iv z/\decide (0<=z)=decide (s∈RC):=by
 apply MT;unfold FJ;refine⟨_,(yA RC).toArray,rfl,rfl,λi f=>?_,?_⟩
 ·rw[XD,Nat.zero_add,m i f];have:i<RC.length:=f;simp[yA,LA this,this]
 refine MB (λi:Nat=>[iv i]) (λi c=>i<=9/\bA w c/\ ∀j,j<i-> ¬gt RC j=s) (λi=>9-i) 0 rfl ⟨Nat.zero_le _,bA.refl _,λj b=>by omega⟩ ?_;rintro i q o ⟨f,g,h⟩ l;intro _;simp only[gx];refine jB (dA (λk=>?_) (λk=>?_))
 ·have a:i<9:=by omega
  refine⟨sv (gt RC i),λc _=>Wv a ?_,?_⟩
  ·have:i<RC.length:=a;simp[yA,LA this,this]
  refine yB (dA (λd=>?_) (λd=>?_))
  ·refine⟨g,_,rfl,?_⟩;rw[decide_eq_true (show s∈RC by rw[<-d,LA (show i<RC.length from a)];exact List.getElem_mem _)];simp
  ·refine qA (by omega) ?_;refine l (i+1) _ ⟨a,g,λj b=>?_⟩ (by omega);by_cases e:j=i
   ·subst e;exact d
   ·exact h j (by omega)
 ·refine⟨g,-1,rfl,?_⟩;rw[decide_eq_false (show¬s∈RC fromλn=>by
   obtain⟨j,b,e⟩:=List.getElem_of_mem n;have p:j<9:=b;exact h j (by omega) (by rw[LA b];exact e))]
  rfl
theorem gU(t:jA)(w:World):CB prog 72 #[sv t] w (.bool (decide (t∈Sk))):=by
 apply PK;unfold IG;refine aA (nA.mono (R:=λr b=>bA w b/\iM b r Sk) ?_ ?_)
 ·apply iH;unfold gF;refine Kw λg e h a d=>⟨a,Sl.ofBlk (n:=8) d rfl (by decide)⟩
 ·rintro r e ⟨a,c⟩;exact gA (fD c) λi f=>⟨rfl,a.trans f⟩
theorem eP(t:jA)(w:World):CB prog 71 #[sv t] w (.bool (Ho t)):=by
 apply UP;unfold YH;refine sB (Ho t) w (λJ b=>?_) (λp l=>λ_=>⟨by first|trivial|rfl,l⟩);refine HD (BA (dA (λh=>?_) (λh=>?_)))
 ·obtain⟨c,rfl⟩:∃c,t=[c]:=List.length_eq_one_iff.1 (by omega);refine gA (v:=.bool (Ho [c])) ?_ λq m=>b _ m;apply yZ;unfold jN;refine gA (JO [112,113,114,115,116,117] c w) λo j=>?_;refine LF ⟨?_,j⟩
  congr 1
  have e:Ho [c]=decide (c∈([112,113,114,115,116,117]:jA)):=by
   simp only[Ho,List.length_singleton,List.getD_cons_zero,decide_true,Bool.true_and,<-Bool.decide_and];refine decide_eq_decide.2 ⟨λh=>?_,λh=>?_⟩
   ·have:c.toNat=112∨c.toNat=113∨c.toNat=114∨c.toNat=115∨c.toNat=116∨c.toNat=117:=by omega
    have k:∀d:UInt8,c.toNat=d.toNat->c=d:=λd g=>UInt8.toNat_inj.1 g;simp only[List.mem_cons,List.not_mem_nil,or_false];rcases this with h|h|h|h|h|h
    ·exact .inl (k 112 h)
    ·exact .inr (.inl (k 113 h))
    ·exact .inr (.inr (.inl (k 114 h)))
    ·exact .inr (.inr (.inr (.inl (k 115 h))))
    ·exact .inr (.inr (.inr (.inr (.inl (k 116 h)))))
    ·exact .inr (.inr (.inr (.inr (.inr (k 117 h)))))
   ·simp only[List.mem_cons,List.not_mem_nil,or_false]at h;rcases h with rfl|rfl|rfl|rfl|rfl|rfl<;>decide
  rw[e];rcases JE [112,113,114,115,116,117] c with⟨h,a⟩|⟨n,r,f,_,a⟩
  ·rw[a,decide_eq_false (λi=>h c i rfl)];rfl
  ·rw[a,decide_eq_true (show c∈([112,113,114,115,116,117]:jA)by rw[f];simp)];simp
 ·have:Ho t=false:=by unfold Ho;rw[decide_eq_false (by omega)];rfl
  rw[this]at b;exact b _ (bA.refl _)
abbrev Wx(a:Nat)(w:World)(v:Value)(L:List jA):Prop:=Ow a fA w v (yA L)
theorem Pw{a y:Option Value}(P:Value->Prop)(b:∀z:Value->Prop,(∀u,P u->z u)->qP x v a y z)(h:∀u,P u->z u):qP x v a y z:=b z h
theorem qT(ht:s.length<=300)(hN:ka w):nA prog 33 #[sv s] w λbt c=>bA w c/\ ∃t v y,bt= .tuple #[.agg #[sv t,sv v,y],.bool (qB (bC 32 s))]/\vA y=true/\(qB (bC 32 s)=true-> ∃es,iM c y es/\Rp (bC 32 s) t v es):=by
 apply Oa;unfold FU;refine rN λx w1 ea x1 r=>?_;refine aA ((F3 32 (by omega) w1).mono ?_);rintro bu q ⟨x2,ho⟩;have cj:=og 32 s;have bk:=zd 32 s;obtain⟨b,f,hW⟩:=C7 32 s;rw[hW]at ho cj bk⊢;obtain⟨g,cb,hv,ai,dz⟩:=Ow.open ho (by simp[yA]);have am:=AA (b::f);rw[am]at hv ai;have hg:bu.ownBlock=some g:=by rw[hv];rfl
 have bn:=ho.blk g hg;have s1:=x1.size;refine mH (L:=b::f) ho.sl (j:=0) rfl (by simp) ?_;show zB _ _ [(0,sv b)] _;refine GD (cs:=#[sv b,sv [],.slice none 0 0]) (by simp[Instr.fill,Value.cells]) ?_;refine rN λE w3 eb x3 i=>?_;refine Uq i rfl rfl rfl rfl λw4 i ck=>?_;have s2:=x2.size;have I:bA q w4:=x3.thenCh ck λl k=>by omega
 have r:=(r.ext x2).ext I;have bi:=(x1.trans x2).trans I;have cg:=hN.ext bi
 --the row of words wherever its block stands as it did
 have hO:∀c:World,c.heap[g]?=q.heap[g]?->Wx w1.heap.size c bu (b::f):=λc e=>ho.same λl k=>by
  rw[hg]at k;cases k;exact e
 have co:w4.heap[g]?=q.heap[g]?:=Go.RowKit.Below.block I g bn.2;have al:g≠E:=by omega
 have bo:g≠x:=by omega
 have an:x≠E:=by omega
 refine pB (mA i rfl ?_);refine yB ?_;refine sB (decide (b∈eW)) w4 (λJ a=>?_) (λw6 H=>?_)
 ·refine tM a (λe=>by rw[e];rfl) λn1 J a=>?_;refine tM a (λe=>by rw[e];rfl) λn2 J a=>?_;refine tM a (λe=>by rw[e];rfl) λn3 J a=>?_;refine tM a (λe=>by rw[e];rfl) λn4 J a=>?_;refine tM a (λe=>by rw[e];rfl) λn5 J a=>?_;refine tM a (λe=>by rw[e];rfl) λn6 J a=>?_;refine tM a (λe=>by rw[e];rfl) λn7 J a=>?_;refine tM a (λe=>by rw[e];rfl) λn8 J a=>?_;refine tM a (λe=>by rw[e];rfl) λn9 J a=>?_;refine tM a (λe=>by rw[e];rfl) λdg J a=>?_;refine kt a (λe=>by rw[e];rfl) λdh=>?_;refine decide_eq_decide.2 ?_;simp only[eW,List.mem_cons,List.not_mem_nil,or_false,n1,n2,n3,n4,n5,n6,n7,n8,n9,dg,dh,false_or]
 intro _;simp only[gx];have X6:=bi.trans H;have i:=i.ext H;have r:=r.ext H;have ci:=cg.ext H;have cr:w6.heap[g]?=q.heap[g]?:=(Go.RowKit.Below.block H g (by have:=I.size;omega)).trans co;have bj:∀{c:World} {d:jA} {y:Value},bA w c->GA 68 c E [sv b,sv d,y]->vA y=true->GA 68 c x [sv [],sv [],.slice none 0 0]->qB (b::f)=false->
   HA c 3 (.pointer (some ⟨E,0,none⟩)) λdj=>sD prog c 3 (.pointer (some ⟨x,0,none⟩)) dj λbe=>HA be 3 (.pointer (some ⟨x,0,none⟩)) λdi=>bA w be/\ ∃t v y,Value.tuple #[di,.bool false]= .tuple #[.agg #[sv t,sv v,y],.bool (qB (b::f))]/\vA y=true/\(qB (b::f)=true-> ∃es,iM be y es/\Rp (b::f) t v es):=λ{c d y} hX h5 hx n hb=>by
  refine Kq h5 ?_;refine Uq n rfl rfl rfl hx λF cc k=>?_;refine Kq cc ⟨hX.thenCh k λl k=>by omega,b,d,y,by rw[hb],hx,λh=>by rw[hb]at h;cases h⟩
 refine WB (λT c=>bA w6 c/\ ∃N:Bool,∃M:Nat,T=[.bool N,iv M]/\((b∈eW/\N=false/\M=1)∨(¬b∈eW/\N=true/\(b=Bp/\M=2∨ ¬b=Bp/\b∈nW/\M=1)))) (λdw av=>?_) ?_
 ·refine dA (λhE=>av _ _ ⟨bA.refl _,false,1,rfl,.inl ⟨hE,rfl,rfl⟩⟩) (λhE=>?_);refine yB (Ji ?_);refine dA (λh=>λ_=>av _ _ ⟨bA.refl _,true,2,rfl,.inr ⟨hE,rfl,.inl ⟨h,rfl⟩⟩⟩) (λhq=>?_);refine yB ?_;refine sB (decide (b∈nW)) w6 (λJ a=>?_) (λw8 x8=>?_)
  ·refine tM a (λe=>by rw[e];rfl) λn1 J a=>?_;refine tM a (λe=>by rw[e];rfl) λn2 J a=>?_;refine tM a (λe=>by rw[e];rfl) λn3 J a=>?_;refine kt a (λe=>by rw[e];rfl) λn4=>?_;refine decide_eq_decide.2 ?_;simp only[nW,List.mem_cons,List.not_mem_nil,or_false,hY,qu,su,ru,OW,n1,n2,n3,n4,false_or]
  ·intro _;simp only[gx];refine dA (λh=>λ_=>av _ _ ⟨x8,true,1,rfl,.inr ⟨hE,rfl,.inr ⟨hq,h,rfl⟩⟩⟩) (λZ=>?_);refine bj (X6.trans x8) (i.ext x8) rfl (r.ext x8) ?_;simp only[nW,List.mem_cons,List.not_mem_nil,or_false,not_or]at Z;unfold qB mW;have db:¬b=Bp:=hq;simp[hE,Z.1,Z.2.1,Z.2.2.1,Z.2.2.2.1,Z.2.2.2.2,db]
 rintro T W ⟨Q,N,M,rfl,aj⟩;intro _;simp only[gx];have ah:=X6.trans Q;have i:=i.ext Q;have r:=r.ext Q;have ce:=ci.ext Q;have K:W.heap[g]?=q.heap[g]?:=(Go.RowKit.Below.block Q g (by have:=I.size;have:=H.size;omega)).trans cr
 --the words behind the first,as t value that stands wherever the row's block does
 refine Pw (λV=>vA V=true/\(∀c:World,c.heap[g]?=q.heap[g]?->iM c V f)/\(∀d es,f=d::es-> ∃U c',V= .slice (some ⟨g,1,none⟩) U c'/\1<=U/\U<=c'/\U=f.length)) (λdy H'=>?_) ?_
 ·have bh:=λ(V:Value) D n m=>H' V ⟨D,n,m⟩;rw[hv];rcases Nat.lt_or_ge 1 (b::f).length with D|D
  ·refine JW (by simp) (λ_=>?_) (λe=>absurd e (by omega)) ai;refine bh _ rfl (λc e=>?_) (λd es e=>⟨_,_,rfl,by omega,by omega,by simp⟩);have h:=hO c e;rw[hv]at h;have hd:(yA (b::f)).drop 1=yA f:=rfl;refine⟨some ⟨g,1,none⟩,cb-1,?_,?_,?_,.inr ⟨g,1,rfl,λdf hi=>?_⟩⟩
   ·rw[AA];rfl
   ·rw[AA];simp at ai⊢;omega
   ·omega
   ·rw[AA]at hi;rw[<-hd,List.getElem?_drop];exact h.at am (by simp;omega)
  ·have u:f=[]:=by cases f with|nil=>rfl|cons t v=>simp at D
   refine JW (by simp) (λe=>absurd e (by omega)) (λ_ t=>?_) ai;refine bh _ rfl (λc e=>?_) (λd es e=>by rw[u]at e;cases e);rw[u];exact⟨t,_,rfl,Nat.zero_le _,by omega,.inl rfl⟩
 rintro V ⟨cl,ap,de⟩;refine WB (λT c=>∃(O:Value) (es:List jA) (d:jA),T=[O]/\vA O=true/\(∀F:World,F.heap[g]?=q.heap[g]?->iM F O es)/\bA w c/\c.heap[g]?=q.heap[g]?/\ka c/\GA 68 c E [sv b,sv d,.slice none 0 0]/\GA 68 c x [sv [],sv [],.slice none 0 0]/\((N=false/\es=f)∨(N=true/\f=d::es))) (λdx aw=>?_) ?_
 ·refine kB (λaa=>?_) (λaa=>?_)
  ·refine ZA (ap W K) ?_;refine BA (dA (λh0=>?_) (λh0=>?_))
   ·have u:f=[]:=List.length_eq_zero_iff.1 (by omega);refine bj ah i rfl r ?_;rcases aj with⟨_,h,_⟩|⟨hE,_,_⟩
    ·rw[h]at aa;cases aa
    ·rw[u];unfold qB;simp[hE,qL]
   ·obtain⟨d,es,u⟩:∃d es,f=d::es:=by
     cases dd:f with
     |nil=>rw[dd]at h0;simp at h0
     |cons t v=>exact⟨t,v,rfl⟩
    obtain⟨U,c',rfl,cz,br,bs⟩:=de d es u;refine⟨λl=>l=E,?_⟩;refine Ke (j:=0) (by omega) ?_;have bl:∀c:World,c.heap[g]?=q.heap[g]?->c.cell? ⟨g,1+0,none⟩=some (sv d):=λc e=>by
     have h:=hO c e;rw[hv]at h;have:=h.at am (j:=1) (by rw[u];simp);rw[u]at this;exact this
    refine DD (bl W K) ⟨λdk k=>?_,?_⟩
    ·refine DD (bl dk ((k.block g (by have:=I.size;have:=H.size;have:=Q.size;omega) al).trans K)) rfl
    refine JW cz (λh=>?_) (λh t=>?_) br
    ·refine pB ?_;intro bg C;refine QX (i.ext C) (by simp) rfl λdl au o=>⟨o.ch rfl,λae G=>?_⟩
     have ay:ae.heap[g]?=q.heap[g]?:=by
      have ba:g<W.heap.size:=by have:=I.size;have:=H.size;have:=Q.size;omega
      have bb:g<bg.heap.size:=by have:=C.size;omega
      rw[Go.RowKit.Below.block G g (by rw[o.size];exact bb),o.block g al,Go.RowKit.Below.block C g ba,K]
     have ab:bA w ae:=((ah.trans C).thenCh (o.ch (S:=λl=>l=E) rfl) λl k=>by omega).trans G;refine aw _ _ ⟨_,es,d,rfl,rfl,λF e=>?_,ab,ay,hN.ext ab,au.ext G,?_,.inr ⟨aa,u⟩⟩
     ·have m:=hO F e;rw[hv]at m;have hd:(yA (b::f)).drop 2=yA es:=by rw[u];rfl
      have bm:es.length=U-1:=by rw[bs,u];rfl
      refine⟨some ⟨g,1+1,none⟩,c'-1,?_,?_,?_,.inr ⟨g,1+1,rfl,λdf hi=>?_⟩⟩
      ·rw[AA,bm]
      ·rw[AA,bm];omega
      ·have:U<=c':=br;have ar:=ap W K;obtain⟨a',c2,bd,k2,k3,_⟩:=ar;injection bd with e1 e2 e3
       omega
      ·rw[AA]at hi;rw[<-hd,List.getElem?_drop];exact m.at am (by simp;omega)
     ·exact((r.ext C).upd o an).ext G
    ·refine pB ?_;intro bg C;refine QX (i.ext C) (by simp) rfl λdl au o=>⟨o.ch rfl,λae G=>?_⟩
     have ay:ae.heap[g]?=q.heap[g]?:=by
      have ba:g<W.heap.size:=by have:=I.size;have:=H.size;have:=Q.size;omega
      have bb:g<bg.heap.size:=by have:=C.size;omega
      rw[Go.RowKit.Below.block G g (by rw[o.size];exact bb),o.block g al,Go.RowKit.Below.block C g ba,K]
     have ab:bA w ae:=((ah.trans C).thenCh (o.ch (S:=λl=>l=E) rfl) λl k=>by omega).trans G;have cm:es=[]:=List.length_eq_zero_iff.1 (by rw[u,List.length_cons]at bs;omega);refine aw _ _ ⟨_,es,d,rfl,rfl,λF e=>?_,ab,ay,hN.ext ab,au.ext G,?_,.inr ⟨aa,u⟩⟩
     ·rw[cm];have ar:=ap W K;obtain⟨a',c2,bd,k2,k3,_⟩:=ar;injection bd with e1 e2 e3
      exact⟨t,_,rfl,Nat.zero_le _,by omega,.inl rfl⟩
     ·exact((r.ext C).upd o an).ext G
  ·refine aw _ _ ⟨V,f,[],rfl,cl,ap,ah,K,ce,i,r,.inl ⟨aa,rfl⟩⟩
 rintro T ad ⟨O,es,d,rfl,ax,bc,bw,ak,ch,i,r,ao⟩;intro _;simp only[gx];refine pB (mA i rfl ?_);refine yB ?_;have cu:g<ad.heap.size:=by
  rcases Nat.lt_or_ge g ad.heap.size with h|h
  ·exact h
  ·rw[Array.getElem?_eq_none h]at ak;rw[Array.getElem?_eq_getElem bn.2]at ak;cases ak
 refine sB (if b=hY then decide (d∈RC)else if b=OW then Ho d else(!N||decide (d∈Sk))) ad (λJ a=>?_) (λbv af=>?_)
 ·refine dA (λh=>?_) (λh=>?_)
  ·have h:b=hY:=h;rw[if_pos h]at a;refine pB (mA i rfl ?_);refine aA ((dJ ch).mono ?_);rintro bt ec ⟨dr,eg,rfl,hz⟩;refine LF ?_;rw[hz];exact a _ dr
  ·have h:¬b=hY:=h;rw[if_neg h]at a;refine yB (Ji ?_);refine dA (λn=>?_) (λn=>?_)
   ·have n:b=OW:=n;rw[if_pos n]at a;refine pB (mA i rfl ?_);exact gA (eP d ad) λed ds=>λ_=>a _ ds
   ·have n:¬b=OW:=n;rw[if_neg n]at a;refine Ji ?_;refine TA (kB (λm=>?_) (λm=>?_))
    ·rw[m,Bool.true_or]at a;exactλ_=>λ_=>a _ (bA.refl _)
    ·rw[m,Bool.false_or]at a;refine pB (mA i rfl ?_);exact gA (gU d ad) λee dt=>λ_=>λ_=>a _ dt
 intro _;simp only[gx];have bx:=bw.trans af;have cp:bv.heap[g]?=q.heap[g]?:=(Go.RowKit.Below.block af g cu).trans ak;refine pB ?_;refine QX (i.ext af) (by simp) ax λP i o=>?_;have i:GA 68 P E [sv b,sv d,O]:=i;have r:GA 68 P x [sv [],sv [],.slice none 0 0]:=(r.ext af).upd o an;have bz:bA w P:=bx.thenCh (o.ch (S:=λl=>l=E) rfl) λl k=>by omega
 have cv:g<bv.heap.size:=by have:=af.size;omega
 have az:P.heap[g]?=q.heap[g]?:=(o.block g al).trans cp;have bq:g<P.heap.size:=by rw[o.size];exact cv
 have cy:∀A∈es,A.length<=300:=λA hs=>by
  have:A∈b::f:=by
   rcases ao with⟨_,e⟩|⟨_,e⟩
   ·rw[<-e];exact List.mem_cons_of_mem _ hs
   ·rw[e];exact List.mem_cons_of_mem _ (List.mem_cons_of_mem _ hs)
  have:=bk A this;omega
 --what the function says
 have z:∀gd:Bool,gd=(if b=hY then decide (d∈RC)else if b=OW then Ho d else(!N||decide (d∈Sk)))->(gd&&(decide (es.length=M)&&es.all AC))=qB (b::f):=λgd ac=>by
  subst ac;rcases aj with⟨hE,rfl,rfl⟩|⟨hE,rfl,hq⟩
  ·rcases ao with⟨_,rfl⟩|⟨h,_⟩
   ·have D:¬b=hY:=λe=>by rw[e]at hE;revert hE;decide
    have n:¬b=OW:=λe=>by rw[e]at hE;revert hE;decide
    rw[if_neg D,if_neg n,yn,if_pos hE];rfl
   ·cases h
  ·rcases ao with⟨h,_⟩|⟨_,rfl⟩
   ·cases h
   ·rw[yn,if_neg hE];rcases hq with⟨rfl,rfl⟩|⟨da,bp,rfl⟩
    ·rw[if_neg (by decide),if_neg (by decide),if_neg (by decide),if_neg (by decide),if_pos rfl];rfl
    ·simp only[nW,List.mem_cons,List.not_mem_nil,or_false]at bp;rcases bp with rfl|rfl|rfl|rfl|rfl
     ·rw[if_pos rfl,if_pos rfl];rfl
     ·rw[if_neg (by decide),if_neg (by decide),if_neg (by decide),if_pos (by decide)];rfl
     ·rw[if_neg (by decide),if_neg (by decide),if_neg (by decide),if_pos (by decide)];rfl
     ·rw[if_neg (by decide),if_neg (by decide),if_neg (by decide),if_pos (by decide)];rfl
     ·rw[if_neg (by decide),if_pos rfl,if_neg (by decide),if_neg (by decide),if_neg da,if_pos rfl];rfl
 refine WB (λT c=>T=[.bool (qB (b::f))]/\bA w c/\GA 68 c x [sv b,sv d,O]/\c.heap[g]?=q.heap[g]?) (λJ a=>?_) ?_
 ·refine⟨λl=>l=x,?_⟩;refine Kq i ⟨λef k=>Kq (i.ch k λe=>an e.symm) rfl,?_⟩;have dc:∀{B X Y:World},bA P B->Ch (λl=>l=x) B X->bA X Y->Y.heap[g]?=q.heap[g]?:=λ{B X Y} R k ag=>by
   have cw:g<B.heap.size:=by have:=R.size;omega
   rw[Go.RowKit.Below.block ag g (by have:=k.size;omega),k.block g cw bo,Go.RowKit.Below.block R g bq,az]
  have aq:∀(v:Bool) (B:World),bA P B->v=qB (b::f)->sD prog B 3 (.pointer (some ⟨x,0,none⟩)) (.agg #[sv b,sv d,O]) λX=>Ch (λl=>l=x) B X/\ ∀Y,bA X Y->J [.bool v] Y:=λv B R hb=>by
   refine Uq (r.ext R) rfl rfl rfl ax λX cd k=>⟨k,λY ag=>a _ _ ⟨by rw[hb],((bz.trans R).thenCh k λl k=>by omega).trans ag,cd.ext ag,dc R k ag⟩⟩
  refine kB (λac=>?_) (λac=>?_)
  ·have z:=z _ rfl;rw[ac,Bool.true_and]at z;refine ZA (bc P az) ?_;refine BA (dA (λcx=>?_) (λcx=>?_))
   ·rw[decide_eq_true (show es.length=M by omega),Bool.true_and]at z;refine⟨.bool (es.any λA=>!AC A),λc k=>?_,?_⟩
    ·have cn:c.heap[g]?=q.heap[g]?:=(k.block g bq bo).trans az;refine gA (OC (p:=λA=>!AC A) (bc c cn) λA hs F _=>(lQ rfl ?_)) λw3 x3=>⟨rfl,x3⟩
     show nA prog 73 #[sv A] F _;apply N4;unfold CP;exact gA (PG (by have:=cy A hs;omega) F) λw3 x3=>TA ⟨rfl,x3⟩
    ·refine TA ?_;intro B R;refine aq _ B R ?_;rw[<-z];simp[List.any_eq_not_all_not]
   ·rw[decide_eq_false (show¬es.length=M by omega),Bool.false_and]at z;exactλdn du=>aq _ dn du z
  ·have z:=z _ rfl;rw[ac,Bool.false_and]at z;exactλdq dv=>aq _ dq dv z
 ·rintro T dm ⟨rfl,ca,hB,ct⟩;intro _;simp only[gx];refine Kq hB ⟨ca,b,d,O,rfl,ax,λ_=>⟨es,bc dm ct,f,rfl,?_⟩⟩;rcases ao with⟨D,n⟩|⟨D,n⟩
  ·rcases aj with⟨m,_⟩|⟨_,m,_⟩
   ·exact .inl ⟨m,n⟩
   ·rw[D]at m;cases m
  ·rcases aj with⟨_,m,_⟩|⟨m,_⟩
   ·rw[D]at m;cases m
   ·exact .inr ⟨m,n⟩
theorem j9(d:ka w):CB prog 19 #[sv s] w (.bool (zx s)):=by
 apply Ba;unfold sU;unfold zx;refine HD (jB (dA (λh=>?_) (λh=>?_)))
 ·rw[decide_eq_false (show¬s.length<=300 by omega),Bool.false_and];exact⟨by first|trivial|rfl,bA.refl _⟩
 ·rw[decide_eq_true (show s.length<=300 by omega),Bool.true_and];refine aA ((qT (by omega) d).mono ?_);rintro r m ⟨b,g,i,x,rfl,e,-⟩;refine lD (mD ?_);refine rN λq n l f c=>?_;refine Uq c rfl rfl rfl e λo k a=>⟨by first|trivial|rfl,(b.trans f).thenCh a λj a=>by have:=b.size;omega⟩
theorem E6(t:jA)(w:World):CB prog 102 #[sv t] w (sv (BC t)):=by
 apply S8;unfold YS;refine yB ?_;refine sB (decide (t∈eW)) w (λJ a=>?_) (λv k=>?_)
 ·refine tM a (λe=>by rw[e];rfl) λi J a=>?_;refine tM a (λe=>by rw[e];rfl) λj J a=>?_;refine tM a (λe=>by rw[e];rfl) λn J a=>?_;refine tM a (λe=>by rw[e];rfl) λo J a=>?_;refine tM a (λe=>by rw[e];rfl) λp J a=>?_;refine tM a (λe=>by rw[e];rfl) λq J a=>?_;refine tM a (λe=>by rw[e];rfl) λr J a=>?_;refine tM a (λe=>by rw[e];rfl) λs J a=>?_;refine tM a (λe=>by rw[e];rfl) λu J a=>?_;refine tM a (λe=>by rw[e];rfl) λl J a=>?_;refine kt a (λe=>by rw[e];rfl) λm=>?_;refine decide_eq_decide.2 ?_;simp only[eW,List.mem_cons,List.not_mem_nil,or_false,i,j,n,o,p,q,r,s,u,l,m,false_or]
 intro _;simp only[gx];unfold BC;refine dA (λh=>⟨by rw[if_pos h],k⟩) (λh=>?_);rw[if_neg h];refine yB (dA (λc=>⟨by rw[if_pos (show t=hY from c)],k⟩) (λc=>?_));rw[if_neg (show¬t=hY from c)];refine yB ?_;refine sB (decide (t∈mW)) v (λJ a=>?_) (λy x=>?_)
 ·refine tM a (λe=>by rw[e];rfl) λi J a=>?_;refine kt a (λe=>by rw[e];rfl) λj=>?_;refine decide_eq_decide.2 ?_;simp only[mW,List.mem_cons,List.not_mem_nil,or_false,qu,su,ru,i,j,false_or]
 intro _;simp only[gx];have b:=k.trans x;refine dA (λd=>⟨by rw[if_pos d],b⟩) (λd=>?_);rw[if_neg d];refine yB (dA (λf=>⟨by rw[if_pos (show t=Bp from f)],b⟩) (λf=>?_));rw[if_neg (show¬t=Bp from f)];refine yB (dA (λg=>⟨by rw[if_pos (show t=OW from g)],b⟩) (λg=>?_));rw[if_neg (show¬t=OW from g)];exact⟨rfl,b⟩
theorem YY(t:jA)(w:World):CB prog 103 #[sv t] w (.bool (decide (t∈Sk))):=by
 apply Tg;unfold R0;refine sB (decide (t∈Sk)) w (λJ b=>?_) (λd a=>λ_=>⟨by first|trivial|rfl,a⟩);refine yB (dA (λh=>?_) (λh=>?_))
 ·have:=b w (bA.refl w)
  rwa [show decide (t∈Sk)=true by rw[h];rfl]at this
 ·refine gA (v:=.bool (decide (t∈Sk))) ?_ λk f=>b _ f;apply ZT;unfold QJ;refine Jw λg j i e c=>?_;refine gA (G9 (L:=[[75],[68],[84],[75,52],[83,52],[71,76],[83,53]]) (Sl.ofBlk (n:=7) c rfl (by decide))) λd a=>⟨?_,e.trans a⟩
  congr 1
  refine decide_eq_decide.2 ?_;simp[Sk,h]
theorem D3(t:jA)(w:World):CB prog 104 #[sv t] w (.bool (decide (t∈RC))):=by
 apply Z4;unfold NP;refine MB (λi:Nat=>[iv i]) (λi a=>i<=9/\bA w a/\ ∀j,j<i-> ¬gt RC j=t) (λi=>9-i) 0 rfl ⟨Nat.zero_le _,bA.refl _,λj b=>by omega⟩ ?_;rintro i l x ⟨A,g,k⟩ s;intro _;simp only[gx];refine jB (dA (λp=>?_) (λp=>?_))
 ·have f:i<9:=by omega
  refine aA (nA.mono (R:=λr a=>bA l a/\r= .tuple #[sv (gt RC i),iv 0]) ?_ ?_)
  ·apply cQ;unfold gI;refine aA (nA.mono (R:=λr a=>bA l a/\iM a r RC) ?_ ?_)
   ·apply gT;unfold nL;refine Gu λy C z v q=>⟨v,Sl.ofBlk (n:=9) q rfl (by decide)⟩
   ·rintro r m ⟨c,h⟩;refine ZA h ?_;refine HB (by decide) ?_;refine gA (ok_spec_l01In _ _ _ m) λD o=>?_;refine TA (cA ?_ ?_)
    ·rw[decide_eq_true (show(0:Int)<=(i:Int)/\(i:Int)<=((RC.length:Nat):Int)-1 from⟨by omega,by show(i:Int)<=9-1;omega⟩)];rfl
    refine mH (h.ext o) rfl (show i<RC.length from f) ?_;exact⟨c.trans o,rfl⟩
  ·rintro r m ⟨c,rfl⟩;refine lD (mD ?_);refine yB (dA (λd=>?_) (λd=>?_))
   ·rw[decide_eq_true (show t∈RC by rw[<-d,LA (show i<RC.length from f)];exact List.getElem_mem _)];exact⟨by first|trivial|rfl,g.trans c⟩
   ·refine qA (by omega) ?_;refine s (i+1) _ ⟨f,g.trans c,λj b=>?_⟩ (by omega);by_cases e:j=i
    ·subst e;exact d
    ·exact k j (by omega)
 ·rw[decide_eq_false (show¬t∈RC fromλu=>by
   obtain⟨j,b,e⟩:=List.getElem_of_mem u;have B:j<9:=b;exact k j (by omega) (by rw[LA b];exact e))]
  exact⟨by first|trivial|rfl,g⟩
theorem m7(t:jA):BC t=[69]∨BC t=[77,69]∨BC t=[76,69]∨BC t=[76,69,69]∨BC t=[86,69]∨BC t=[]:=by
 unfold BC;by_cases a:t∈eW
 ·rw[if_pos a];exact .inl rfl
 rw[if_neg a];by_cases b:t=hY
 ·rw[if_pos b];exact .inr (.inl rfl)
 rw[if_neg b];by_cases c:t∈mW
 ·rw[if_pos c];exact .inr (.inr (.inl rfl))
 rw[if_neg c];by_cases d:t=Bp
 ·rw[if_pos d];exact .inr (.inr (.inr (.inl rfl)))
 rw[if_neg d];by_cases e:t=OW
 ·rw[if_pos e];exact .inr (.inr (.inr (.inr (.inl rfl))))
 rw[if_neg e];exact .inr (.inr (.inr (.inr (.inr rfl))))
theorem Df(t:jA):(BC t).length<=3:=by
 rcases m7 t with h|h|h|h|h|h<;>rw[h]<;>decide
theorem so(t:jA):∀i,i<(BC t).length->(BC t).getD i 0=69∨(BC t).getD i 0=76∨(BC t).getD i 0=77∨(BC t).getD i 0=86:=by
 intro i a;rcases m7 t with h|h|h|h|h|h<;>rw[h]at a⊢ <;>(rcases i with _|_|_|i<;>first|simp;done|(simp at a<;>omega))
theorem B6(ht:s.length<=300)(w:World):CB prog 36 #[sv s] w (.bool (qB (bC 32 s))):=by
 apply P8;unfold VS;refine aA ((FQ 32 rfl (by omega) w).mono ?_);rintro ac Y ⟨x1,u⟩;have S:=og 32 s;have y:=zd 32 s;obtain⟨a,c,R⟩:=C7 32 s;rw[R]at u S y⊢;rw[<-kx];refine mH (L:=a::c) u.sl (j:=0) rfl (by simp) ?_;show TB _ _ [sv a] _ _;refine gA (E6 a Y) λC E=>?_;have H:=x1.trans E;have z:=u.ext E;refine sB (!(decide (BC a≠[])&&decide (c.length=(BC a).length))) C (λJ d=>?_) (λZ F=>?_)
 ·refine yB (b:=[]) (dA (λh=>?_) (λh=>?_))
  ·have:=d C (bA.refl _)
   rwa [show(!(decide (BC a≠[])&&decide (c.length=(BC a).length)))=true by simp[h]]at this
  ·refine ZA z.sl ?_;have U:(BC a).length<=3:=Df a;refine HD (qA (by omega) (ZF ?_));rw[show decide (¬((a::c).length:Int)=((BC a).length:Int)+1)=(!(decide (BC a≠[])&&decide (c.length=(BC a).length)))by
    rw[decide_eq_true (show BC a≠[]from h),Bool.true_and,<-decide_not];refine decide_eq_decide.2 ?_;rw[List.length_cons];omega]
   exact d _ (bA.refl _)
 intro _;simp only[gx];have x:=H.trans F;have X:=z.ext F;unfold qF;refine kB (λh=>?_) (λh=>?_)
 ·rw[Bool.not_eq_true',Bool.and_eq_false_iff]at h;refine⟨?_,x⟩;rcases h with h|h<;>rw[h]<;>simp
 ·rw[Bool.not_eq_false',Bool.and_eq_true,decide_eq_true_eq,decide_eq_true_eq]at h;rw[decide_eq_true h.1,decide_eq_true h.2,Bool.true_and,Bool.true_and];refine MB (λi:Nat=>[iv i]) (λi B=>i<=(BC a).length/\bA w B/\bA Z B/\ ∀j,j<i->Wg ((BC a).getD j 0) (gt c j)=true) (λi=>(BC a).length-i) 0 rfl ⟨Nat.zero_le _,x,bA.refl _,λj r=>by omega⟩ ?_;rintro i k Kn ⟨hi,l,G,A⟩ Q;intro _;simp only[gx];refine HD (jB (dA (λW=>?_) (λW=>?_)))
  ·have g:i<(BC a).length:=by omega
   have U:=Df a;refine qA (by omega) ?_;have O:(i:Int)+1=((i+1:Nat):Int):=by omega
   refine mH (L:=a::c) (X.ext G).sl (j:=i+1) O (by rw[List.length_cons];omega) ?_;have V:gt (a::c) (i+1)=gt c i:=rfl;rw[V];have ab:(gt c i).length<=300:=by
    have:gt c i∈a::c:=by rw[LA (show i<c.length by omega)];exact List.mem_cons_of_mem _ (List.getElem_mem _)
    have:=y _ this;omega
   refine Hp g ?_;have aa:=so a i g;have t:∀m:UInt8,decide ((((BC a).getD i 0).toNat:Int)=((m.toNat:Nat):Int))=decide ((BC a).getD i 0=m):=λm=>decide_eq_decide.2 ⟨λh=>UInt8.toNat_inj.1 (by exact_mod_cast h),λh=>by rw[h]⟩;refine BA ?_;refine sB (Wg ((BC a).getD i 0) (gt c i)) k (λJ d=>?_) (λw8 v=>?_)
   ·have I:=t 69;have K:=t 76;have M:=t 77;unfold Wg at d;refine cast (by rw[<-show decide ((((BC a).getD i 0).toNat:Int)=69)=decide ((BC a).getD i 0=69)from I]) (?_:eA (.bool (decide ((BC a).getD i 0=69))) _ _);refine dA (λn=>?_) (λn=>?_)
    ·rw[if_pos n]at d;exact gA (EL (by omega) k) λD f=>d _ f
    rw[if_neg n]at d;refine BA (Ji ?_);refine cast (by rw[<-show decide ((((BC a).getD i 0).toNat:Int)=76)=decide ((BC a).getD i 0=76)from K]) (?_:eA (.bool (decide ((BC a).getD i 0=76))) _ _);refine dA (λo=>?_) (λo=>?_)
    ·rw[if_pos o]at d;exact gA (YY (gt c i) k) λD f=>λ_=>d _ f
    rw[if_neg o]at d;refine BA (Ji ?_);refine cast (by rw[<-show decide ((((BC a).getD i 0).toNat:Int)=77)=decide ((BC a).getD i 0=77)from M]) (?_:eA (.bool (decide ((BC a).getD i 0=77))) _ _);refine dA (λp=>?_) (λp=>?_)
    ·rw[if_pos p]at d;exact gA (D3 (gt c i) k) λD f=>λ_=>λ_=>d _ f
    rw[if_neg p]at d;refine Ji ?_;unfold Ho at d;refine HD (BA (dA (λq=>?_) (λq=>?_)))
    ·have q:(gt c i).length=1:=by omega
     rw[decide_eq_true q,Bool.true_and]at d;refine Hp (j:=0) (by omega) ?_;refine LF (dA (λP=>?_) (λP=>?_))
     ·rw[decide_eq_true (show 112<=((gt c i).getD 0 0).toNat by omega),Bool.true_and]at d;refine Hp (j:=0) (by omega) ?_;refine LF ?_;rw[show decide ((((gt c i).getD 0 0).toNat:Int)<=117)=decide (((gt c i).getD 0 0).toNat<=117)from decide_eq_decide.2 (by omega)];exactλ_=>λ_=>λ_=>d _ (bA.refl _)
     ·rw[decide_eq_false (show¬112<=((gt c i).getD 0 0).toNat by omega),Bool.false_and]at d;exactλ_=>λ_=>λ_=>d _ (bA.refl _)
    ·rw[decide_eq_false (show¬(gt c i).length=1 by omega),Bool.false_and]at d;exactλ_=>λ_=>λ_=>d _ (bA.refl _)
   intro _;simp only[gx];refine TA (kB (λe=>?_) (λe=>?_))
   ·refine⟨?_,l.trans v⟩;rw[Bool.not_eq_true']at e;show Value.bool false=_
    congr 1
    refine(Bool.eq_false_iff.2 λT=>?_).symm;have:=List.all_eq_true.1 T i (List.mem_range.2 g);rw[e]at this;cases this
   ·rw[Bool.not_eq_false']at e;refine qA (by omega) ?_;refine Q (i+1) _ ⟨g,l.trans v,G.trans v,λj r=>?_⟩ (by omega);by_cases N:j=i
    ·subst N;exact e
    ·exact A j (by omega)
  ·refine⟨?_,l⟩;show Value.bool true=_
   congr 1
   exact(List.all_eq_true.2 λj r=>A j (by have:=List.mem_range.1 r;omega)).symm
theorem V3(a:r.good):(cE r).length<=6:=by
 have:=List.Nodup.length_le_of_subset (ZW (pD (cB r))) (l₂:=List.range 6) λx b=>List.mem_range.2 (F0 a x b);rw[List.length_range]at this;exact this
theorem gP(k:x<=7)(a:Sl w v (JA (MA (Xn x))))(G:P6 w i [(U,cB r)])(f:r.good)(B:r.size<=40):
  CB prog 280 #[.agg #[iv x,v],i] w (iv (if r.plain then(if 4096<(RA (Ii x)).length^(cE r).length then 3 else 0)else 5)):=by
 have z:∀p∈[(U,cB r)],p.2.length<=1099511627776:=λp a=>by
  rw[List.mem_singleton.1 a];show(cB r).length<=_;rw[ZC];omega
 have F:=nq k;have j:=xl k;apply lR;unfold HI;refine xC λu g _ e d=>?_;have d:GA _ g u [iv x,v]:=d;have l:Q9 g v (MA (Xn x)):=Sl.ext a e;have m:=G.ext e;refine sB false g (λN y=>?_) (λR b=>?_)
 ·refine DB d rfl ?_;refine gA (s9 l x) λS s=>?_;refine TA ?_;rw[F];refine cA rfl ?_;refine gA (OG (m.ext s) z) λT K=>?_;have:([(U,cB r)].all λq=>Jj q.2)=true:=by simpa using WW.2 ⟨r,f,B,rfl⟩
  rw[this];exact TA (y _ (s.trans K))
 ·intro _;simp only[gx];have n:=m.ext b;refine cA rfl ?_;refine gA (Y2 n) λI c=>?_;refine TA ?_;have E:([(U,cB r)].all λq=>MD q.2)=r.plain:=by simp[YE]
  rw[E];by_cases a:r.plain=true
  ·rw[if_pos a,a];refine cA rfl ?_;refine DB ((d.ext b).ext c) rfl ?_;have H:jL I v (Ii x).a:=(l.ext b).ext c;refine aA ((aL j.ok H).mono ?_);rintro P V ⟨t,C⟩;refine XC C.sl ?_;refine aA ((bE ((n.ext c).ext t) λp a=>by rw[List.mem_singleton.1 a];exact List.all_eq_true.2 (BD f)).mono ?_);rintro Q J ⟨L,D⟩;refine XC D.sl ?_;have A:EE (XI [(U,cB r)])=cE r:=by simp[XI,cE]
   rw[A,SA,WA,SA,WA];have O:=V3 f;refine gA (Qe _ _ (E0 j.ok) (by omega) J) λW M=>TA ?_;have o:=((((e.trans b).trans c).trans t).trans L).trans M;by_cases h:4096<(RA (Ii x)).length^(cE r).length
   ·rw[if_pos h,decide_eq_false (by omega)];exact iA rfl ⟨rfl,o⟩
   ·rw[if_neg h,decide_eq_true (by omega)];exact cA rfl ⟨rfl,o⟩
  ·rw[if_neg a,Bool.eq_false_iff.2 a];exact iA rfl ⟨rfl,(e.trans b).trans c⟩
theorem cU(n:x<=7)(A:Sl w v (JA (MA (Xn x))))(g:oC w i r)(m:r.good)(z:r.size<=40):
  nA prog 164 #[.agg #[iv x,v],i] w λp C=>bA w C/\ ∃(b:Bool),p= .tuple #[.bool b,iv (if r.plain then(if 4096<(RA (Ii x)).length^(cE r).length then 3 else 0)else 5)]/\(r.plain=true->(RA (Ii x)).length^(cE r).length<=4096->(b=true↔Ni (Ii x) r))/\((r.plain=false∨4096<(RA (Ii x)).length^(cE r).length)->b=false):=by
 have u:=xl n;apply lX;unfold HL;refine xC λs D G j d=>?_;have d:GA _ D s [iv x,v]:=d;refine DB d rfl ?_;have l:=rB.cellZ g;refine fF rfl l λF q H e t=>?_;have o:Sl q v (JA (MA (Xn x))):=A.ext (j.trans e);have B:SO q i (cB r):=oC.rawS (rB.ext g (j.trans e));refine gA (gP n o (P6.one (Ow.ofBlk t (Nat.le_refl _) rfl (by simp)).sl B) m z) λI k=>?_;have c:=(j.trans e).trans k;by_cases a:r.plain=true
 ·rw[if_pos a];by_cases f:4096<(RA (Ii x)).length^(cE r).length
  ·rw[if_pos f];refine ZF (iA (by decide) ⟨c,false,rfl,λ_ h=>by omega,λ_=>rfl⟩)
  ·rw[if_neg f];refine ZF (cA (by decide) ?_);refine DB ((d.ext e).ext k) rfl ?_;refine aA ((u9 u (va:=v) (vn:=i) (o.ext k) (rB.ext g c) l (AW.2 ⟨m,by rw[YE];exact a⟩) (by omega)).mono ?_);rintro p J ⟨E,b,rfl,y⟩;refine⟨c.trans E,b,rfl,λ_ _=>y,λh=>?_⟩;rcases h with h|h
   ·rw[a]at h;cases h
   ·exact absurd h f
 ·rw[if_neg a];exact ZF (iA (by decide) ⟨c,false,rfl,λh=>absurd h a,λ_=>rfl⟩)
noncomputable def Lu(f:Fm):Value:=.tuple #[.bool (if f.plain then(if 4096<Ku f^Yq f then false else ww f)else false),iv (if f.plain then(if 4096<Ku f^Yq f then 3 else 0)else 5)]
theorem ZX(m:x<=6)(w:World):nA prog 165 #[sv [76,67],iv x] w λr e=>bA w e/\ ∃u,r= .agg #[iv ((x+1:Nat):Int),u]/\Ow w.heap.size KA e u (JA (MA (Xn (x+1)))):=by
 apply P4;unfold EP;refine iC λq l n f i=>?_;refine yB (iA (by decide) ?_);refine qA (by omega) ?_;rw[show((x:Int)+1)=((x+1:Nat):Int)by omega];refine aA ((l9 (show x+1<=7 by omega) l).mono ?_);rintro _ o ⟨g,u,rfl,a⟩;have c:=i.ext g;refine RJ c rfl a.cell λp b j=>DB j rfl ⟨(f.trans g).thenCh b λh d=>by omega,u,rfl,?_⟩;exact(a.ch b λh d k=>by subst k;exact a.ne_blk c (by decide) d).mono f.size
theorem dU(B:ka w)(c:oC w v r)(e:r.good)(k:r.size<=40):
  CB prog 89 #[sv [76,67],v] w (Lu r):=by
 have E:(cB r).all cP=true:=List.all_eq_true.2 (BD e);have F:=V3 e;apply fZ;unfold HM;refine gA (yN (oC.rawS c) (by rw[ZC];omega)) λw1 m=>?_;rw[WW.2 ⟨r,e,k,rfl⟩];refine TA (cA rfl ?_);refine aA ((dJ (B.ext m)).mono ?_);rintro _ I ⟨Q,U,rfl,l⟩;have W:0<=U:=by
  rw[show decide (([76,67]:jA)∈RC)=true by decide+kernel]at l;exact of_decide_eq_true l
 refine jB (cA (by simp;omega) ?_);have g:=m.trans Q;refine sB (!r.plain) I (λJ b=>?_) (λw4 R=>?_)
 ·refine gA (r9 (rB.ext c g)) λw5 o=>TA ?_;by_cases a:r.plain=true
  ·rw[a]at b⊢;refine cA rfl ?_;refine yB (cA (by decide) ?_);refine yB (cA (by decide) ?_);refine yB ?_;exact b _ o
  ·rw[Bool.eq_false_iff.2 a]at b⊢;exact iA rfl (b _ o)
 intro _;simp only[gx];have h:=g.trans R;by_cases a:r.plain=true
 ·rw[a];refine cA rfl ?_;refine fF rfl (rB.cellZ c) λu K V S A=>?_;have i:=h.trans S;have hR:P6 K (.slice (some ⟨u,0,none⟩) 1 1) [(v,cB r)]:=P6.one (Ow.ofBlk A (Nat.le_refl _) rfl (by simp)).sl (oC.rawS (rB.ext c i));refine aA ((bE hR λX a=>by rw[List.mem_singleton.1 a];exact E).mono ?_);rintro Y L ⟨T,j⟩;have D:EE (XI [(v,cB r)])=cE r:=by simp[XI,cE]
  rw[D]at j;have s:=i.trans T;refine sB false L (λJ b=>?_) (λM p=>?_)
  ·refine yB (cA (by decide) ?_);refine yB ?_;exact b _ (bA.refl _)
  intro _;simp only[gx];refine cA rfl ?_;refine sB false M (λJ b=>?_) (λaa n=>?_)
  ·refine yB (cA (by decide) ?_);exact b _ (bA.refl _)
  intro _;simp only[gx];refine cA rfl ?_;have q:=(s.trans p).trans n;have y:=(j.ext p).ext n;refine gA (AF y.sl) λH N=>?_;rw[SA,WA];refine aA ((ZX F H).mono ?_);rintro _ ab ⟨O,Z,rfl,G⟩;have f:=(q.trans N).trans O;refine aA ((cU (show(cE r).length+1<=7 by omega) G.sl (rB.ext c f) e k).mono ?_);rintro _ ac ⟨P,t,rfl,x,z⟩;refine eD (by rfl) (eD (by rfl) ⟨?_,f.trans P⟩);unfold Lu;simp only[a,if_true];have C:t=if 4096<Ku r^Yq r then false else ww r:=by
   by_cases d:4096<Ku r^Yq r
   ·rw[if_pos d];exact z (.inr d)
   ·rw[if_neg d,Bool.eq_iff_iff,Um];exact x a (Nat.le_of_not_lt d)
  rw[C];rfl
 ·rw[Bool.eq_false_iff.2 a];refine iA rfl ⟨?_,h⟩;unfold Lu;simp[a]
theorem c0(w:World):CB prog 360 #[sv [76,67]] w (.bool true):=by
 apply I8;unfold OS;refine aA (nA.mono (R:=λr b=>bA w b/\iM b r RC) ?_ ?_)
 ·apply gT;unfold nL;refine Gu λp f q d h=>⟨d,Sl.ofBlk (n:=9) h rfl (by decide)⟩
 rintro v f ⟨d,e⟩;refine gA (v:=iv 7) ?_ λl m=>LF ⟨by rfl,d.trans m⟩;apply xb;unfold YU;refine MB (λi:Nat=>[iv i]) (λi b=>i<=7/\bA f b) (λi=>9-i) 0 rfl ⟨Nat.zero_le _,bA.refl _⟩ ?_;rintro i l o ⟨s,a⟩ j;intro _;simp only[gx];refine ZA (e.ext a) ?_;refine jB (iA (by simp[RC];omega) ?_);refine mH (e.ext a) rfl (show i<RC.length by simp[RC];omega) ?_;refine yB (dA (λc=>?_) (λc=>?_))
 ·have:i=7:=by
   have k:i=0∨i=1∨i=2∨i=3∨i=4∨i=5∨i=6∨i=7:=by omega
   rcases k with rfl|rfl|rfl|rfl|rfl|rfl|rfl|rfl
   all_goals first|rfl|exact absurd c (by decide)
  subst this;exact⟨rfl,a⟩
 ·have:i≠7:=λg=>c (by subst g;rfl);refine qA (by omega) ?_;exact j (i+1) _ ⟨by omega,a⟩ (by omega)
theorem d0(m:x<=6)(w:World):nA prog 362 #[sv [76,67],iv x] w λr e=>bA w e/\ ∃u,r= .agg #[iv ((x+1:Nat):Int),u]/\Ow w.heap.size KA e u (JA (MA (Xn (x+1)))):=by
 apply J8;unfold PS;refine iC λq l n f i=>?_;refine yB (iA (by decide) ?_);refine qA (by omega) ?_;rw[show((x:Int)+1)=((x+1:Nat):Int)by omega];refine aA ((r6 (show x+1<=7 by omega) l).mono ?_);rintro _ o ⟨g,u,rfl,a⟩;have c:=i.ext g;refine RJ c rfl a.cell λp b j=>DB j rfl ⟨(f.trans g).thenCh b λh d=>by omega,u,rfl,?_⟩;exact(a.ch b λh d k=>by subst k;exact a.ne_blk c (by decide) d).mono f.size
theorem kU{f:Fm}(e:oC w v f)(h:f.good)(q:f.size<=40):
  CB prog 212 #[sv [76,67],v] w (Lu f):=by
 have L:(cB f).all cP=true:=List.all_eq_true.2 (BD h);have M:=V3 h;apply wZ;unfold bN;refine gA (lJ e h q) λP Y=>TA (cA rfl ?_);refine gA (c0 P) λQ Z=>TA (cA rfl ?_);have n:=Y.trans Z;refine sB (!f.plain) Q (λJ a=>?_) (λU x4=>?_)
 ·refine gA (nK (rB.ext e n)) λw5 y=>TA ?_;by_cases b:f.plain=true
  ·rw[b]at a⊢;refine cA rfl ?_;refine yB (cA (by decide) ?_);refine yB (cA (by decide) ?_);refine yB ?_;exact a _ y
  ·rw[Bool.eq_false_iff.2 b]at a⊢;exact iA rfl (a _ y)
 intro _;simp only[gx];have j:=n.trans x4;by_cases b:f.plain=true
 ·rw[b];refine cA rfl ?_;refine aA ((RE (oC.rawS (rB.ext e j)) L).mono ?_);rintro N V ⟨x6,k⟩;have k:Ow U.heap.size KA V N (JA (MA (cE f))):=k;refine PH λv5 W ag z h5=>?_;have C:=(j.trans x6).trans z;refine sB false W (λJ a=>?_) (λX A=>?_)
  ·refine yB (cA (by decide) ?_);refine yB ?_;exact a _ (bA.refl _)
  intro _;simp only[gx];refine cA rfl ?_;have H:=(k.ext z).ext A;refine WC (l:=cE f) H.sl ?_;refine sB false X (λJ a=>?_) (λR aa=>?_)
  ·refine yB (cA (by decide) ?_);exact a _ (bA.refl _)
  intro _;simp only[gx];refine cA rfl ?_;refine aA ((d0 M R).mono ?_);rintro _ S ⟨ab,O,rfl,s⟩;have B:=((C.trans A).trans aa).trans ab;refine iC λah aj hq ac I=>?_;refine RJ I rfl s.cell λx E o=>?_;have t:bA S x:=ac.thenCh E λaf hc=>by omega
  have r:Sl x O (JA (MA (Xn ((cE f).length+1)))):=(s.ext t).sl;have d:=xl (show(cE f).length+1<=7 by omega);refine DB o rfl ?_;refine aA ((HO (f:=Ii ((cE f).length+1)) d.ok r).mono ?_);rintro ai T ⟨m,G⟩;refine WC (l:=RA (Ii ((cE f).length+1))) G.sl ?_;have p:=E0 d.ok;refine aA ((MQ _ _ ⟨List.length_pos_of_mem (UR d),p⟩ (show(cE f).length<=1000 by omega) T).mono ?_);rintro _ _ ⟨rfl,ae,rfl,u,-⟩;have i:=(B.trans t).trans m;unfold Lu Ku Yq;simp only[b,if_true];by_cases c:4096<(RA (Ii ((cE f).length+1))).length^(cE f).length
  ·rw[if_pos c,if_pos c];refine jB (iA (by have:=u.2 c;simp;omega) ⟨rfl,i⟩)
  ·rw[if_neg c,if_neg c];refine jB (cA (by have:¬4096<ae:=λF=>c (u.1 F);simp;omega) ?_);refine DB (o.ext m) rfl ?_;refine aA ((q6 (g:=Ii ((cE f).length+1)) d (r.ext m) (rB.ext e i) h b q p (Nat.le_of_not_lt c)).mono ?_);rintro _ ak ⟨ad,D,rfl,K⟩;have:D=ww f:=by rw[Bool.eq_iff_iff,Um];exact K
   rw[this];exact⟨rfl,i.trans ad⟩
 ·rw[Bool.eq_false_iff.2 b];refine iA rfl ⟨?_,j⟩;unfold Lu;simp[b]
section
variable{P:Program}{w:World}
theorem Mw{e:TypeId}{K:Value->World->Prop}(l:P.underlying u=some (.slice e))(k:P.underlying e=some (.int .u8))(j:P.underlying H=some .string)(m:o=(q.toNat:Int))(h:∀b,bA w b->K (sv [q]) b):
  xB e (Value.cells (.int .u8 0)) 1 1 [(0,.int .u8 o)] w λv a=>bA w a/\xR P a (convert u H v) λr=>K r a:=by
 obtain⟨c,d,v,f,g,i⟩:=Lw (P:=P) (w:=w) (K:=λr a=>bA w a/\K r a) l k j m λb x=>⟨x,h b x⟩
 exact⟨c,d,g,v,f,i⟩
end
theorem rq(n:Nat):(VK n).length<=n+1:=by
 induction n using Nat.strongRecOn with
 |_ n a=>
  by_cases h:n<10
  ·unfold VK;rw[Lib.decDigits,dif_pos h];simp
  ·rw[lj h,List.length_append];have:=a (n/10) (by omega);simp only[List.length_cons,List.length_nil];omega
theorem xW:∀{n:Nat},n<=1099511627776-> ∀w:World,CB prog 195 #[iv n] w (sv (VK n)):=by
 intro n
 induction n using Nat.strongRecOn with
 |_ n e=>
  intro m w;apply oe;unfold DY;have c:∀d:Nat,d<10->((48:Int)+(d:Int))=((UInt8.ofNat (48+d)).toNat:Int):=λd b=>by
   rw[UInt8.toNat_ofNat',Nat.mod_eq_of_lt (by omega)];omega
  have a:∀{d:Nat} {K:Value->Prop},d<10->K (.int .u8 ((UInt8.ofNat (48+d)).toNat:Int))->QF .u8 (iv ((48:Int)+(d:Int))) K:=λ{d K} b h=>by
   refine⟨_,_,rfl,?_⟩;rw[show IntKind.u8.wrap ((48:Int)+(d:Int))=((UInt8.ofNat (48+d)).toNat:Int)by
    rw[c d b];simp[IntKind.wrap,IntKind.bits,IntKind.signed]]
   exact h
  refine jB (dA (λh=>?_) (λh=>?_))
  ·refine qA (by omega) ?_;refine a (by omega) ?_;refine Lw Gk (by kernel_rfl) Tryz.underlying9 rfl λp g=>⟨?_,g⟩
   rw[show VK n=[UInt8.ofNat (48+n)]from by unfold VK;rw[Lib.decDigits,dif_pos (by omega)]]
  ·refine d9 (by omega) ?_;rw[show(n:Int)/10=((n/10:Nat):Int)by omega];refine eC (λf o=>e (n/10) (by omega) (by omega) f) ?_;refine Rq (by omega) ?_;rw[show(n:Int)%10=((n%10:Nat):Int)by omega];refine qA (by omega) ?_;refine a (by omega) ?_;intro q i;refine Mw Gk (by kernel_rfl) Tryz.underlying9 rfl λr j=>?_;have l:=rq (n/10);refine vD (by simp only[List.length_cons,List.length_nil];omega) ?_;intro s k;exact⟨by rw[lj (n:=n) (by omega)],(i.trans j).trans k⟩
theorem Ll(h:x<k.length):uF s (k.take (x+1))=(if x=0 then[]else uF s (k.take x)++s)++gt k x:=by
 rw[List.take_succ_eq_append_getElem h,LA h];by_cases e:x=0
 ·subst e;simp[uF]
 ·rw[if_neg e,Hc (by
   intro b;have:=congrArg List.length b;simp at this;rcases this with a|a
   ·exact e a
   ·rw[a]at h;simp at h)]
theorem yi(h:x∈pU r):x<61:=by
 unfold pU at h;exact List.mem_range.1 (List.mem_filter.1 h).1
theorem yu:∀n:Fin 61,(VK n.val).length<=2:=by decide+kernel
theorem CL{b:jA}{L:List jA}(d:iM w v L){m:Nat}(g:∀t∈L,t.length<=m)(o:L.length*(m+b.length)<=1099511627776)(x:b.length+m<=1099511627776):CB prog 207 #[v,sv b] w (sv (uF b L)):=by
 have p:=d.len;rw[AA]at p;apply Ab;unfold bV;refine MB (λi:Nat=>[sv (uF b (L.take i)),iv i]) (λi e=>i<=L.length/\bA w e) (λi=>L.length-i) 0 rfl ⟨Nat.zero_le _,bA.refl _⟩ ?_;rintro i r u ⟨y,c⟩ l;intro _;simp only[gx];have z:(uF b (L.take i)).length<=1099511627776:=by
  refine Nat.le_trans (AM (m:=m) λt q=>g t (List.mem_of_mem_take q)) (Nat.le_trans (Nat.mul_le_mul_right _ ?_) o);rw[List.length_take];omega
 refine ZA (d.ext c) ?_;refine jB (dA (λj=>?_) (λj=>?_))
 ·have a:i<L.length:=by omega
  refine jB ?_;refine WB (λs e=>s=[sv (if i=0 then[]else uF b (L.take i)++b)]/\e=r) (λJ f=>?_) ?_
  ·refine dA (λh=>?_) (λh=>?_)
   ·refine vD (by omega) (f _ _ ⟨?_,rfl⟩);rw[if_neg (by omega)]
   ·refine f _ _ ⟨?_,rfl⟩;have:i=0:=by omega
    subst this;rfl
  rintro _ A ⟨rfl,rfl⟩;intro _;simp only[gx];refine mH (d.ext c) rfl a ?_;have n:(gt L i).length<=m:=g _ (by rw[LA a];exact List.getElem_mem _);have k:(if i=0 then[]else uF b (L.take i)++b:jA).length<=2199023255552:=by
   split
   ·simp
   ·rw[List.length_append];omega
  refine vD (Nat.le_trans (Nat.add_le_add k n) (by omega)) (qA (by omega) ?_);rw[<-Ll a];exact l (i+1) _ ⟨a,c⟩ (by omega)
 ·obtain rfl:i=L.length:=by omega
  rw[List.take_length];exact⟨rfl,c⟩
theorem I9{l:List Nat}(g:jL w v l)(r:∀x∈l,x<=1099511627776)(D:l.length<=1000):nA prog 359 #[v] w λy c=>bA w c/\iM c y (l.map VK):=by
 apply zb;unfold aV;refine PH λz I G A m=>?_;refine MB (λs:Value×Nat=>[s.1,iv (s.2:Int)]) (λs c=>s.2<=l.length/\bA w c/\Ow w.heap.size fA c s.1 (yA ((l.take s.2).map VK))) (λs=>l.length-s.2) (z,0) rfl ⟨Nat.zero_le _,A,m⟩ ?_;rintro⟨B,i⟩ h C ⟨f,d,a⟩ n;have f:i<=l.length:=f;have a:Ow w.heap.size fA h B (yA ((l.take i).map VK)):=a;have E:(yA ((l.take i).map VK)).length=i:=by rw[AA,List.length_map,List.length_take];omega
 intro _;simp only[gx];refine WC (l:=l) (Sl.ext g d) ?_;refine jB (dA (λk=>?_) (λk=>?_))
 ·have b:i<l.length:=by omega
  refine tE (l:=l) (Sl.ext g d) b λH u=>DD u ?_;rw[UW b];refine gA (xW (r _ (List.getElem_mem b)) h) λJ e=>?_;refine WE IB EB rfl (a.ext e) rfl (by omega) (by omega) (d.trans e).size λo K t q F=>?_;refine qA (by omega) ?_;refine n (o,i+1) _ ⟨b,(d.trans e).grown q λj p=>((a.ext e).blk j p).1,?_⟩ (by show l.length-(i+1)<l.length-i;omega);show Ow _ _ _ o (yA ((l.take (i+1)).map VK));rw[List.take_succ_eq_append_getElem b,List.map_append,<-O3];exact t
 ·obtain rfl:i=l.length:=by omega
  rw[List.take_length]at a;exact⟨d,a.sl⟩
theorem kD(b:Bool)(c:Int)(w:World):CB prog 106 #[.bool b,iv c] w (.tuple #[sv (if c=0 then Ep b else[]),iv c]):=by
 apply Nb;unfold qV;refine ZF (dA (λh=>?_) (λh=>?_))
 ·rw[if_neg h];exact⟨rfl,bA.refl _⟩
 ·rw[if_pos (by omega)];cases b
  ·exact cA rfl ⟨rfl,bA.refl _⟩
  ·exact iA rfl ⟨rfl,bA.refl _⟩
theorem MF(b:Bool)(c:Int)(w:World):CB prog 78 #[.bool b,iv c] w (.tuple #[sv (if c=0 then Ep b else[]),iv c]):=by
 apply ol;unfold qa;refine ZF (dA (λh=>?_) (λh=>?_))
 ·rw[if_neg h];exact⟨rfl,bA.refl _⟩
 ·obtain rfl:c=0:=by omega
  rw[if_pos rfl];cases b
  ·exact cA rfl ⟨rfl,bA.refl _⟩
  ·exact iA rfl ⟨rfl,bA.refl _⟩
theorem g0(q:oC w v r)(f:r.good):CB prog 196 #[v] w (sv (ir r)):=by
 have B:=V3 f;apply Q1;unfold rO;refine aA ((RE (oC.rawS q) (List.all_eq_true.2 (BD f))).mono ?_);rintro s g ⟨h,d⟩;have d:Ow w.heap.size KA g s (JA (MA (cE r))):=d;refine MB (λi:Nat=>[sv (((cE r).take i).map λv=>vl v),iv i]) (λi t=>i<=(cE r).length/\bA g t) (λi=>(cE r).length-i) 0 rfl ⟨Nat.zero_le _,bA.refl _⟩ ?_;rintro i u z ⟨A,c⟩ n;intro _;simp only[gx];refine WC (l:=cE r) (d.ext c).sl ?_;refine jB (dA (λk=>?_) (λk=>?_))
 ·have b:i<(cE r).length:=by omega
  refine tE (l:=cE r) (d.ext c).sl b λC p=>DD p ?_;rw[UW b];refine aA ((TG ((cE r)[i]) u).mono ?_);rintro D E ⟨x,m⟩;refine gA (AB (dB.sl m) (show Fm.good (.var ((cE r)[i]))from F0 f _ (List.getElem_mem b)) (by simp[Fm.size])) λF y=>?_;refine vD (by simp[Fm.body];omega) (qA (by omega) ?_);rw[show(((cE r).take i).map λv=>vl v)++(Fm.var ((cE r)[i])).body=((cE r).take (i+1)).map λv=>vl v by
   rw[List.take_succ_eq_append_getElem b,List.map_append];rfl]
  exact n (i+1) _ ⟨b,(c.trans x).trans y⟩ (by omega)
 ·obtain rfl:i=(cE r).length:=by omega
  rw[List.take_length];have o:((cE r).map λv=>[vl v]).flatten=(cE r).map λv=>vl v:=by
   generalize cE r=l
   induction l with
   |nil=>rfl
   |cons a l ih=>simp[ih]
  unfold ir;refine yB (dA (λe=>?_) (λe=>?_))
  ·rw[if_pos (List.map_eq_nil_iff.1 e)];exact⟨rfl,h.trans c⟩
  ·rw[if_neg (λj=>e (by rw[j];rfl)),o];exact⟨rfl,h.trans c⟩
theorem D6{f:Fm}(t:∃b u,U= .agg #[.bool b,u]/\vA u=true)(y:o=0->qw 0 w U f):CB prog 211 #[U,iv o] w (.tuple #[sv (if o=0 then px f else[]),iv o]):=by
 obtain⟨b,u,rfl,I⟩:=t;apply R8;unfold XS;refine xC λB g H c a=>?_;have a:GA _ g B [.bool b,u]:=a;refine ZF (dA (λh=>?_) (λh=>?_))
 ·rw[if_neg h];exact⟨rfl,c⟩
 ·obtain rfl:o=0:=by omega
  rw[if_pos rfl];obtain⟨L,e,A⟩:=y rfl;simp only[Value.agg.injEq,Array.mk.injEq,List.cons.injEq,Value.bool.injEq,and_true]at e;obtain⟨rfl,rfl⟩:=e;have q:jL g u (pU f):=(A.ext c).sl;have G:(pU f).length<=61:=by
   unfold pU;exact Nat.le_trans (List.length_filter_le _ _) (by simp)
  refine pB (mA a (i:=1) (v:=u) rfl ?_);refine WC (l:=pU f) q ?_;unfold px;refine BA (dA (λj=>?_) (λj=>?_))
  ·rw[if_pos (List.length_eq_zero_iff.1 (by omega))];refine pB (mA a (i:=0) (v:=.bool (QO f)) rfl ?_);cases QO f
   ·exact cA rfl ⟨rfl,c⟩
   ·exact iA rfl ⟨rfl,c⟩
  ·have p:pU f≠[]:=λe=>j (by rw[e];rfl);rw[if_neg p];refine pB (mA a (i:=0) (v:=.bool (QO f)) rfl ?_);refine WB (λF C=>F=[sv ((if QO f then Jd else Nk)++[32])]/\C=g) (λJ k=>?_) ?_
   ·cases r:QO f
    ·exact cA rfl (k _ _ ⟨by rw[r];rfl,rfl⟩)
    ·exact iA rfl (k _ _ ⟨by rw[r];rfl,rfl⟩)
   rintro _ N ⟨rfl,rfl⟩;intro _;simp only[gx];refine pB (mA a (i:=1) (v:=u) rfl ?_);refine aA ((I9 q (λx d=>by have:=yi d;omega) (by omega)).mono ?_);rintro M O ⟨D,s⟩;have m:∀U∈(pU f).map VK,U.length<=2:=λU z=>by
    obtain⟨x,d,rfl⟩:=List.mem_map.1 z;exact yu ⟨x,yi d⟩
   have n:=AM (b:=[32]) m;rw[List.length_map]at n;refine gA (CL (b:=[32]) s m (by rw[List.length_map];simp;omega) (by simp)) λP E=>?_;have K:((if QO f then Jd else Nk)++[32]:jA).length<=5:=by split<;>decide
   refine vD (by simp only[List.length_cons,List.length_nil]at n;omega) ⟨?_,(c.trans D).trans E⟩;rw[fK (by simpa using p)]
theorem Dh{b:jA}:∀L:List jA,Lib.join L b=uF b L
 |[]=>rfl
 |[t]=>Lib.join_one t b
 |t::u::R=>by
  have a:=Dh (b:=b) (u::R);rw[Lib.join_cons]at a;rw[Lib.join_cons,fK (by simp),<-a];simp[Lib.joinTail]
theorem Qx:Builder.Extra prog r7 where
 sizeBuilder:=by kernel_rfl
 liesBuilder:=by kernel_rfl
 t5:=XW.t5
 a5:=XW.a5
 z5:=XW.z5
 v5:=XW.v5
 infoByte:=by kernel_rfl
 cellsByte:=by kernel_rfl
 sizeByte:=by kernel_rfl
 neB5:=by decide
theorem DT{b:jA}(t:iM w v k)(d:(uF b k).length<=140737488355328)(s:k.length<=140737488355328):CB prog 171 #[v,sv b] w (sv (uF b k)):=by
 obtain⟨n,c,rfl,r,-,h⟩:=t;refine⟨⟨_,W9.f156,by kernel_rfl,by kernel_rfl⟩,?_⟩;rcases h with h|⟨e,o,rfl,h⟩
 ·obtain rfl:k=[]:=by simpa[yA]using h
  refine(Any.strings_Join_none W9 Qx n c _ w).mono ?_;rintro f m ⟨rfl,rfl⟩;exact⟨_,rfl,rfl,bA.refl _⟩
 ·by_cases hL:k=[]
  ·subst hL;refine(Any.strings_Join_none W9 Qx _ c _ w).mono ?_;rintro f m ⟨rfl,rfl⟩;exact⟨_,rfl,rfl,bA.refl _⟩
  ·have i:0<k.length:=List.length_pos_iff.2 hL;have p:w.cell? ⟨e,o,none⟩=some (sv (gt k 0)):=by
    have:=h 0 (by rw[AA];exact i)
    rwa [KW k i]at this
   have g:(k.map λl=>(⟨l.toArray⟩:ByteArray)).map (·.data.toList)=k:=by simp[List.map_map,Function.comp_def]
   have:=Any.strings_Join W9 Qx e o c (k.map λl=>(⟨l.toArray⟩:ByteArray)) ⟨b.toArray⟩ w (λu x j=>by
    rw[List.getElem?_map,Option.map_eq_some_iff]at j;obtain⟨l,d,rfl⟩:=j;obtain⟨a,rfl⟩:=List.getElem?_eq_some_iff.1 d;rw[h u (by rw[AA];exact a),KW k a,LA a]) (Ug p) (by simpa using s) (by simpa[AA]using r) (by rw[g];simpa[Dh]using d)
   rw[List.length_map]at this;rw[AA];refine this.mono ?_;rintro f m ⟨rfl,q⟩;refine⟨_,rfl,?_,q⟩;rw[g];simp only[Dh]
theorem sT{b:jA}(a:iM w v k)(c:(uF b k).length<=140737488355328)(d:k.length<=140737488355328):CB prog 92 #[v,sv b] w (sv (if k=[]then[45]else uF b k)):=by
 apply Qa;unfold HU;refine XC a ?_;rw[AA];refine BA (dA (λh=>?_) (λh=>?_))
 ·rw[if_pos (List.length_eq_zero_iff.1 (by omega))];exact⟨rfl,bA.refl _⟩
 ·rw[if_neg (λe=>h (by rw[e];rfl))];exact gA (DT a c d) λg f=>⟨rfl,f⟩
theorem m3(k:oC w v r)(f:r.good):CB prog 77 #[v] w (sv (ir r)):=by
 have T:=V3 f;apply H4;unfold yP;refine fF rfl (rB.cellZ k) λt I P q z=>?_;have hR:P6 I (.slice (some ⟨t,0,none⟩) 1 1) [(v,cB r)]:=P6.one (Ow.ofBlk z (Nat.le_refl _) rfl (by simp)).sl (oC.rawS (rB.ext k q));refine aA ((bE hR λH g=>by rw[List.mem_singleton.1 g];exact List.all_eq_true.2 (BD f)).mono ?_);rintro W h ⟨J,e⟩;have E:EE (XI [(v,cB r)])=cE r:=by simp[XI,cE]
 rw[E]at e;refine WC (l:=cE r) e.sl ?_;refine MB (λs:Value×Nat=>[s.1,iv (s.2:Int)]) (λs n=>s.2<=(cE r).length/\bA h n/\Ow h.heap.size fA n s.1 (yA (((cE r).take s.2).map λv=>[vl v]))) (λs=>(cE r).length-s.2) (.slice none 0 0,0) rfl ⟨Nat.zero_le _,bA.refl _,Ow.nil _ _ _⟩ ?_;rintro⟨N,i⟩ p O ⟨j,d,a⟩ A;have j:i<=(cE r).length:=j;have a:Ow h.heap.size fA p N (yA (((cE r).take i).map λv=>[vl v])):=a;have Q:(yA (((cE r).take i).map λv=>[vl v])).length=i:=by rw[AA,List.length_map,List.length_take];omega
 intro _;simp only[gx];refine jB (dA (λx=>?_) (λx=>?_))
 ·have c:i<(cE r).length:=by omega
  refine tE (l:=cE r) (e.ext d).sl c λH g=>DD g ?_;rw[UW c];refine aA ((CQ ((cE r)[i]) p).mono ?_);rintro U Y ⟨K,y⟩;refine gA (aC (dB.sl y) (show Fm.good (.var ((cE r)[i]))from F0 f _ (List.getElem_mem c)) (by simp[Fm.size])) λZ L=>?_;have X:=K.trans L;refine WE IB EB rfl (a.ext X) rfl (by omega) (by omega) (d.trans X).size λo w8 F C S=>?_;refine qA (by omega) ?_;refine A (o,i+1) _ ⟨c,(d.trans X).grown C λu B=>((a.ext X).blk u B).1,?_⟩ (by show(cE r).length-(i+1)<(cE r).length-i;omega);show Ow _ _ _ o (yA (((cE r).take (i+1)).map λv=>[vl v]));rw[List.take_succ_eq_append_getElem c,List.map_append,<-O3];exact F
 ·obtain rfl:i=(cE r).length:=by omega
  rw[List.take_length]at a;have D:=AM (b:=[]) (R:=(cE r).map λv=>[vl v]) (m:=1) λV G=>by
   obtain⟨aa,_,rfl⟩:=List.mem_map.1 G;simp
  simp only[List.length_map,List.length_nil]at D;refine gA (sT (b:=[]) a.sl (by omega) (by rw[List.length_map];omega)) λw9 M=>⟨?_,((q.trans J).trans d).trans M⟩
  unfold ir;simp only[List.map_eq_nil_iff,Kf]
theorem p3{f:Fm}{c:Int}(Z:RY w)(hb:∃b u,U= .agg #[.bool b,u]/\vA u=true)(H:c=0->qw 0 w U f):CB prog 97 #[U,iv c] w (.tuple #[sv (if c=0 then px f else[]),iv c]):=by
 obtain⟨b,u,rfl,hu⟩:=hb;apply Q4;unfold FP;refine xC λaf r hq L z=>?_;have z:GA _ r af [.bool b,u]:=z;refine fF rfl rfl λO w2 S B Q=>?_;have D:=L.trans B;refine ZF (dA (λy=>?_) (λy=>?_))
 ·rw[if_neg y];exact⟨rfl,D⟩
 ·obtain rfl:c=0:=by omega
  rw[if_pos rfl];obtain⟨u',x,ae⟩:=H rfl;simp only[Value.agg.injEq,Array.mk.injEq,List.cons.injEq,Value.bool.injEq,and_true]at x;obtain⟨rfl,rfl⟩:=x;have hl:(pU f).length<=61:=by
   unfold pU;exact Nat.le_trans (List.length_filter_le _ _) (by simp)
  have q:∀{a},bA w a->jL a u (pU f):=λK=>(ae.ext K).sl;have F:=z.ext B;unfold px;refine sB (decide ((pU f).length=0)&&QO f) w2 (λV d=>?_) (λw4 k=>?_)
  ·refine pB (mA F (i:=1) (v:=u) rfl (WC (l:=pU f) (q D) (BA (dA (λe=>?_) (λe=>?_)))))
   ·refine pB (mA F (i:=0) (v:=.bool (QO f)) rfl ?_);rw[decide_eq_true (show(pU f).length=0 by omega),Bool.true_and]at d;exact d _ (bA.refl _)
   ·rw[decide_eq_false (show¬(pU f).length=0 by omega),Bool.false_and]at d;exact d _ (bA.refl _)
  intro _;simp only[gx];have t:=D.trans k;have G:=F.ext k;by_cases e:pU f=[]
  ·rw[if_pos e];have A:(pU f).length=0:=by rw[e];rfl
   rw[decide_eq_true A,Bool.true_and];cases J:QO f
   ·refine cA rfl ?_;refine pB (mA G (i:=1) (v:=u) rfl (WC (l:=pU f) (q t) (BA (iA (by rw[A];rfl) ⟨rfl,t⟩))))
   ·exact iA rfl ⟨rfl,t⟩
  ·rw[if_neg e];have A:¬(pU f).length=0:=λx=>e (List.length_eq_zero_iff.1 x);rw[decide_eq_false A,Bool.false_and];refine cA rfl ?_;refine pB (mA G (i:=1) (v:=u) rfl (WC (l:=pU f) (q t) (BA (cA (by rw[decide_eq_false];omega) ?_))));refine pB (mA G (i:=0) (v:=.bool (QO f)) rfl ?_);refine WB (λ_ a=>bA r a/\GA fA a O [sv (if QO f then Jd else Nk)]) (λV d=>?_) ?_
   ·cases J:QO f
    ·exact cA rfl (d _ _ ⟨B.trans k,by rw[J];exact Q.ext k⟩)
    ·refine iA rfl (Ke (o:=0) (j:=0) (by decide) (QH (Q.ext k) (by decide) rfl λX=>d _ _ ⟨kh (B.trans k) (by simp only[S.1];exact Nat.le_refl _) _,?_⟩));rw[J];exact X
   rintro _ w6 ⟨M,P⟩;intro _;have W:=L.trans M;refine pB (mA (z.ext M) (i:=1) (v:=u) rfl (WC (l:=pU f) (q W) ?_));generalize ac:(if QO f then Jd else Nk:jA)=g at P⊢;have aa:g.length<=4:=by rw[<-ac];split<;>decide
   refine MB (λs:Value×Nat=>[s.1,iv (s.2:Int)]) (λs a=>s.2<=(pU f).length/\bA r a/\Ow r.heap.size fA a s.1 (yA (g::((pU f).take s.2).map VK))) (λs=>(pU f).length-s.2) (.slice (some ⟨O,0,none⟩) 1 1,0) rfl ⟨Nat.zero_le _,M,Ow.ofBlk (n:=1) P (by rw[S.1];exact Nat.le_refl _) rfl (by decide)⟩ ?_;rintro⟨ag,i⟩ w7 Kn ⟨T,N,h⟩ Y;have T:i<=(pU f).length:=T;have h:Ow r.heap.size fA w7 ag (yA (g::((pU f).take i).map VK)):=h;have ah:(yA (g::((pU f).take i).map VK)).length=i+1:=by rw[AA,List.length_cons,List.length_map,List.length_take];omega
   have E:=L.trans N;intro _;simp only[gx];refine jB (dA (λy=>?_) (λy=>?_))
   ·have p:i<(pU f).length:=by omega
    refine tE (l:=pU f) (q E) p λaj hp=>DD hp ?_;rw[UW p];refine gA (oT (by have:=yi (List.getElem_mem p);omega) (Z.ext E)) λw8 C=>?_;refine WE IB EB rfl (h.ext C) rfl (by omega) (by omega) (N.trans C).size λo w9 ad ab ai=>?_;refine qA (by omega) ?_;refine Y (o,i+1) _ ⟨p,(N.trans C).grown ab λc H=>((h.ext C).blk c H).1,?_⟩ (by show(pU f).length-(i+1)<(pU f).length-i;omega);show Ow _ _ _ o (yA (g::((pU f).take (i+1)).map VK));rw[List.take_succ_eq_append_getElem p,List.map_append,<-List.cons_append,<-O3];exact ad
   ·obtain rfl:i=(pU f).length:=by omega
    rw[List.take_length]at h;have hj:=AM (b:=[32]) (R:=g::(pU f).map VK) (m:=4) λU I=>by
     rcases List.mem_cons.1 I with rfl|I
     ·exact aa
     ·obtain⟨K,hx,rfl⟩:=List.mem_map.1 I;have:=yu ⟨K,yi hx⟩;exact Nat.le_trans this (by decide)
    simp only[List.length_cons,List.length_map,List.length_nil]at hj;exact gA (DT (b:=[32]) h.sl (by omega) (by simp;omega)) λw9 x9=>⟨rfl,E.trans x9⟩
theorem Jt(h:pA s<10)(a:2<=pA s):s∈Sk:=Nf h a
structure Ls(lo:Nat)(w:World)(q:Nat)(l:jA)(f:Fm)(T:List Nat)(vP vK vI vT vY:Value):Prop where
 sp:Vk lo w q l (EA f) (EA f).length (2^(EA f).length) vP vK vI vT vY
 ty:Ow lo KA w vY (JA (MA T))
 len:T.length<=2^(EA f).length
 inv:Fs (pA l) (EA f) T
 st:∀t∈T,rJ (pA l) (EA f) T t=true
theorem Ls.ext{l:jA}{f:Fm}{b c:Value}(h:Ls x w n l f m v i U b c)(d:bA w a):Ls x a n l f m v i U b c:=⟨h.sp.ext d,h.ty.ext d,h.len,h.inv,h.st⟩
theorem xT(u:pA s<10)(f:2<=pA s)(x:Ld w v r)(h:r.good)(j:r.size<=40):
  nA prog 193 #[sv s,v] w λy z=>bA w z/\((8<(EA r).length/\y= .tuple #[.pointer none,iv 3])∨(¬8<(EA r).length/\ ∃q T m l k n o,y= .tuple #[.pointer (some ⟨q,0,none⟩),iv 0]/\Ls w.heap.size z q s r T m l k n o)):=by
 have i:=x;obtain⟨P,Q,rfl,hL,hR⟩:=x.ex;apply Db;unfold eV;refine iC λN K M A g=>?_;refine gA (YY s K) λR c=>?_;rw[decide_eq_true (Jt u f)];refine TA (cA rfl (DB (g.ext c) rfl ?_));refine gA (Xc (i.ext (A.trans c)) h j) λS p=>TA (cA rfl (DB (g.ext (c.trans p)) rfl ?_));have t:=(A.trans c).trans p;refine aA ((TJ (i.ext t) h j).mono ?_);rintro O U ⟨B,H⟩;have d:=t.trans B;refine ZA H.sl (jB (dA (λe=>?_) (λe=>?_)))
 ·rw[List.length_map]at e;exact⟨d,.inl ⟨by omega,rfl⟩⟩
 ·rw[List.length_map]at e;refine DB (g.ext ((c.trans p).trans B)) rfl ?_;refine aA ((K9 u (i.ext d) h j (by omega)).mono ?_);rintro _ V ⟨L,q,T,m,l,k,n,o,rfl,a,C,D,E,F⟩;have b:=d.size;exact⟨d.trans L,.inr ⟨by omega,q,T,m,l,k,n,o,rfl,⟨⟨by have:=a.loq;omega,a.blk,a.par.mono b,a.knd.mono b,(let⟨J,G,f,I⟩:=a.inn;⟨J,G.mono b,f,I⟩),a.tru.mono b,a.ne⟩,C.mono b,D,E,F⟩⟩⟩
def J6(f:Fm)(T:List Nat):List Bool:=T.map λt=>tv (EA f) t f
theorem Zc{lo q:Nat}{l:jA}{f:Fm}{T:List Nat}{vP vK vI vT vY:Value}{w:World}(h:Ls lo w q l f T vP vK vI vT vY)(hg:f.good)(hn:f.size<=40)(h8:(EA f).length<=8):
  nA prog 335 #[.pointer (some ⟨q,0,none⟩),sv f.body] w λr w'=>Ow w.heap.size UA w' r ((J6 f T).map Value.bool)/\(∀w0,bA w0 w->w0.heap.size<=q->bA w0 w')/\(∃vX vR,GA ja w' q [sv l,vP,vK,vI,vT,vY,vX,vR])/\ ∀{k lo' n:Nat} {e:TypeId} {u:Value} {ys:List Value},e≠ja->e≠fA->e≠jF->(dB k lo' e w u n ys->dB k lo' e w' u n ys)/\ ∀b ds,GA e w b ds->GA e w' b ds:=by
 obtain⟨g1,g2,-⟩:=kQ hg hn
 have hP:=VG.of hg hn h8
 have h256:2^(EA f).length<=2^8:=Nat.pow_le_pow_right (by decide) h8
 have hTl:=h.len
 have hel:∀g∈f.subs,g.elem=true->g∈EA f:=λg h1 h2=>(DM hg).2 ⟨h1,h2⟩
 apply ye;unfold MY
 refine MB (λ_:Unit=>[iv 0]) (λ_ w'=>w'=w) (λ_=>0) () rfl rfl ?_
 rintro _ _ Kn rfl _
 intro _
 simp only[gx]
 refine bB (pB (mA h.sp.blk (i:=6) (v:=.slice none 0 0) rfl (VY (jB (cA rfl ?_)))))
 refine aA ((TD f.body _).mono ?_)
 rintro _ w3 ⟨x3,va,rfl,hva⟩
 have hva:=hva g1
 rw[g2]at hva
 refine lD (mD (PH λv40 w4 hw4 x4 h40=>?_))
 have X4:=x3.trans x4
 have s3:=x3.size
 refine MB (λs:Value×Nat=>[s.1,iv (s.2:Int)]) (λs w'=>s.2<=T.length/\bA _ w'/\Ls lo w' q l f T vP vK vI vT vY/\iL 0 w' va f/\Ow w3.heap.size UA w' s.1 ((J6 f (T.take s.2)).map Value.bool)/\w3.heap.size<=w'.heap.size) (λs=>T.length-s.2) (v40,0) rfl ⟨Nat.zero_le _,X4,h.ext X4,dB.mono (dB.ext hva x4) (Nat.zero_le _),h40,x4.size⟩ ?_
 rintro⟨y,k⟩ w6 K2 ⟨hk,x6,g6,gv,hy,s6⟩ hK2
 have hk:k<=T.length:=hk
 have hy:Ow w3.heap.size UA w6 y ((J6 f (T.take k)).map Value.bool):=hy
 have s0:=x6.size
 have hyl:((J6 f (T.take k)).map Value.bool).length<=256:=by simp[J6];omega
 intro _
 simp only[gx]
 refine bB (pB (mA g6.sp.blk (i:=5) (v:=vY) rfl (WC (l:=T) g6.ty.sl (jB (dA (λhlt=>?_) (λhlt=>?_))))))
 ·have hkl:k<T.length:=by omega
  have hmem:gt T k∈T:=by rw[LA hkl];exact List.getElem_mem hkl
  refine bB (pB (mA g6.sp.blk (i:=5) (v:=vY) rfl (tE (l:=T) g6.ty.sl hkl λp hp=>DD hp ?_)))
  rw[show T.getD k 0=gt T k by rw[LA hkl];simp[List.getD_eq_getElem?_getD,hkl]]
  refine gA (zT hP (g6.inv.lt _ hmem) f g6.sp.spa gv.sl hg hel (by omega)) λw7 x7=>?_
  refine WE U3 E2 rfl (hy.ext x7) rfl (by omega) (by omega) (Nat.le_trans s6 x7.size) λy' w9 ho hg9 _=>?_
  have c9:=sE (S:=λc=>y.ownBlock=some c) hg9 λc hc=>hc
  have nb:∀c,y.ownBlock=some c->w3.heap.size<=c:=λc hc=>(hy.blk c hc).1
  have tyb:∀{c},y.ownBlock=some c-> ∃cs,GA UA w7 c cs:=λhc=>by
   obtain⟨cur,hh⟩:=Ow.ty (hy.ext x7) hc
   exact⟨cur.toList,by unfold GA;rw[hh]⟩
  have kp:∀{k lo' n:Nat} {e:TypeId} {u:Value} {ys:List Value},e≠UA->dB k lo' e w7 u n ys->dB k lo' e w9 u n ys:=λh1 h2=>dB.ch h2 c9 λc hc hS=>by
   obtain⟨cs,hb⟩:=tyb hS
   exact dB.ne_blk h2 hb h1 hc
  have g7:=g6.ext x7
  have g9:Ls lo w9 q l f T vP vK vI vT vY:=by
   obtain⟨us,hI,hul,hus⟩:=g7.sp.inn
   exact⟨⟨g7.sp.loq,g7.sp.blk.ch c9 λhS=>(hy.ext x7).ne_blk g7.sp.blk (by decide) hS,kp (by decide) g7.sp.par,kp (by decide) g7.sp.knd,⟨us,kp (by decide) hI,hul,λj hj=>let⟨u,e1,a,e2,e3⟩:=hus j hj;⟨u,e1,a,kp (by decide) e2,e3⟩⟩,kp (by decide) g7.sp.tru,g7.sp.ne⟩,kp (by decide) g7.ty,g7.len,g7.inv,g7.st⟩
  refine qA (by omega) ?_
  refine hK2 (y',k+1) _ ⟨hkl,(x6.trans x7).thenCh c9 λc hc=>Nat.le_trans s3 (nb c hc),g9,kp (by decide) (dB.ext gv x7),?_,by have:=x7.size;have:=c9.size;omega⟩ (by show T.length-(k+1)<T.length-k;omega)
  show Ow _ _ _ y' ((J6 f (T.take (k+1))).map Value.bool)
  rw[List.take_succ_eq_append_getElem hkl,<-LA hkl]
  unfold J6
  rw[List.map_append,List.map_append]
  exact ho
 ·rw[List.take_of_length_le (by omega)]at hy
  refine bB (pB (mA g6.sp.blk (i:=6) (v:=.slice none 0 0) rfl ?_))
  refine oi (lo:=w6.heap.size) (xs:=[]) IB EB rfl (by decide) g6.sp.blk (by simp) (Ow.nil _ _ _) rfl (by decide) (by decide) (Nat.le_refl _) λvX w12 hX hB12 r=>?_
  have hB12:GA ja w12 q [sv l,vP,vK,vI,vT,vY,vX,.slice none 0 0]:=hB12
  have y12:Ow w3.heap.size UA w12 y ((J6 f T).map Value.bool):=r.ne (by decide) (by decide) hy
  refine bB (pB (mA hB12 (i:=7) (v:=.slice none 0 0) rfl ?_))
  refine oi (lo:=w12.heap.size) (xs:=[]) Xr Wq rfl (by decide) hB12 (by simp) (Ow.nil _ _ _) y12.cell (by decide) (by decide) (Nat.le_refl _) λvR w15 hR hB15 r2=>?_
  have s12:=r.sz
  refine⟨(r2.ne (by decide) (by decide) y12:Ow _ _ _ _ _).mono s3,λw0 x0 h0=>?_,⟨vX,vR,hB15⟩,λh1 h2 h3=>⟨λho=>r2.ne h1 h3 (r.ne h1 h2 (dB.ext ho x6)),λb ds hb=>r2.bne h1 h3 (r.bne h1 h2 (hb.ext x6))⟩⟩
  have e0:=x0.trans x6
  have:=e0.size
  exact r2.ext w0 (r.ext w0 e0 (by omega) h0) (by omega) h0
theorem LQ{l:jA}{Y X vT y:Value}(E:Ls x w f l r m U Y X vT y)(hm:Ld w v r)(hg:r.good)(hn:r.size<=40)(h8:(EA r).length<=8):
  nA prog 194 #[.pointer (some ⟨f,0,none⟩),v] w λcc a=>(∀b,bA b w->b.heap.size<=f->bA b a)/\ ∃ay:Int,cc=iv ay/\(decide (ay<0)=mB (pA l) r):=by
 have ao:=E.inv.mB E.st;have ck:2^(EA r).length<=2^8:=Nat.pow_le_pow_right (by decide) h8;have cl:=E.len;obtain⟨Z,J,rfl,hL,hR⟩:=hm.ex;apply A8;unfold FSz;refine iC λq3 q cn x1 bm=>?_;have g1:=E.ext x1;refine bB (pB (mA g1.sp.blk (i:=5) (v:=y) rfl (WC (l:=m) g1.ty.sl ?_)));refine uw (by omega) (by omega) rfl λaf w2 cm x2 bl=>?_;have bg:Ow q.heap.size UA w2 (.slice (some ⟨af,0,none⟩) m.length m.length) ((List.replicate m.length false).map Value.bool):=by
  rw[List.map_replicate];exact Ow.ofBlk bl (by omega) (by simp) (by omega)
 generalize(Value.slice (some ⟨af,0,none⟩) m.length m.length)=o at*;have X2:=x1.trans x2;have ar:∀{a B:World} {A:List Bool},Ow q.heap.size UA a o (A.map Value.bool)->Ch (λc=>o.ownBlock=some c) a B-> ∀{k lo' n:Nat} {e:TypeId} {u:Value} {ys:List Value},e≠UA->dB k lo' e a u n ys->dB k lo' e B u n ys:=λg c=>@λ_ _ _ _ _ _ F G=>dB.ch G c λs hd O=>by
  obtain⟨aa,hh⟩:=Ow.ty g O;exact dB.ne_blk G (show GA UA _ s aa.toList by unfold GA;rw[hh]) F hd
 have T:∀{a B:World} {A:List Bool} {e:TypeId} {ae:Nat} {cs:List Value},Ow q.heap.size UA a o (A.map Value.bool)->Ch (λc=>o.ownBlock=some c) a B->e≠UA->GA e a ae cs->GA e B ae cs:=λg c F G=>G.ch c λO=>by
  obtain⟨aa,hh⟩:=Ow.ty g O;exact G.ne (show GA UA _ _ aa.toList by unfold GA;rw[hh]) F rfl
 have au:∀{a B:World} {A:List Bool},Ow q.heap.size UA a o (A.map Value.bool)->Ch (λc=>o.ownBlock=some c) a B-> ∀b,b.heap.size<=q.heap.size->bA b a->bA b B:=λg c b N C=>C.thenCh c λs hd=>Nat.le_trans N (g.blk s hd).1;have aq:∀{A:List Bool} {i:Nat} {ad:Bool},(A.map Value.bool).set i (.bool ad)=(A.set i ad).map Value.bool:=λ{A i ad}=>by rw[List.map_set]
 --all set to true
 refine MB (λi:Nat=>[iv i]) (λi a=>i<=m.length/\bA q a/\Ls x a f l r m U Y X vT y/\GA 123 a q3 [Z,J]/\ ∃A:List Bool,A.length=m.length/\Ow q.heap.size UA a o (A.map Value.bool)/\ ∀j,j<i->gt A j=true) (λi=>m.length-i) 0 rfl ⟨Nat.zero_le _,x2,g1.ext x2,bm.ext x2,List.replicate m.length false,by simp,bg,λj d=>absurd d (Nat.not_lt_zero j)⟩ ?_;rintro i w4 Kn ⟨hi,x4,h,b4,A,H,g,z⟩ bq;intro _;simp only[gx];refine XC g.sl ?_;rw[List.length_map,H];refine jB (dA (λD=>?_) (λD=>?_))
 ·have bs:i<m.length:=by omega
  refine xt g rfl (by rw[List.length_map];omega) rfl λw5 al Q=>?_;rw[aq]at al;have I:=λ{k lo' n:Nat} {e:TypeId} {u:Value} {ys:List Value}=>ar g Q (k:=k) (lo':=lo') (n:=n) (e:=e) (u:=u) (ys:=ys);obtain⟨us,hI,bz,ca⟩:=h.sp.inn;refine qA (by omega) ?_;refine bq (i+1) _ ⟨bs,au g Q q (Nat.le_refl _) x4,⟨⟨h.sp.loq,T g Q (by decide) h.sp.blk,I (by decide) h.sp.par,I (by decide) h.sp.knd,⟨us,I (by decide) hI,bz,λj d=>let⟨u,e1,L,R,e3⟩:=ca j d;⟨u,e1,L,I (by decide) R,e3⟩⟩,I (by decide) h.sp.tru,h.sp.ne⟩,I (by decide) h.ty,h.len,h.inv,h.st⟩,T g Q (by decide) b4,A.set i true,by rw[List.length_set];exact H,al,λj d=>?_⟩ (by omega);rw[p2 (by omega)];split
  ·rfl
  ·exact z j (by omega)
 have bj:∀j,j<m.length->gt A j=true:=λj d=>z j (by omega);have P:bA w w4:=x1.trans x4
 --nothing stands on the left
 refine MB (λ_:Unit=>[iv 0]) (λ_ a=>a=w4) (λ_=>0) () rfl rfl ?_;rintro _ w4 K2 rfl _;intro _;simp only[gx];refine pB (mA b4 (i:=0) (v:=Z) rfl (ZA (Sl.ext hL P) (jB (cA (by simp) ?_))))
 --the formula on the right
 obtain⟨aR,cR,eR⟩:∃L c,J= .slice L 1 c:=by
  obtain⟨L,c,e,_⟩:=hR;exact⟨L,c,e⟩
 refine MB (λi:Nat=>[iv i]) (λi a=>i<=1/\(∀b,bA b w->b.heap.size<=f->bA b a)/\GA 123 a q3 [Z,J]/\Ow x KA a y (JA (MA m))/\(i=0->a=w4)/\(∃vX aw,GA ja a f [sv l,U,Y,X,vT,y,vX,aw])/\ ∃A:List Bool,A.length=m.length/\Ow q.heap.size UA a o (A.map Value.bool)/\ ∀j,j<m.length->gt A j=if i=0 then true else !tv (EA r) (gt m j) r) (λi=>1-i) 0 rfl ⟨Nat.zero_le _,λb C _=>C.trans P,b4,h.ty,λ_=>rfl,⟨_,_,h.sp.blk⟩,A,H,g,λj d=>by rw[if_pos rfl];exact bj j d⟩ ?_;rintro i w7 K3 ⟨hi,e7,b7,y7,be,⟨vX,aw,q7⟩,A3,ai,S,aj⟩ bn;intro _;simp only[gx];refine pB (mA b7 (i:=1) (v:=J) rfl ?_);rw[eR];refine VY (jB (dA (λD=>?_) (λD=>?_)))
 ·have:i=0:=by omega
  subst this;obtain rfl:=be rfl;refine pB (mA b7 (i:=1) (v:=J) rfl (mQ (Sl.ext hR P) (j:=0) (by simp) λV p=>DD p ?_));refine aA ((Zc h hg hn h8).mono ?_);rintro cd ac ⟨bx,bd,⟨cg,ce,cb⟩,ab⟩;have bb:=(ab (k:=1) (lo':=0) (n:=0) (u:=.slice none 0 0) (ys:=[]) (show 123≠ja by decide) (by decide) (by decide)).2 _ _ b7;have ci:Ow x KA ac y (JA (MA m)):=(ab (by decide) (by decide) (by decide)).1 y7;have az:Ow q.heap.size UA ac o (A3.map Value.bool):=(ab (by decide) (by decide) (by decide)).1 S;have ba:∀b,bA b w->b.heap.size<=f->bA b ac:=λb C N=>bd b (C.trans P) N;have bw:(J6 r m).length=m.length:=by simp[J6]
  have bv:∀j,j<m.length->gt (J6 r m) j=tv (EA r) (gt m j) r:=λj d=>by
   unfold J6;rw[LA (by rw[List.length_map];exact d),LA d];simp
  refine MB (λk:Nat=>[iv k]) (λk a=>k<=m.length/\(∀b,bA b w->b.heap.size<=f->bA b a)/\GA 123 a q3 [Z,J]/\Ow x KA a y (JA (MA m))/\GA ja a f [sv l,U,Y,X,vT,y,cg,ce]/\Ow w7.heap.size UA a cd ((J6 r m).map Value.bool)/\ ∃A:List Bool,A.length=m.length/\Ow q.heap.size UA a o (A.map Value.bool)/\(∀c,o.ownBlock=some c->c<w7.heap.size)/\ ∀j,j<m.length->gt A j=if j<k then !tv (EA r) (gt m j) r else true) (λk=>m.length-k) 0 rfl ⟨Nat.zero_le _,ba,bb,ci,cb,bx,A3,ai,az,λc hc=>(S.blk c hc).2,λj d=>by rw[if_neg (Nat.not_lt_zero _)];have:=aj j d;rwa [if_pos rfl]at this⟩ ?_;rintro k ch K4 ⟨hk,ah,ag,ax,av,W,A,H,g,am,z⟩ bo;intro _;simp only[gx];refine XC W.sl ?_;rw[List.length_map,bw];refine jB (dA (λD=>?_) (λD=>?_))
  ·have t:k<m.length:=by omega
   have an:=z k t;rw[if_neg (Nat.lt_irrefl _)]at an;refine WB (λxs a=>xs=[]/\ ∃K:List Bool,K.length=m.length/\(∀j,j<m.length->gt K j=if j<k+1 then !tv (EA r) (gt m j) r else true)/\Ow q.heap.size UA a o (K.map Value.bool)/\Ch (λc=>o.ownBlock=some c) ch a) (λcj hJ=>?_) ?_
   ·refine pP (j:=(k:Int)) g.sl (by omega) (by rw[List.length_map];omega) λV p=>?_;rw[Int.toNat_natCast,QI (by omega),an]at p;refine DD p (iA rfl ?_);refine pP (j:=(k:Int)) W.sl (by omega) (by rw[List.length_map];omega) λV p=>?_;rw[Int.toNat_natCast,QI (by omega),bv k t]at p;refine DD p (TA ?_);refine xt g rfl (by rw[List.length_map];omega) rfl λcr ak bc=>?_;rw[aq]at ak;refine hJ _ _ ⟨rfl,A.set k (!tv (EA r) (gt m k) r),by rw[List.length_set];exact H,λj d=>?_,ak,bc⟩;rw[p2 (by omega)];by_cases e:k=j
    ·rw[if_pos e,if_pos (by omega),e]
    ·rw[if_neg e,z j d];by_cases R:j<k
     ·rw[if_pos R,if_pos (by omega)]
     ·rw[if_neg R,if_neg (by omega)]
   rintro _ cp ⟨rfl,K,bi,bk,bh,M⟩;intro _;refine qA (by omega) ?_;refine bo (k+1) _ ⟨t,λb C N=>?_,T g M (by decide) ag,ar g M (by decide) ax,T g M (by decide) av,W.ch M λc hc O=>?_,K,bi,bh,am,bk⟩ (by omega)
   ·have F:=(C.trans x1).size;exact au g M b F (ah b C N)
   ·have F:=(W.blk c hc).1;have G:=am c O;omega
  ·refine qA (by decide) ?_;refine bn 1 _ ⟨Nat.le_refl _,ah,ag,ax,(λE=>by cases E),⟨_,_,av⟩,A,H,g,λj d=>?_⟩ (by decide);rw[if_neg (by decide),z j d,if_pos (by omega)]
 have:i=1:=by omega
 subst this;have z:∀j,j<m.length->gt A3 j= !tv (EA r) (gt m j) r:=λj d=>by have:=aj j d;rwa [if_neg (by decide)]at this
 refine MB (λk:Nat=>[iv k]) (λk a=>k<=m.length/\a=w7/\ ∀j,j<k->tv (EA r) (gt m j) r=true) (λk=>m.length-k) 0 rfl ⟨Nat.zero_le _,rfl,λj d=>absurd d (Nat.not_lt_zero j)⟩ ?_;rintro k ct K5 ⟨hk,rfl,ap⟩ bp;intro _;simp only[gx];refine XC S.sl ?_;rw[List.length_map,ai];refine jB (dA (λD=>?_) (λD=>?_))
 ·have t:k<m.length:=by omega
  have bu:gt m k∈m:=by rw[LA t];exact List.getElem_mem t
  refine pP (j:=(k:Int)) S.sl (by omega) (by rw[List.length_map];omega) λV p=>?_;rw[Int.toNat_natCast,QI (by omega),z k t]at p;refine DD p (kB (λs=>?_) (λs=>?_))
  ·refine bB (pB (mA q7 (i:=5) (v:=y) rfl (tE (l:=m) y7.sl t λV p=>DD p ⟨e7,_,rfl,?_⟩)));have:mB (pA l) r=false:=by
    rw[<-Bool.not_eq_true,ao];intro br;rw[br _ bu]at s;cases s
   rw[this,decide_eq_false (by omega)]
  ·refine qA (by omega) ?_;refine bp (k+1) _ ⟨t,rfl,λj d=>?_⟩ (by omega);by_cases bt:j=k
   ·rw[bt];rw[Bool.not_eq_false']at s;exact s
   ·exact ap j (by omega)
 ·refine⟨e7,_,rfl,?_⟩;have:mB (pA l) r=true:=ao.2 λco ht=>by
   obtain⟨j,d,rfl⟩:=List.getElem_of_mem ht;rw[<-LA d];exact ap j (by omega)
  rw[this];rfl
theorem JR{l:jA}(m:pA l<10)(k:2<=pA l)(g:Ld w v r)(f:r.good)(i:r.size<=40):CB prog 213 #[sv l,v] w (if 8<(EA r).length then .tuple #[.bool false,iv 3]else .tuple #[.bool (mB (pA l) r),iv 0]):=by
 have h:=g;obtain⟨u,y,rfl,hL,hR⟩:=g.ex;apply YT;unfold PJ;refine iC λp B o a d=>DB d rfl ?_;refine aA ((xT m k (h.ext a) f i).mono ?_);rintro _ C ⟨b,⟨c,rfl⟩|⟨c,q,T,x,t,s,z,A,rfl,e⟩⟩
 ·rw[if_pos c];exact lD (mD (ZF (iA (by decide) ⟨rfl,a.trans b⟩)))
 rw[if_neg c];refine lD (mD (ZF (cA (by decide) (DB (d.ext b) rfl ?_))));refine aA ((LQ e (h.ext (a.trans b)) f i (by omega)).mono ?_);rintro _ D ⟨j,E,rfl,n⟩;refine jB ⟨by rw[n],j w (a.trans b) ?_⟩;have:=e.sp.loq;have:=a.size;omega
abbrev tP:TypeId:=217
structure ma(m:Nat)(w0 w:World)(q q3 q5:Nat)(l:jA)(ps:List Fm)(vL vR vp vn vc vr va:Value)(M:List Fm):Prop where
 x:bA w0 w
 loq:w0.heap.size<=q
 blk:GA tT w q [sv l,vp,vn,vc,vr,va]
 b3:GA 123 w q3 [vL,vR]
 p5:GA tP w q5 [.pointer (some ⟨q,0,none⟩)]
 el:Dg w vp ps
 nd:Wk m w vn ps M
 lov:∀c,vn.ownBlock=some c->w0.heap.size<=c/\c<w.heap.size
section
variable{m:Nat}{w0 w w':World}{q q3 q5:Nat}{l:jA}{ps:List Fm}{vL vR vp vn vc vr va:Value}{M:List Fm}
theorem ma.ext(h:ma m w0 w q q3 q5 l ps vL vR vp vn vc vr va M)(x:bA w w'):ma m w0 w' q q3 q5 l ps vL vR vp vn vc vr va M:=
 ⟨h.x.trans x,h.loq,h.blk.ext x,h.b3.ext x,h.p5.ext x,h.el.ext x,h.nd.ext x,λc a=>⟨(h.lov c a).1,Nat.lt_of_lt_of_le (h.lov c a).2 x.size⟩⟩
theorem ma.mono(h:ma m w0 w q q3 q5 l ps vL vR vp vn vc vr va M)(a:m<=x):ma x w0 w q q3 q5 l ps vL vR vp vn vc vr va M:=⟨h.x,h.loq,h.blk,h.b3,h.p5,h.el,h.nd.mono a,h.lov⟩
theorem ma.turn(h:ma m w0 w q q3 q5 l ps vL vR vp vn vc vr va M)(b:Ow x UA w v y)(i:m<=x)(j:w0.heap.size<=x)(d:Ch (λc=>v.ownBlock=some c) w w'):ma m w0 w' q q3 q5 l ps vL vR vp vn vc vr va M:=by
 have r:=EW b d;refine⟨h.x.thenCh d λc a=>Nat.le_trans j (b.blk c a).1,h.loq,h.blk.ch d λf=>b.ne_blk h.blk (by decide) f,r.bk (by decide) (by decide) h.b3,r.bk (by decide) (by decide) h.p5,h.el.rel r,h.nd.ch d λc a=>⟨Nat.le_trans i (b.blk c a).1,.inl ?_⟩,λc a=>⟨(h.lov c a).1,Nat.lt_of_lt_of_le (h.lov c a).2 d.size⟩⟩;obtain⟨e,g⟩:=Ow.ty b a;exact⟨e.toList,by unfold GA;rw[g]⟩
theorem ma.sto(h:ma m w0 w q q3 q5 l ps vL vR vp vn vc vr va M)(x:Ch (λc=>c=q) w w')(b:GA tT w' q [sv l,vp,vn,v,i,U]):ma m w0 w' q q3 q5 l ps vL vR vp vn v i U M:=by
 have r:=I6 h.blk x;exact⟨h.x.thenCh x λc a=>by rw[a];exact h.loq,h.loq,b,r.bk (by decide) (by decide) h.b3,r.bk (by decide) (by decide) h.p5,h.el.rel r,h.nd.q h.blk x,λc a=>⟨(h.lov c a).1,Nat.lt_of_lt_of_le (h.lov c a).2 x.size⟩⟩
end
theorem Pt{B i:Nat}{b:List Fm}{vR vp t vr va:Value}(r:ma a.heap.size w a x C B s b U vR vp t (iv ((2^b.length:Nat):Int)) vr va ((b.take i).filter Fm.modal))(h8:b.length<=8)(hi:i<b.length)(hd:b.Nodup)
  (eo:∀e∈b,e.modal=true-> ∀g∈e.inner.subs,g.elem=true->g∈b)(ey:∀e∈b,e.size<=40){K:World->Prop}(hK:∀h vn',ma h.heap.size w h x C B s b U vR vp vn' (iv ((2^b.length:Nat):Int)) vr va ((b.take (i+1)).filter Fm.modal)->K h):
  wA 2 vp (iv i) λfs=>HA a 2 fs λft=>PA (Value.cells (.agg #[.string ⟨#[]⟩,.slice none 0 0])) sC a λp de=>sD prog de 2 p ft λQ=>FA 1 p λfu=>kA Q fu λfv=>wA 2 fv (iv 0) λfw=>FA 0 fw λfx=>kA Q fx λfy=>cf 278 [fy] Q λfz R=>
   eA fz (FA 1 p λga=>kA R ga λgb=>wA 2 gb (iv 0) λgc=>FA 0 gc λgd=>kA R gd λge=>zB #[iv 0,iv 0,.slice none 0 0] #[(0,1),(1,1),(2,1)] [(0,iv i),(1,ge)] λgf=>PA (Value.cells (.agg #[iv 0,iv 0,.slice none 0 0])) zC R λv8 df=>sD prog df 3 v8 gf λab=>
    kA ab (.pointer (some ⟨B,0,none⟩)) λgg=>IA gg λgh=>FA 3 gh λgi=>kA ab gi λgj=>lp (λea ca m=>∀_:Nat->Value,lB .i64 (gx ca 0) gj λgk=>eA gk (∃W:Nat->Prop,FA 2 v8 λcr=>kA m cr λct=>(∀dg,Ch W m dg->kA dg cr λfk=>fk=ct)/\kA m (.pointer (some ⟨B,0,none⟩)) λcu=>(∀dh,Ch W m dh->kA dh (.pointer (some ⟨B,0,none⟩)) λfm=>fm=cu)/\FA 1 p λcv=>kA m cv λcw=>(∀di,Ch W m di->kA di cv λfn=>fn=cw)/\
     ∀ar,bA m ar->cf 239 [cw] ar λcx au=>Ch W ar au/\XF prog (Ch W) (.func (.func 290) #[] #[]) [cu,cx,gx ca 0] au λgl=>∀av,bA au av->xB UA (Value.cells (.bool false)) 1 1 [(0,gl)] av λgm bq=>Ch W av bq/\ ∀br,bA bq br->nD prog (Builtin.append_ #[jF,jF] jF #[ct,gm]) br λbp bs=>FA 2 v8 λgn=>∀bt,bA bs bt->KC bt gn bp λdj=>∀bu,bA dj bu->oA .i64 (gx ca 0) (iv 1) λgo=>ea [go] bu)
    (∃X:Nat->Prop,kA m (.pointer (some ⟨B,0,none⟩)) λcy=>(∀dk,Ch X m dk->kA dk (.pointer (some ⟨B,0,none⟩)) λfo=>fo=cy)/\kA m (.pointer (some ⟨B,0,none⟩)) λcz=>(∀dl,Ch X m dl->kA dl (.pointer (some ⟨B,0,none⟩)) λfp=>fp=cz)/\IA cz λgp=>FA 2 gp λda=>kA m da λdb=>(∀dm,Ch X m dm->kA dm da λfq=>fq=db)/\HA m 3 v8 λdc=>(∀dn,Ch X m dn->HA dn 3 v8 λfr=>fr=dc)/\
     ∀aw,bA m aw->xB zC (Value.cells (.agg #[iv 0,iv 0,.slice none 0 0])) 3 1 [(0,dc)] aw λgq bv=>Ch X aw bv/\ ∀u,bA bv u->nD prog (Builtin.append_ #[xM,xM] xM #[db,gq]) u λaq T=>Ch X u T/\IA cy λgr=>FA 2 gr λgu=>∀bw,bA T bw->KC bw gu aq λbx=>∀E,bA bx E->K E)) [iv 0] ab) (K R):=by
 have hf:2^b.length<=2^8:=Nat.pow_le_pow_right (by decide) h8;obtain⟨L,hL,Z,em⟩:=r.el.ex;have hg:L.length=b.length:=by rw[<-hL,List.length_map]
 have af:i<L.length:=by omega
 have hm:gt L i∈L:=by rw[LA af];exact List.getElem_mem _
 have bl:b[i]=(gt L i).2:=by
  have o:b[i]?=some (gt L i).2:=by rw[<-hL,List.getElem?_map,List.getElem?_eq_getElem af,Option.map_some,LA af]
  rw[List.getElem?_eq_getElem hi]at o;exact Option.some.inj o
 have ao:iL 0 a (gt L i).1 (gt L i).2:=em _ hm;have cj:(gt L i).2∈b:=by rw[<-bl];exact List.getElem_mem hi
 have bi:b.idxOf (gt L i).2=i:=by rw[<-bl];exact Ej hd hi
 have tk:(b.take (i+1)).filter Fm.modal=(b.take i).filter Fm.modal++(if(gt L i).2.modal then[(gt L i).2]else[]):=by
  rw[List.take_succ_eq_append_getElem hi,List.filter_append,bl];cases e:(gt L i).2.modal<;>simp[e]
 have bn:=ey _ cj;have ep:=eo _ cj;refine b9 (j:=i) (cs:=#[sv (gt L i).2.body,(gt L i).1]) Z.sl rfl af rfl (λj hj=>by rw[c5 af j hj];simp) ?_;generalize gt L i=aj at*;obtain⟨p,e⟩:=aj;have ao:iL 0 a p e:=ao;have bi:b.idxOf e=i:=bi;have tk:(b.take (i+1)).filter Fm.modal=(b.take i).filter Fm.modal++(if e.modal then[e]else[]):=tk;have bn:e.size<=40:=bn;have ck:=e.size_pos;refine iC λq7 de hn gw ef=>?_;refine Ac ef rfl rfl (λhe hy=>?_) λQ fg am=>?_
 ·simp only[List.mem_cons,List.not_mem_nil,or_false]at hy;rcases hy with rfl|rfl
  ·rfl
  ·exact dB.cell ao
 have bz:bA a Q:=gw.upd fg (by omega);have am:GA sC Q q7 [sv e.body,p]:=am;refine pB (mA am (i:=1) (v:=p) rfl ?_);have fe:∀{h:World},bA a h->oC h p e:=λgv=>(dB.ext ao gv).sl;refine eB (j:=0) (f:=0) (fe bz) rfl ck (by decide) (rA (fe bz)).1 ?_;refine gA (yQ e.kind Q) λR dr=>?_;rw[<-e.modal_kind];have ac:=bz.trans dr;refine kB (λah=>?_) (λah=>?_)
 rotate_left
 ·rw[ah]at tk;refine hK R t ?_;rw[tk];simp only[Bool.false_eq_true,if_false,List.append_nil];exact(r.ext ac).mono ac.size
 rw[ah,if_pos rfl]at tk;have be:=am.ext dr;refine pB (mA be (i:=1) (v:=p) rfl ?_);refine eB (j:=0) (f:=0) (fe ac) rfl ck (by decide) (rA (fe ac)).1 ?_;refine GD (cs:=#[iv i,iv (e.kind:Int),.slice none 0 0]) (by simp[Instr.fill,sA (show vA (iv i)=true from rfl),sA (show vA (iv (e.kind:Int))=true from rfl)]) ?_;refine rN λq8 df hr gy eg=>?_;refine Ac eg rfl rfl (λhe hy=>?_) λab fh bg=>?_
 ·simp only[List.mem_cons,List.not_mem_nil,or_false]at hy;rcases hy with rfl|rfl|rfl<;>rfl
 have bg:GA zC ab q8 [iv i,iv (e.kind:Int),.slice none 0 0]:=bg;have hv:=ac.size;have ds:bA R ab:=gy.upd fh (by omega);have dq:=ac.trans ds;have cd:=r.ext dq;have hq:q7<q8:=by have:=be.lt;omega
 refine mA cd.p5 (i:=0) (v:=.pointer (some ⟨x,0,none⟩)) rfl (bB (pB (mA cd.blk (i:=3) (v:=iv ((2^b.length:Nat):Int)) rfl ?_)));refine MB (λj:Nat=>[iv j]) (λj h=>j<=2^b.length/\bA a h/\GA sC h q7 [sv e.body,p]/\ ∃D,GA zC h q8 [iv i,iv (e.kind:Int),D]/\Ow a.heap.size UA h D ((CR b e).take j)) (λj=>2^b.length-j) 0 rfl ⟨Nat.zero_le _,dq,be.ext ds,_,bg,Ow.nil _ _ _⟩ ?_;rintro j m Kn ⟨hj,ax,an,D,O,ag⟩ el;intro _;simp only[gx];have q:=r.ext ax;have l8:=O.lt;refine jB (dA (λeu=>?_) (λeu=>?_))
 ·have Y:j<2^b.length:=by omega
  have cl:((CR b e).take j).length=j:=by rw[List.length_take,dK];omega
  have aa:∀{h dd:World},Ch (λ_:Nat=>False) h dd->bA h dd:=λc=>c.toExt λ_ r=>r.elim;refine⟨λ_=>False,pB (mA O (i:=2) (v:=D) rfl ⟨λh c=>mA (O.ext (aa c)) (i:=2) (v:=D) rfl rfl,?_⟩)⟩;refine mA q.p5 (i:=0) (v:=.pointer (some ⟨x,0,none⟩)) rfl ⟨λh c=>mA (q.p5.ext (aa c)) (i:=0) (v:=.pointer (some ⟨x,0,none⟩)) rfl rfl,?_⟩;refine pB (mA an (i:=1) (v:=p) rfl ⟨λh c=>mA (an.ext (aa c)) (i:=1) (v:=p) rfl rfl,?_⟩);intro ar du;obtain⟨ht,fb⟩:=VW ah;refine aA ((OA (fe (ax.trans du)) (g:=e.inner) (gs:=[]) fb (by omega)).mono ?_);rintro cx au ⟨dv,ee⟩;refine⟨dv.ch,?_⟩;have dt:=du.trans dv;have ce:=q.ext dt;have et:e.inner.size<=1000:=by cases e<;>first|(have:=bn;simp only[Fm.inner,Fm.size]at*;omega)
  refine pt (v:=.bool (tv b j e.inner)) (λh c=>rT h8 Y e.inner (ce.blk.ext (aa c)) (ce.el.ext (aa c)) (rB.ext ee (aa c)) (ep ah) et) ?_;intro av gz;refine fF rfl rfl λc bq hl dw eh=>⟨dw.ch,λbr dx=>?_⟩
  have ad:=((dt.trans gz).trans dw).trans dx;have cb:=ax.trans ad;have ap:=ag.ext ad;refine A2 U3 E2 rfl ap (Sl.ofBlk (n:=1) (eh.ext dx) rfl (by decide)) (λfd hu=>?_) (by rw[cl];simp;omega) (by rw[cl];simp;omega) cb.size λbp bs cm eq _=>?_
  ·rw[List.mem_singleton.1 hu];rfl
  have ba:=sE (S:=λc=>D.ownBlock=some c) eq λc d=>d;have cg:=(O.ext ad).ch ba λy=>ap.ne_blk (O.ext ad) (by decide) y;have ek:=(an.ext ad).ch ba λy=>ap.ne_blk (an.ext ad) (by decide) y;have eb:bA a bs:=cb.thenCh ba λc d=>(ap.blk c d).1;refine pB λbt ak=>?_;refine QX (cg.ext ak) (by simp) cm.cell λdj ei fi=>?_;have bc:=fi.ch (S:=λc=>c=q8) rfl;intro bu ay;refine qA (by omega) ?_;refine el (j+1) _ ⟨Y,((eb.trans ak).thenCh bc λc d=>by omega).trans ay,((ek.ext ak).ch bc (show¬q7=q8 by omega)).ext ay,bp,ei.ext ay,?_⟩ (by omega);have ex:=(Ow.chQ (cm.ext ak) (cg.ext ak) (by decide) bc).ext ay;rw[List.take_succ_eq_append_getElem (by rw[dK];exact Y)];have e1:(CR b e)[j]'(by rw[dK];exact Y)= .bool (tv b j e.inner):=by
   have:=Hf (e:=e) Y;rw[List.getElem?_eq_getElem (by rw[dK];exact Y)]at this;exact Option.some.inj this
  rw[e1];exact ex
 have:j=2^b.length:=by omega
 subst this;rw[List.take_of_length_le (by rw[dK];omega)]at ag;obtain⟨az,hN,ci,en⟩:=q.nd.ex;have fa:¬t.ownBlock=some q8:=λe=>by have:=(r.lov _ e).2;omega
 refine⟨λc=>t.ownBlock=some c,?_⟩;have ez:∀c,t.ownBlock=some c-> ∃cs,GA zC m c cs:=λc d=>by
  obtain⟨bd,A⟩:=dB.ty ci d;exact⟨bd.toList,by unfold GA;rw[A]⟩
 have st:∀{h:World} {l:TypeId} {G:Nat} {cs:List Value},Ch (λc=>t.ownBlock=some c) m h->GA l m G cs->l≠zC->GA l h G cs:=λc z ai=>z.ch c λy=>by
  obtain⟨cs,A⟩:=ez _ y;exact z.ne A ai rfl
 refine mA q.p5 (i:=0) (v:=.pointer (some ⟨x,0,none⟩)) rfl ⟨λh c=>mA (st c q.p5 (by decide)) (i:=0) (v:=.pointer (some ⟨x,0,none⟩)) rfl rfl,?_⟩;refine mA q.p5 (i:=0) (v:=.pointer (some ⟨x,0,none⟩)) rfl ⟨λh c=>mA (st c q.p5 (by decide)) (i:=0) (v:=.pointer (some ⟨x,0,none⟩)) rfl rfl,?_⟩;refine bB (pB (mA q.blk (i:=2) (v:=t) rfl ⟨λh c=>mA (st c q.blk (by decide)) (i:=2) (v:=t) rfl rfl,?_⟩));refine DB O rfl ⟨λh c=>DB (O.ch c fa) rfl rfl,?_⟩;intro aw ha;refine Dv λqb bv hs dy ej=>⟨dy.ch,λu dz=>?_⟩
 have ae:=(ha.trans dy).trans dz;have N:=q.ext ae;have ch:=dB.ext ci ae;have hk:az.length<=8:=by
  have o:az.length=((b.take i).filter Fm.modal).length:=by rw[<-hN,List.length_map]
  have M:=List.length_filter_le Fm.modal (b.take i);have h3:(b.take i).length<=i:=by rw[List.length_take];omega
  omega
 refine o7 Ai zh rfl (by decide) ch (rB.ofBlk (n:=1) (k:=3) (ej.ext dz) rfl (by decide)) (λfd hu=>?_) (by omega) (by omega) (Nat.zero_le _) λaq T bj er ew=>?_
 ·simp only[List.mem_cons,List.not_mem_nil,or_false]at hu;rcases hu with rfl|rfl|rfl
  ·rfl
  ·rfl
  ·exact ag.cell
 have J:=sE (S:=λc=>t.ownBlock=some c) er λc d=>d;refine⟨J,?_⟩;have cn:∀c,t.ownBlock=some c-> ∃cs,GA zC u c cs:=λc d=>by
  obtain⟨bd,A⟩:=dB.ty ch d;exact⟨bd.toList,by unfold GA;rw[A]⟩
 have co:∀{l:TypeId} {G:Nat} {cs:List Value},GA l u G cs->l≠zC->GA l T G cs:=λz ai=>z.ch J λy=>by
  obtain⟨cs,A⟩:=cn _ y;exact z.ne A ai rfl
 have cp:∀{k H n:Nat} {l:TypeId} {v:Value} {I:List Value},dB k H l u v n I->l≠zC->dB k H l T v n I:=λZ ai=>dB.ch Z J λc d y=>by
  obtain⟨cs,A⟩:=cn _ y;exact dB.ne_blk Z A ai d
 have bm:=co N.blk (by decide);refine bB (pB λbw F=>?_);refine QX (bm.ext F) (by simp) (dB.cell bj) λbx bh fj=>?_;have al:=fj.ch (S:=λc=>c=x) rfl;intro E V;have bh:GA tT bx x [sv s,vp,aq,iv ((2^b.length:Nat):Int),vr,va]:=bh;have bo:=I6 (bm.ext F) al;have ed:bA w T:=N.x.thenCh J λc d=>(r.lov c d).1;have cc:bA w E:=((ed.trans F).thenCh al λc d=>by rw[d];exact r.loq).trans V;have hw:T.heap.size<=E.heap.size:=by have:=F.size;have:=al.size;have:=V.size;omega
 have bk:∀{l:TypeId} {G:Nat} {cs:List Value},GA l u G cs->l≠zC->l≠UA->l≠tT->GA l E G cs:=λz o M h3=>(bo.bk M h3 ((co z o).ext F)).ext V;have ok:∀{k H n:Nat} {l:TypeId} {v:Value} {I:List Value},dB k H l u v n I->l≠zC->l≠UA->l≠tT->dB k H l E v n I:=λZ o M h3=>dB.ext (bo.ow M h3 (dB.ext (cp Z o) F)) V;obtain⟨L2,e1,e2,e3⟩:=N.el.ex;refine hK E aq ⟨cc,r.loq,bh.ext V,bk N.b3 (by decide) (by decide) (by decide),bk N.p5 (by decide) (by decide) (by decide),⟨L2,e1,ok e2 (by decide) (by decide) (by decide),λaj P=>ok (e3 aj P) (by decide) (by decide) (by decide)⟩,⟨az++[(D,e)],?_,?_,λaj P=>?_⟩,λc d=>?_⟩
 ·rw[tk,List.map_append,hN];rfl
 ·rw[Yi,List.length_append];have ec:yG b [(D,e)]=[iv i,iv (e.kind:Int),D]:=by simp[yG,bi]
  rw[ec];exact dB.ext (bo.ow (by decide) (by decide) (dB.ext bj F)) V
 ·have kb:∀{H:Nat} {v:Value} {I:List Value},Ow H UA u v I->Ow H UA E v I:=λz=>(Ow.chQ ((cp z (by decide):Ow _ _ _ _ _).ext F) (bm.ext F) (by decide) al).ext V;rcases List.mem_append.1 P with P|P
  ·have o:=en aj P;exact⟨kb (o.1.ext ae),λc d=>by have M:=o.2 c d;have:=cc.size;have:=ax.size;have:=ae.size;have:=J.size;omega⟩
  ·rw[List.mem_singleton.1 P];exact⟨kb ((ag.ext ae).mono (Nat.zero_le _)),λc d=>by have M:=(ag.blk c d).2;have:=ae.size;have:=J.size;omega⟩
 ·rcases ew with n|⟨c',n1,n2⟩
  ·rw[n]at d;have o:=N.lov c d;exact⟨o.1,by have:=J.size;omega⟩
  ·rw[n1]at d;cases d;have o:=N.x.size;have M:=(dB.blk bj _ n1).2;exact⟨by omega,by omega⟩
theorem za{g:Nat->Bool}(t:Nat):((List.range (t+1)).map g).map Value.bool=((List.range t).map g).map Value.bool++[.bool (g t)]:=by simp[List.range_succ]
theorem uc{g:Nat->Bool}(h:n<x):gt ((List.range x).map g) n=g n:=by rw[LA (by simpa using h)];simp
theorem UX(h:iM w v []):nA prog 291 #[v] w λr a=>bA w a/\Ow 0 XA a r []:=by
 apply uO;unfold FI;refine ZA h ?_;refine MB (λ_:Unit=>[.slice none 0 0,iv 0]) (λ_ a=>a=w) (λ_=>0) () rfl rfl ?_;rintro _ _ b rfl _;intro _;simp only[gx];exact jB (cA (by simp) ⟨bA.refl _,Ow.nil _ _ _⟩)
theorem Qt{m:Nat}{z:World}{t:Nat}{vR I H o h ak Z u:Value}(da:ma m a z x f C s j U vR I H (iv ((2^j.length:Nat):Int)) o h (yF j))(ai:a.heap.size<=m)(hm:m<=z.heap.size)(hl:pA s<10)(h8:j.length<=8)(ht:t<2^j.length)(dg:∀g∈r.subs,g.elem=true->g∈j)(dh:r.size<=1000)
  (db:Ow 0 XA z ak [])(dc:Ow 0 XA z Z [u])(V:iL 0 z u r)(hr:Ow m UA z o (((List.range t).map λt=>!tv j t r).map Value.bool))(ha:Ow m UA z h (((List.range t).map λt=>PC (pA s) j t).map Value.bool))(T:∀c,o.ownBlock=some c->h.ownBlock=some c->False){K:World->Prop}
  (hK:∀b l va',ma m a b x f C s j U vR I H (iv ((2^j.length:Nat):Int)) l va' (yF j)->m<=b.heap.size->Ow 0 XA b ak []->Ow 0 XA b Z [u]->iL 0 b u r->Ow m UA b l (((List.range (t+1)).map λt=>!tv j t r).map Value.bool)->Ow m UA b va' (((List.range (t+1)).map λt=>PC (pA s) j t).map Value.bool)->(∀c,l.ownBlock=some c->va'.ownBlock=some c->False)->K b):
  PA (Value.cells (iv 0)) 2 z λY cg=>KC cg Y (iv t) λd=>jn (λbs=>∃q:Nat->Prop,kA d (.pointer (some ⟨C,0,none⟩)) λbh=>(∀ch,Ch q d ch->kA ch (.pointer (some ⟨C,0,none⟩)) λdy=>dy=bh)/\kA d (.pointer (some ⟨C,0,none⟩)) λcd=>(∀ci,Ch q d ci->kA ci (.pointer (some ⟨C,0,none⟩)) λdz=>dz=cd)/\IA cd λek=>FA 4 ek λce=>kA d ce λbi=>(∀cj,Ch q d cj->kA cj ce λea=>ea=bi)/\
   XF prog (Ch q) (.func (.func 129) #[] #[]) [ak,.func (.func 292) #[] #[.pointer (some ⟨C,0,none⟩),Y]] d λeb=>VA eb λec=>eA ec (XF prog (Ch q) (.func (.func 129) #[] #[]) [Z,.func (.func 293) #[] #[.pointer (some ⟨C,0,none⟩),Y]] d λed=>VA ed λee=>
    ∀al,bA d al->xB UA (Value.cells (.bool false)) 1 1 [(0,ee)] al λbd bj=>Ch q al bj/\ ∀am,bA bj am->nD prog (Builtin.append_ #[jF,jF] jF #[bi,bd]) am λO an=>Ch q am an/\IA bh λbe=>FA 4 be λbg=>∀bk,bA an bk->KC bk bg O λbl=>∀ao,bA bl ao->bs [] ao)
   (∀bm,bA d bm->xB UA (Value.cells (.bool false)) 1 1 [(0,.bool false)] bm λbd ck=>Ch q bm ck/\ ∀bn,bA ck bn->nD prog (Builtin.append_ #[jF,jF] jF #[bi,bd]) bn λO cl=>Ch q bn cl/\IA bh λbe=>FA 4 be λbg=>∀cm,bA cl cm->KC cm bg O λel=>∀cn,bA el cn->bs [] cn)) (λ_ e=>
   ∀_:Nat->Value,∃A:Nat->Prop,kA e (.pointer (some ⟨C,0,none⟩)) λbw=>(∀co,Ch A e co->kA co (.pointer (some ⟨C,0,none⟩)) λdq=>dq=bw)/\kA e (.pointer (some ⟨C,0,none⟩)) λbx=>(∀cp,Ch A e cp->kA cp (.pointer (some ⟨C,0,none⟩)) λdr=>dr=bx)/\IA bx λef=>FA 5 ef λbz=>kA e bz λca=>(∀cr,Ch A e cr->kA cr bz λds=>ds=ca)/\kA e (.pointer (some ⟨C,0,none⟩)) λcb=>(∀cs,Ch A e cs->kA cs (.pointer (some ⟨C,0,none⟩)) λdt=>dt=cb)/\kA e Y λcc=>(∀ct,Ch A e ct->kA ct Y λdu=>du=cc)/\
    XF prog (Ch A) (.func (.func 294) #[] #[]) [cb,cc] e λeg=>∀ap,bA e ap->xB UA (Value.cells (.bool false)) 1 1 [(0,eg)] ap λeh bo=>Ch A ap bo/\ ∀aq,bA bo aq->nD prog (Builtin.append_ #[jF,jF] jF #[ca,eh]) aq λaj ar=>Ch A aq ar/\IA bw λei=>FA 5 ei λej=>∀bp,bA ar bp->KC bp ej aj λbq=>∀aa,bA bq aa->K aa):=by
 have eq:2^j.length<=2^8:=Nat.pow_le_pow_right (by decide) h8;refine GZ λbb cg eu em dd=>?_;refine QX dd (by simp) rfl λd ah dv=>?_;have J:bA z d:=em.upd dv (by omega);have ah:GA 2 d bb [iv t]:=ah;have g:=da.ext J;have dm:=J.size;have N:=hr.ext J;have M:=ha.ext J;have ae:=db.ext J;have af:=dc.ext J;have R:=dB.ext V J;have lr:(((List.range t).map λt=>!tv j t r).map Value.bool).length=t:=by simp
 have la:(((List.range t).map λt=>PC (pA s) j t).map Value.bool).length=t:=by simp
 refine WB (λ_ b=>∃l,ma m a b x f C s j U vR I H (iv ((2^j.length:Nat):Int)) l h (yF j)/\m<=b.heap.size/\(Ow 0 XA b ak []/\Ow 0 XA b Z [u]/\iL 0 b u r)/\Ow m UA b l (((List.range (t+1)).map λt=>!tv j t r).map Value.bool)/\Ow m UA b h (((List.range t).map λt=>PC (pA s) j t).map Value.bool)/\(∀c,l.ownBlock=some c->h.ownBlock=some c->False)/\GA 2 b bb [iv t]) (λep hJ=>?_) ?_
 ·have G:∀{b:World},Ch (λc=>o.ownBlock=some c) d b->XQ d b:=λc=>EW N c;have k:∀{b:World},Ch (λc=>o.ownBlock=some c) d b->ma m a b x f C s j U vR I H (iv ((2^j.length:Nat):Int)) o h (yF j):=λc=>g.turn N (Nat.le_refl _) ai c;refine⟨λc=>o.ownBlock=some c,mA g.p5 (i:=0) (v:=.pointer (some ⟨x,0,none⟩)) rfl ⟨λb c=>mA (k c).p5 (i:=0) (v:=.pointer (some ⟨x,0,none⟩)) rfl rfl,?_⟩⟩;refine mA g.p5 (i:=0) (v:=.pointer (some ⟨x,0,none⟩)) rfl ⟨λb c=>mA (k c).p5 (i:=0) (v:=.pointer (some ⟨x,0,none⟩)) rfl rfl,?_⟩;refine bB (pB (mA g.blk (i:=4) (v:=o) rfl ⟨λb c=>mA (k c).blk (i:=4) (v:=o) rfl rfl,?_⟩));refine pt (v:=.bool false) (λb c=>?_) ?_
  ·exact uE (L:=[]) (p:=λ_=>false) ⟨Ow.sl (xs:=[]) ((G c).ow (by decide) (by decide) ae),λp hp=>by cases hp⟩ λx hq=>by cases hq
  refine TA (iA rfl ?_);refine pt (v:=.bool (tv j t r)) (λb c=>?_) ?_
  ·have hR:P6 b Z [(u,cB r)]:=P6.one (Ow.sl (xs:=[u]) ((G c).ow (by decide) (by decide) af)) (oC.rawS (dB.sl ((G c).ow (by decide) (by decide) R)));have:=uE (w:=b) (fv:=.func (.func 293) #[] #[.pointer (some ⟨C,0,none⟩),.pointer (some ⟨bb,0,none⟩)]) hR (λ_=>tv j t r) λp hp ew br=>?_
   ·simpa using this
   rw[List.mem_singleton.1 hp];have gg:=(k c).ext br;have hq:=((G c).bk (by decide) (by decide) ah).ext br;have hf:=dB.ext ((G c).ow (by decide) (by decide) R) br;refine C2 ?_;apply A1;unfold cO;refine mA gg.p5 (i:=0) (v:=.pointer (some ⟨x,0,none⟩)) rfl (mA hq (i:=0) (v:=iv t) rfl ?_);exact gA (rT h8 ht r gg.blk gg.el (dB.sl hf) dg dh) λw3 x3=>⟨rfl,x3⟩
  refine TA λal en=>?_;refine fF rfl rfl λc bj er cu de=>⟨cu.ch,λam cv=>?_⟩
  have y:=(en.trans cu).trans cv;have bc:=N.ext y;refine A2 U3 E2 rfl bc (Sl.ofBlk (n:=1) (de.ext cv) rfl (by decide)) (λu V=>?_) (by rw[lr];simp;omega) (by rw[lr];simp;omega) (Nat.le_trans hm (Nat.le_trans dm y.size)) λO an bu di dk=>?_
  ·rw[List.mem_singleton.1 V];rfl
  have P:=sE (S:=λc=>o.ownBlock=some c) di λc F=>F;refine⟨P,bB (pB λbk au=>?_)⟩;have cy:=(g.ext y).turn bc (Nat.le_refl _) ai P;have ad:=cy.ext au;refine QX ad.blk (by simp) bu.cell λbl az dw=>?_;have ab:=dw.ch (S:=λc=>c=x) rfl;intro ao av;have az:GA tT bl x [sv s,I,H,iv ((2^j.length:Nat):Int),O,h]:=az;have B:=(((XQ.ext y).trans (EW bc P)).trans (XQ.ext au)).trans ((I6 ad.blk ab).trans (XQ.ext av));have W:∀{X:Nat} {v:Value} {xs:List Value},Ow X UA an v xs->Ow X UA ao v xs:=λhb=>(Ow.chQ (hb.ext au) ad.blk (by decide) ab).ext av;refine hJ _ _ ⟨O,(ad.sto ab az).ext av,by have:=y.size;have:=P.size;have:=au.size;have:=ab.size;have:=av.size;omega,⟨B.ow (by decide) (by decide) ae,B.ow (by decide) (by decide) af,B.ow (by decide) (by decide) R⟩,?_,W ((M.ext y).ch P λc F hS=>T c hS F),λc D E=>?_,B.bk (by decide) (by decide) ah⟩
  ·rw[za];exact W bu
  ·rcases dk with n|⟨c',n1,n2⟩
   ·rw[n]at D;exact T c D E
   ·rw[n1]at D;cases D;have:=((M.ext y).blk _ E).2;omega
 intro _ e hj;obtain⟨l,g,dn,⟨ae,af,R⟩,N,M,T,bt⟩:=hj;intro _;have G:∀{b:World},Ch (λc=>h.ownBlock=some c) e b->XQ e b:=λc=>EW M c;have k:∀{b:World},Ch (λc=>h.ownBlock=some c) e b->ma m a b x f C s j U vR I H (iv ((2^j.length:Nat):Int)) l h (yF j):=λc=>g.turn M (Nat.le_refl _) ai c;refine⟨λc=>h.ownBlock=some c,mA g.p5 (i:=0) (v:=.pointer (some ⟨x,0,none⟩)) rfl ⟨λb c=>mA (k c).p5 (i:=0) (v:=.pointer (some ⟨x,0,none⟩)) rfl rfl,?_⟩⟩;refine mA g.p5 (i:=0) (v:=.pointer (some ⟨x,0,none⟩)) rfl ⟨λb c=>mA (k c).p5 (i:=0) (v:=.pointer (some ⟨x,0,none⟩)) rfl rfl,?_⟩;refine bB (pB (mA g.blk (i:=5) (v:=h) rfl ⟨λb c=>mA (k c).blk (i:=5) (v:=h) rfl rfl,?_⟩));refine mA g.p5 (i:=0) (v:=.pointer (some ⟨x,0,none⟩)) rfl ⟨λb c=>mA (k c).p5 (i:=0) (v:=.pointer (some ⟨x,0,none⟩)) rfl rfl,?_⟩;refine mA bt (i:=0) (v:=iv t) rfl ⟨λb c=>mA ((G c).bk (by decide) (by decide) bt) (i:=0) (v:=iv t) rfl rfl,?_⟩;refine pt (v:=.bool (PC (pA s) j t)) (λb c=>c3 (m:=m) ⟨(k c).blk,(k c).nd⟩ hl h8 ht) ?_;intro ap eo;refine fF rfl rfl λc bo et cw df=>⟨cw.ch,λaq cx=>?_⟩
 have y:=(eo.trans cw).trans cx;have ay:=M.ext y;refine A2 U3 E2 rfl ay (Sl.ofBlk (n:=1) (df.ext cx) rfl (by decide)) (λu V=>?_) (by rw[la];simp;omega) (by rw[la];simp;omega) (Nat.le_trans dn y.size) λaj ar bv dj dl=>?_
 ·rw[List.mem_singleton.1 V];rfl
 have Q:=sE (S:=λc=>h.ownBlock=some c) dj λc F=>F;refine⟨Q,bB (pB λbp aw=>?_)⟩;have cz:=(g.ext y).turn ay (Nat.le_refl _) ai Q;have ag:=cz.ext aw;refine QX ag.blk (by simp) bv.cell λbq ba dx=>?_;have ac:=dx.ch (S:=λc=>c=x) rfl;intro aa ax;have ba:GA tT bq x [sv s,I,H,iv ((2^j.length:Nat):Int),l,aj]:=ba;have B:=(((XQ.ext y).trans (EW ay Q)).trans (XQ.ext aw)).trans ((I6 ag.blk ac).trans (XQ.ext ax));have W:∀{X:Nat} {v:Value} {xs:List Value},Ow X UA ar v xs->Ow X UA aa v xs:=λhb=>(Ow.chQ (hb.ext aw) ag.blk (by decide) ac).ext ax;refine hK aa l aj ((ag.sto ac ba).ext ax) (by have:=y.size;have:=Q.size;have:=aw.size;have:=ac.size;have:=ax.size;omega) (B.ow (by decide) (by decide) ae) (B.ow (by decide) (by decide) af) (B.ow (by decide) (by decide) R) (W ((N.ext y).ch Q λc F hS=>T c F hS)) ?_ λc D E=>?_
 ·rw[za];exact W bv
 ·rcases dl with n|⟨c',n1,n2⟩
  ·rw[n]at E;exact T c D E
  ·rw[n1]at E;cases E;have:=((N.ext y).blk _ D).2;omega
theorem O5(hl:pA s<10)(hm:Ld w v r)(l:r.good)(V:r.size<=40)(H:(EA r).length<=8):
  nA prog 172 #[sv s,v] w λB c=>bA w c/\ ∃q bt vp n k m A,B= .pointer (some ⟨q,0,none⟩)/\Hg bt c q s (EA r) vp n k m A/\Ow 0 UA c k (((List.range (2^(EA r).length)).map λt=>!tv (EA r) t r).map Value.bool)/\(∀t,t<2^(EA r).length->gt A t=true->LW (pA s) (EA r) A t=true)/\(∀t,t<2^(EA r).length->gt A t=true->PC (pA s) (EA r) t=true)/\ ∀F,Zu (pA s) (EA r) F-> ∀t,t<2^(EA r).length->gt F t=true->gt A t=true:=by
 have cj:2^(EA r).length<=2^8:=Nat.pow_le_pow_right (by decide) H;have ad:∀g∈r.subs,g.elem=true->g∈EA r:=λg T p=>(DM l).2 ⟨T,p⟩;have ai:∀e∈EA r,e∈r.subs:=λe p=>((DM l).1 p).1;have bk:∀e∈EA r,e.modal=true-> ∀g∈e.inner.subs,g.elem=true->g∈EA r:=λe p bn g T bl=>ad g (Fm.subs_trans (ai e p) g (Fm.subs_trans (VW bn).1 g T)) bl;have br:∀e∈EA r,e.size<=40:=λe p=>Nat.le_trans (Fm.subs_good l e (ai e p)).2 V;have hd:=i7 l;obtain⟨C,D,rfl,hL,hR⟩:=hm.ex;apply S7;unfold jS;refine iC λN w1 cl X ab=>DB ab rfl ?_;refine aA ((BH (hm.ext X) l V).mono ?_);rintro f w2 ⟨Z,ae⟩;generalize ck:EA r=a at*;have bs:vA f=true:=by obtain⟨_,_,ho,_⟩:=ae.ex;exact dB.cell ho
 have ac:∀{c:World},Dg c f a-> ∃xs,rB 2 c f a.length xs:=λQ=>by
  obtain⟨ay,h1,h2,_⟩:=Q.ex;have:ay.length=a.length:=by rw[<-h1,List.length_map]
  rw[this]at h2;exact⟨_,h2.sl⟩
 refine GD (cs:=#[sv s,f,.slice none 0 0,iv 0,.slice none 0 0,.slice none 0 0]) (by simp[Instr.fill,sA bs,sA (show vA (sv s)=true from rfl)]) ?_;refine xC λq w3 hq x3 bd=>?_;have I:GA tT w3 q [sv s,f,.slice none 0 0,iv 0,.slice none 0 0,.slice none 0 0]:=by simpa[Value.cells]using bd
 refine p7 rfl λy w4 cm x4 be=>?_;refine QX be (by simp) rfl λw5 o u5=>?_;have o:GA tP w5 y [.pointer (some ⟨q,0,none⟩)]:=o;have O:bA w3 w5:=x4.upd u5 (by omega);have ch:=(X.trans Z).trans (x3.trans O);have W:∀{c am:World},Ch (λ_:Nat=>False) c am->bA c am:=λd=>d.toExt λ_ Q=>Q.elim;have J:=I.ext O;have co:=(X.trans Z).size;refine⟨λ_=>False,mA o (i:=0) (v:=.pointer (some ⟨q,0,none⟩)) rfl ⟨λc d=>mA (o.ext (W d)) (i:=0) (v:=.pointer (some ⟨q,0,none⟩)) rfl rfl,?_⟩⟩;refine mA o (i:=0) (v:=.pointer (some ⟨q,0,none⟩)) rfl ⟨λc d=>mA (o.ext (W d)) (i:=0) (v:=.pointer (some ⟨q,0,none⟩)) rfl rfl,?_⟩;refine bB (pB (mA J (i:=1) (v:=f) rfl ⟨λc d=>mA (J.ext (W d)) (i:=1) (v:=f) rfl rfl,?_⟩));have af:=ae.ext (x3.trans O);obtain⟨_,bq⟩:=ac af;refine VB bq (HH (j:=a.length) (by omega) (bB (pB λcp z=>?_)));refine QX (J.ext z) (by simp) rfl λce R bv=>?_;have aa:=bv.ch (S:=λd=>d=q) rfl;intro an Y;have R:GA tT ce q [sv s,f,.slice none 0 0,iv ((2^a.length:Nat):Int),.slice none 0 0,.slice none 0 0]:=R;have B:=(I6 (J.ext z) aa).trans (XQ.ext Y);have M:ma an.heap.size w an q N y s a C D f (.slice none 0 0) (iv ((2^a.length:Nat):Int)) (.slice none 0 0) (.slice none 0 0) ((a.take 0).filter Fm.modal):=
  ⟨((ch.trans z).thenCh aa λd L=>by omega).trans Y,by omega,R.ext Y,B.bk (by decide) (by decide) (ab.ext ((Z.trans (x3.trans O)).trans z)),B.bk (by decide) (by decide) (o.ext z),(af.ext z).rel B,⟨[],rfl,dB.nil _ _ _ _,λcn hp=>by cases hp⟩,λd L=>by cases L⟩
 refine mA M.p5 (i:=0) (v:=.pointer (some ⟨q,0,none⟩)) rfl (bB (pB (mA M.blk (i:=1) (v:=f) rfl ?_)));obtain⟨_,bp⟩:=ac M.el;refine VB bp ?_;refine MB (λi:Nat=>[iv i]) (λi c=>i<=a.length/\ ∃n,ma c.heap.size w c q N y s a C D f n (iv ((2^a.length:Nat):Int)) (.slice none 0 0) (.slice none 0 0) ((a.take i).filter Fm.modal)) (λi=>a.length-i) 0 rfl ⟨Nat.zero_le _,_,M⟩ ?_;rintro i ao Kn ⟨hi,n,h⟩ bg;intro _;simp only[gx];refine jB (dA (λU=>?_) (λU=>?_))
 ·have ag:i<a.length:=by omega
  refine Pt (K:=λc=>oA .i64 (iv i) (iv 1) λbx=>Kn [bx] c) h H ag hd bk br λc cc h'=>?_;refine qA (by omega) ?_;exact bg (i+1) _ ⟨ag,cc,h'⟩ (by omega)
 have:i=a.length:=by omega
 subst this;rw[List.take_length]at h;have h:ma ao.heap.size w ao q N y s a C D f n (iv ((2^a.length:Nat):Int)) (.slice none 0 0) (.slice none 0 0) (yF a):=h;refine pB (mA h.b3 (i:=0) (v:=C) rfl (pB (mA h.b3 (i:=1) (v:=D) rfl ?_)));intro cr ar;refine aA ((UX (Sl.ext hL (h.x.trans ar))).mono ?_);rintro bz ct ⟨au,bb⟩;refine⟨au,λcu av=>?_⟩;have ap:=(ar.trans au).trans av;refine aA ((kM (Sl.ext hR (h.x.trans ap)) l V).mono ?_);rintro ca cv ⟨aw,al,bc,hu⟩;intro E P;have aq:=(ap.trans aw).trans P;have G:=(h.ext aq).mono aq.size;have ak:=G.x.size;refine mA G.p5 (i:=0) (v:=.pointer (some ⟨q,0,none⟩)) rfl (bB (pB (mA G.blk (i:=3) (v:=iv ((2^a.length:Nat):Int)) rfl ?_)));refine MB (λt:Nat=>[iv t]) (λt c=>t<=2^a.length/\ ∃k m,ma E.heap.size w c q N y s a C D f n (iv ((2^a.length:Nat):Int)) k m (yF a)/\E.heap.size<=c.heap.size/\Ow 0 XA c bz []/\Ow 0 XA c ca [al]/\iL 0 c al r/\Ow E.heap.size UA c k (((List.range t).map λt=>!tv a t r).map Value.bool)/\Ow E.heap.size UA c m (((List.range t).map λt=>PC (pA s) a t).map Value.bool)/\ ∀d,k.ownBlock=some d->m.ownBlock=some d->False) (λt=>2^a.length-t) 0 rfl ⟨Nat.zero_le _,_,_,G,Nat.le_refl _,bb.ext ((av.trans aw).trans P),bc.ext P,dB.ext hu P,Ow.nil _ _ _,Ow.nil _ _ _,λd L=>by cases L⟩ ?_;rintro t cg Kt ⟨x,k,m,u,bu,az,ba,gu,gr,ga,ah⟩ bh;intro _;simp only[gx];refine jB (dA (λU=>?_) (λU=>?_))
 ·have aj:t<2^a.length:=by omega
  refine Qt (K:=λc=>oA .i64 (iv t) (iv 1) λbw=>Kt [bw] c) u ak bu hl H aj ad (by omega) az ba gu gr ga ah λc cd cb k1 k2 k3 k4 k5 k6 k7 k8=>?_;refine qA (by omega) ?_;exact bh (t+1) _ ⟨aj,cd,cb,k1,k2,k3,k4,k5,k6,k7,k8⟩ (by omega)
 have:t=2^a.length:=by omega
 subst this;have bi:Hg E.heap.size cg q s a f n k m ((List.range (2^a.length)).map λt=>PC (pA s) a t):=⟨⟨u.blk,u.nd⟩,ga,by simp⟩
 refine mA u.p5 (i:=0) (v:=.pointer (some ⟨q,0,none⟩)) rfl ?_;have bo:=u.p5
 --the pointer stands while types are taken away:the run turns rows of truth values only
 refine aA ((OZ (b:=y) (e:=tP) (cs:=[.pointer (some ⟨q,0,none⟩)]) u.x ak bi hl H (gr.mono (Nat.zero_le _)) ah bo (by decide)).mono ?_);rintro _ cw ⟨ci,bj,ax,a1,a2,a3,a4,a5⟩;refine mA bj (i:=0) (v:=.pointer (some ⟨q,0,none⟩)) rfl ?_;refine⟨ci,q,_,f,n,k,m,ax,rfl,a1,a2,a3,λt x bm=>?_,λF I=>a5 F I λt x l=>?_⟩
 ·have:=a4 t x bm;rw[uc x]at this;exact this
 ·rw[uc x];exact I.ok t x l
theorem pI(h:pA s<10)(c:Ld w v r)(g:r.good)(i:r.size<=40)(a:(EA r).length<=8):CB prog 168 #[sv s,v] w (.bool (mB (pA s) r)):=by
 obtain⟨z,A,rfl,hL,hR⟩:=c.ex;apply PT;unfold IJ;refine iC λx F q d e=>DB e rfl ?_;refine aA ((O5 h (c.ext d) g i a).mono ?_);rintro _ G ⟨o,u,t,D,C,E,B,p,rfl,b,j,k,f,m⟩;refine aA ((S5 b a j (by simp)).mono ?_);rintro _ H ⟨rfl,I,rfl,n⟩;refine jB ⟨?_,d.trans o⟩
 congr 1
 rw[Bool.eq_iff_iff,decide_eq_true_eq,n,kr ⟨b.len,f,k⟩ m];refine forall_congr' λy=>forall_congr' λl=>forall_congr' λ_=>?_;rw[uc l];simp
theorem uQ{l:jA}(f:pA l<10)(m:2<=pA l)(hL:iM w v [])(hR:iM w i [r.body])(e:r.good)(h:r.size<=40):CB prog 90 #[sv l,.agg #[v,i]] w (if 8<(EA r).length then .tuple #[.bool false,iv 3]else .tuple #[.bool (mB (pA l) r),iv 0]):=by
 have g:Ld w (.agg #[v,i]) r:=⟨v,i,rfl,hL,hR⟩
 apply HT;unfold AJ;refine iC λu y s p d=>DB d rfl ?_;refine PX λx z t j o=>?_;have c:=p.trans j;refine gA (qI f m (g.ext c) ⟨v,i,rfl,rB.ofBlk (n:=1) o rfl (by decide)⟩ e h) λA k=>?_;have b:=c.trans k;by_cases a:8<(EA r).length
 ·rw[if_pos a,if_pos a];exact ZF (iA (by decide) ⟨rfl,b⟩)
 ·rw[if_neg a,if_neg a];refine ZF (cA (by decide) (DB (d.ext (j.trans k)) rfl ?_));exact gA (pI f (g.ext b) e h (by omega)) λB q=>⟨rfl,b.trans q⟩
theorem Ic:∀l∈ZB,pA l<10/\2<=pA l:=by decide
theorem Z5(F:Ld w v r)(C:r.good)(H:r.size<=40):nA prog 206 #[v] w λI e=>bA w e/\((8<(EA r).length/\I= .tuple #[.slice none 0 0,iv 3])∨(¬8<(EA r).length/\ ∃J,I= .tuple #[J,iv 0]/\Ow 0 fA e J (yA (RX r)))):=by
 have G:=F;obtain⟨vL,vR,rfl,hL,hR⟩:=F.ex;apply Z7;unfold rS;refine iC λq1 w1 ad x1 z=>Jq ZB (by kernel_rfl) λY j ae u R=>PH λZ w3 af x3 Q=>?_;have N:=x1.trans u;have q:iM j (.slice (some ⟨Y,0,none⟩) 8 8) ZB:=R.sltZ (n:=8) rfl (by decide);refine MB (λs:Value×Nat=>[s.1,iv (s.2:Int)]) (λs e=>s.2<=8/\bA j e/\Ow j.heap.size fA e s.1 (yA ((ZB.take s.2).filter λl=>mB (pA l) r))/\(0<s.2-> ¬8<(EA r).length)) (λs=>8-s.2) (Z,0) rfl ⟨Nat.zero_le _,x3,Q,λo=>absurd o (Nat.lt_irrefl _)⟩ ?_;rintro⟨y,i⟩ K Kn ⟨D,a,d,p⟩ A;have D:i<=8:=D;have d:Ow j.heap.size fA K y (yA ((ZB.take i).filter λl=>mB (pA l) r)):=d;have p:0<i-> ¬8<(EA r).length:=p;have g:=N.trans a;intro _;simp only[gx];refine ZA (Sl.ext q a) (jB (dA (λU=>?_) (λU=>?_)))
 rotate_left
 ·have:i=8:=by have:(ZB.length:Int)=8:=rfl;omega
  subst this;exact⟨g,.inr ⟨p (by decide),y,rfl,d.mono (Nat.zero_le _)⟩⟩
 have c:i<ZB.length:=by omega
 have ab:ZB.length=8:=rfl;have E:=Ic _ (List.getElem_mem c);refine mQ (Sl.ext q a) c λX t=>DD t ?_;refine DB (z.ext (u.trans a)) rfl λw6 k=>?_;refine aA ((xT E.1 E.2 (G.ext (g.trans k)) C H).mono ?_);rintro _ w7 ⟨x,⟨h,rfl⟩|⟨h,ag,aa,vP,vK,vI,vT,vY,rfl,B⟩⟩
 ·exact lD (mD λw8 f=>ZF (iA (by decide) ⟨((g.trans k).trans x).trans f,.inl ⟨h,rfl⟩⟩))
 refine lD (mD λw8 f=>ZF (cA (by decide) ?_));have L:=(k.trans x).trans f;refine DB (z.ext ((u.trans a).trans L)) rfl ?_;refine aA ((LQ (B.ext f) (G.ext (g.trans L)) C H (by omega)).mono ?_);rintro _ w9 ⟨P,ai,rfl,W⟩;have b:bA K w9:=k.trans (P w6 (x.trans f) B.sp.loq);refine jB ?_;rw[W];have tk:(ZB.take (i+1)).filter (λl=>mB (pA l) r)=(ZB.take i).filter (λl=>mB (pA l) r)++(if mB (pA ZB[i]) r then[ZB[i]]else[]):=by
  rw[List.take_succ_eq_append_getElem c,List.filter_append];cases o:mB (pA ZB[i]) r<;>simp[o]
 refine kB (λm=>?_) (λm=>?_)
 ·refine mQ (Sl.ext q (a.trans b)) c λX t=>DD t ?_;have ac:(yA ((ZB.take i).filter λl=>mB (pA l) r)).length<=8:=by
   rw[AA];have:=List.length_filter_le (λl=>mB (pA l) r) (ZB.take i);rw[List.length_take]at this;omega
  refine WE IB EB rfl (d.ext b) rfl (by omega) (by omega) (by have:=a.size;have:=b.size;omega) λM ah V T _=>?_;refine qA (by omega) ?_;refine A (M,i+1) _ ⟨c,(a.trans b).grown T λO S=>((d.ext b).blk O S).1,?_,λ_=>h⟩ (by show 8-(i+1)<8-i;omega)
  ·show Ow _ _ _ M (yA ((ZB.take (i+1)).filter λl=>mB (pA l) r));rw[tk,if_pos m];rw[show yA ((ZB.take i).filter (λl=>mB (pA l) r)++[ZB[i]])=yA ((ZB.take i).filter λl=>mB (pA l) r)++[sv ZB[i]]by simp[yA]];exact V
 ·refine qA (by omega) ?_;refine A (y,i+1) _ ⟨c,a.trans b,?_,λ_=>h⟩ (by show 8-(i+1)<8-i;omega);show Ow _ _ _ y (yA ((ZB.take (i+1)).filter λl=>mB (pA l) r));rw[tk,m,if_neg (by decide),List.append_nil];exact d.ext b
theorem F5(j:Ld w v r)(i:r.good)(m:r.size<=40):nA prog 91 #[v] w λc a=>bA w a/\((8<(EA r).length/\c= .tuple #[.slice none 0 0,iv 3])∨(¬8<(EA r).length/\ ∃u,c= .tuple #[u,iv 0]/\Ow 0 fA a u (yA (RX r)))):=by
 have k:=j;obtain⟨F,G,rfl,hL,hR⟩:=j.ex;apply J7;unfold WR;refine iC λP H M f h=>DB h rfl (PX λQ S N s B=>?_);have g:=f.trans s;refine gA (qI (t:=[75]) (by decide) (by decide) (k.ext g) ⟨F,G,rfl,rB.ofBlk (n:=1) B rfl (by decide)⟩ i m) λe x=>?_;have d:=g.trans x;by_cases b:8<(EA r).length
 ·rw[if_pos b];exact ZF (iA (by decide) ⟨d,.inl ⟨b,rfl⟩⟩)
 rw[if_neg b];refine ZF (cA (by decide) ?_);have E:nA prog 142 #[] e λc a=>bA e a/\Ow e.heap.size fA a c (yA ZB):=by
  apply iH;unfold gF;exact Jq ZB (by kernel_rfl) λO H L f A=>⟨f,Ow.ofBlk A (by omega) rfl (by decide)⟩
 refine aA (E.mono ?_);rintro R T ⟨I,z⟩;refine aA ((SJ (p:=λl=>!mB (pA l) r) I z (by decide) λl C a q=>?_).mono ?_)
 ·have D:=Ic l C;refine Kl ?_;have y:=d.trans q;apply X0;unfold QN;refine DB (h.ext ((s.trans x).trans q)) rfl ?_;exact gA (pI D.1 (k.ext y) i m (by omega)) λV K=>TA ⟨rfl,K⟩
 ·rintro u U ⟨J,o⟩;refine⟨d.trans J,.inr ⟨b,u,rfl,?_⟩⟩;have:ZB.filter (λl=>!!mB (pA l) r)=RX r:=by simp[RX]
  rw[this]at o;exact o.mono (Nat.zero_le _)
noncomputable def mM(k:Nat)(f:Fm):Value:=.tuple #[sv (WG k f).1,iv (WG k f).2]
theorem Vm(f:Fm):(RX f).length<=8:=by
 unfold RX;exact Nat.le_trans (List.length_filter_le _ _) (by decide)
theorem Mf:∀t∈RX r,t.length<=100:=λt a=>by
 have h:∀t∈ZB,t.length<=100:=by decide
 exact h t (List.mem_filter.1 a).1
theorem A6(hk:x=0∨x=1∨x=2∨x=3∨x=4∨x=7∨x=8){f:Fm}(K:oC w v f)(i:f.good)(u:f.size<=40):
  CB prog 107 #[sv (gt (gt mU x) 0),v] w (mM x f):=by
 apply O8;unfold US;refine PH λy w1 _ Q H=>?_;refine gA (AB (rB.ext K Q) i (by omega)) λw2 R=>?_;refine fF rfl rfl λG D ai S ad=>?_;have C:Sl D (.slice (some ⟨G,0,none⟩) 1 1) (yA [f.body]):=Sl.ofBlk (n:=1) ad rfl (by decide);have ae:Sl D y (yA []):=((H.ext R).ext S).sl;have I:=H.cell;generalize(Value.slice (some ⟨G,0,none⟩) 1 1)=z at C⊢;have J:vA z=true:=by
  obtain⟨_,_,rfl,_⟩:=C;rfl
 refine GD (cs:=#[y,z]) (by simp[Instr.fill,sA I,sA J]) ?_;refine iC λak w4 hq x4 Z=>?_;refine RJ Z I J λl W aa=>?_;have F:bA D l:=x4.thenCh W λV t=>by omega
 have d:bA w l:=((Q.trans R).trans S).trans F;have j:oC l v f:=rB.ext K d;have hm:Ld l (.agg #[y,z]) f:=⟨y,z,rfl,ae.ext F,C.ext F⟩
 rcases hk with rfl|rfl|rfl|rfl|rfl|rfl|rfl
 ·refine yB (iA (by decide) ?_);exact gA (AB j i (by omega)) λc a=>⟨rfl,d.trans a⟩
 ·refine yB (cA (by decide) (yB (cA (by decide) (yB (iA (by decide) ?_)))));exact gA (g0 j i) λc a=>⟨rfl,d.trans a⟩
 ·refine yB (cA (by decide) (yB (cA (by decide) (yB (cA (by decide) (yB (iA (by decide) ?_)))))));refine gA (dY j i u) λc a=>?_;by_cases g:f.plain=true
  ·rw[if_pos g];refine eD (by rfl) (eD (by rfl) (gA (kD _ _ c) λo e=>eD (by rfl) (eD (by rfl) ⟨?_,(d.trans a).trans e⟩)));simp[mM,WG,g]
  ·rw[if_neg g];refine eD (by rfl) (eD (by rfl) (gA (kD _ _ c) λo e=>eD (by rfl) (eD (by rfl) ⟨?_,(d.trans a).trans e⟩)));simp[mM,WG,g]
 ·refine yB (cA (by decide) (yB (cA (by decide) (yB (cA (by decide) (yB (cA (by decide) (yB (cA (by decide) (yB (cA (by decide) (yB (iA (by decide) ?_)))))))))))));refine gA (uW j i u) λc a=>?_;by_cases g:f.plain=true
  ·rw[if_pos g];by_cases r:20<f.size
   ·rw[if_pos r];refine eD (by rfl) (eD (by rfl) (gA (kD _ _ c) λo e=>eD (by rfl) (eD (by rfl) ⟨?_,(d.trans a).trans e⟩)));simp[mM,WG,g,r]
   ·rw[if_neg r];refine eD (by rfl) (eD (by rfl) (gA (kD _ _ c) λo e=>eD (by rfl) (eD (by rfl) ⟨?_,(d.trans a).trans e⟩)));simp[mM,WG,g,r]
  ·rw[if_neg g];refine eD (by rfl) (eD (by rfl) (gA (kD _ _ c) λo e=>eD (by rfl) (eD (by rfl) ⟨?_,(d.trans a).trans e⟩)));simp[mM,WG,g]
 ·iterate 9 refine yB (cA (by decide) ?_)
  refine yB (iA (by decide) (DB aa rfl ?_));refine aA ((Z5 hm i u).mono ?_);rintro al c ⟨a,hr⟩;have k:=d.trans a;rcases hr with⟨s,rfl⟩|⟨s,O,rfl,M⟩
  ·refine eD (by rfl) (eD (by rfl) ?_);refine sB false c (λU B=>BA (cA (by rfl) (B _ (bA.refl _)))) (λE p=>?_);intro _;simp only[gx];refine cA rfl ?_;refine gA (CL (b:=[32]) (L:=[]) (m:=0) ⟨none,0,rfl,Nat.le_refl _,by decide,.inl rfl⟩ (by simp) (by simp) (by simp)) λP q=>⟨?_,(k.trans p).trans q⟩
   simp[mM,WG,s,uF]
  ·refine eD (by rfl) (eD (by rfl) ?_);have af:=Vm f;refine sB (decide ((RX f).length=0)) c (λU B=>BA (iA (by rfl) (ZA M.sl (BA ?_)))) (λE p=>?_)
   ·have:=B _ (bA.refl _)
    rwa [show decide ((RX f).length=0)=decide (((RX f).length:Int)=0)from decide_eq_decide.2 (by omega)]at this
   intro _;simp only[gx];by_cases h:RX f=[]
   ·refine iA (by rw[h];rfl) ⟨?_,k.trans p⟩;simp[mM,WG,s,h]
   ·refine cA (decide_eq_false λA=>h (List.length_eq_zero_iff.1 A)) ?_;have ag:(RX f).length*(100+([32]:jA).length)<=8*101:=Nat.mul_le_mul_right _ af;refine gA (CL (b:=[32]) (M.ext p).sl Mf (Nat.le_trans ag (by decide)) (by decide)) λP q=>⟨?_,(k.trans p).trans q⟩
    simp[mM,WG,s,h]
 ·iterate 11 refine yB (cA (by decide) ?_)
  refine aA ((E9 j i u).mono ?_);rintro _ c ⟨a,am,rfl,⟨b,O,rfl,N⟩,ht⟩;have k:=d.trans a;refine eD (by rfl) (eD (by rfl) ?_);refine iC λq2 o aj e ab=>?_;refine RJ ab rfl N λE X ac=>?_;have T:bA c E:=e.thenCh X λV t=>by omega
  refine DB ac rfl ?_;refine gA (D6 (f:=f) ⟨b,O,rfl,N⟩ λt=>?_) λP q=>eD (by rfl) (eD (by rfl) ⟨?_,(k.trans T).trans q⟩)
  ·have h:cE f=[]:=by
    apply Classical.byContradiction;intro Y;rw[if_neg Y]at t;exact absurd t (by decide)
   obtain⟨v',A,ah⟩:=ht h;exact⟨v',A,ah.ext T⟩
  ·by_cases h:cE f=[]<;>simp[mM,WG,h]
 ·refine yB (cA (by decide) (yB (iA (by decide) ?_)));refine VB j ?_;exact gA (xW (by omega) l) λc a=>⟨rfl,d.trans a⟩
theorem z6(K:x=5∨x=6)(y:oC w v r)(j:r.good)(t:r.size<=40):
  CB prog 108 #[sv (gt (gt mU x) 0),sv (gt (gt mU x) 1),v] w (mM x r):=by
 apply N8;unfold TS;refine PH λd T _ A p=>?_;refine gA (AB (rB.ext y A) j (by omega)) λU B=>?_;refine fF rfl rfl λo k P C I=>?_;have i:Sl k (.slice (some ⟨o,0,none⟩) 1 1) (yA [r.body]):=Sl.ofBlk (n:=1) I rfl (by decide);have J:Sl k d (yA []):=((p.ext B).ext C).sl;have q:=p.cell;generalize(Value.slice (some ⟨o,0,none⟩) 1 1)=e at i⊢;have s:vA e=true:=by
  obtain⟨_,_,rfl,_⟩:=i;rfl
 refine GD (cs:=#[d,e]) (by simp[Instr.fill,sA q,sA s]) ?_;refine iC λS V R N G=>?_;refine RJ G q s λf D H=>?_;have m:bA k f:=N.thenCh D λO Q=>by omega
 have b:bA w f:=((A.trans B).trans C).trans m;have M:oC f v r:=rB.ext y b;have L:Ld f (.agg #[d,e]) r:=⟨d,e,rfl,J.ext m,i.ext m⟩
 rcases K with rfl|rfl
 ·refine yB (cA (by decide) (yB (iA (by decide) (DB H rfl ?_))));refine gA (JR (l:=[71,76]) (by decide) (by decide) L j t) λg h=>?_;have E:pA [71,76]=9:=by decide
  rw[E];by_cases c:8<(EA r).length
  ·rw[if_pos c];refine eD (by rfl) (eD (by rfl) (gA (kD _ _ g) λz a=>eD (by rfl) (eD (by rfl) ⟨?_,(b.trans h).trans a⟩)));simp[mM,WG,c]
  ·rw[if_neg c];refine eD (by rfl) (eD (by rfl) (gA (kD _ _ g) λz a=>eD (by rfl) (eD (by rfl) ⟨?_,(b.trans h).trans a⟩)));simp[mM,WG,c]
 ·refine yB (iA (by decide) ?_);refine gA (kU M j t) λg h=>?_;unfold Lu;refine eD (by rfl) (eD (by rfl) (gA (kD _ _ g) λz a=>eD (by rfl) (eD (by rfl) ⟨?_,(b.trans h).trans a⟩)));by_cases u:r.plain=true
  ·by_cases F:4096<Ku r^Yq r<;>simp[mM,WG,u,F]
  ·simp[mM,WG,u]
theorem th{a b:Value}{P:World->Prop}(g:∀c,P c->S [a,b] c)(f:∀J:List Value->World->Prop,(∀c,P c->J [a,b] c)->X J):
  jn X (λd c=>∀_:Nat->Value,S [gx d 0,gx d 1] c):=by
 refine WB (λd c=>d=[a,b]/\P c) (λJ e=>f J λc h=>e _ _ ⟨rfl,h⟩) ?_;rintro _ c ⟨rfl,h⟩;intro _;exact g c h
theorem YX(A:x=0∨x=1∨x=2∨x=3∨x=6∨x=8){o:Value}(B:x=6->s=[76,67])(y:ka w)(z:RY w)(C:oC w U r)(h:r.good)(n:r.size<=40):
  CB prog 34 #[.agg #[sv (gt (gt mU x) 0),sv s,o],U] w (.tuple #[sv (WG x r).1,iv (WG x r).2,.bool true]):=by
 apply vH;unfold UE;refine xC λD q G d m=>?_;have m:GA _ q D [sv (gt (gt mU x) 0),sv s,o]:=m;have g:oC q U r:=rB.ext C d;refine pB (mA m (i:=0) (v:=sv (gt (gt mU x) 0)) rfl (yB ?_));refine WB (λF j=>F=[sv (WG x r).1,iv (WG x r).2]/\bA w j) (λJ a=>?_) ?_
 ·have a:∀j,bA w j->J [sv (WG x r).1,iv (WG x r).2] j:=λj u=>a _ _ ⟨rfl,u⟩;rcases A with rfl|rfl|rfl|rfl|rfl|rfl
  ·refine iA (by decide) ?_;exact gA (aC g h (by omega)) λe c=>a _ (d.trans c)
  ·refine cA (by decide) ?_;refine yB (th a λJ a=>cA (by decide) ?_);refine yB (th a λJ a=>iA (by decide) ?_);exact gA (m3 g h) λe c=>a _ (d.trans c)
  ·refine cA (by decide) ?_
   iterate 2 refine yB (th a λJ a=>cA (by decide) ?_)
   refine yB (th a λJ a=>iA (by decide) ?_);refine gA (YV g h n) λe c=>?_;by_cases b:r.plain=true
   ·rw[if_pos b];refine eD (by rfl) (eD (by rfl) (gA (MF _ _ e) λk f=>eD (by rfl) (eD (by rfl) ?_)));have:=a _ ((d.trans c).trans f);simpa[WG,b]using this
   ·rw[if_neg b];refine eD (by rfl) (eD (by rfl) (gA (MF _ _ e) λk f=>eD (by rfl) (eD (by rfl) ?_)));have:=a _ ((d.trans c).trans f);simpa[WG,b]using this
  ·refine cA (by decide) ?_
   iterate 5 refine yB (th a λJ a=>cA (by decide) ?_)
   refine yB (th a λJ a=>iA (by decide) ?_);refine gA (bU g h n) λe c=>?_;by_cases b:r.plain=true
   ·rw[if_pos b];by_cases l:20<r.size
    ·rw[if_pos l];refine eD (by rfl) (eD (by rfl) (gA (MF _ _ e) λk f=>eD (by rfl) (eD (by rfl) ?_)));have:=a _ ((d.trans c).trans f);simpa[WG,b,l]using this
    ·rw[if_neg l];refine eD (by rfl) (eD (by rfl) (gA (MF _ _ e) λk f=>eD (by rfl) (eD (by rfl) ?_)));have:=a _ ((d.trans c).trans f);simpa[WG,b,l]using this
   ·rw[if_neg b];refine eD (by rfl) (eD (by rfl) (gA (MF _ _ e) λk f=>eD (by rfl) (eD (by rfl) ?_)));have:=a _ ((d.trans c).trans f);simpa[WG,b]using this
  ·obtain rfl:=B rfl;refine cA (by decide) ?_
   iterate 8 refine yB (th a λJ a=>cA (by decide) ?_)
   refine yB (iA (by decide) ?_);refine pB (mA m (i:=1) (v:=sv [76,67]) rfl ?_);refine gA (dU (y.ext d) g h n) λe c=>?_;unfold Lu;refine eD (by rfl) (eD (by rfl) (gA (MF _ _ e) λk f=>eD (by rfl) (eD (by rfl) ?_)));have:=a _ ((d.trans c).trans f);by_cases b:r.plain=true
   ·by_cases p:4096<Ku r^Yq r
    ·simpa[WG,b,p]using this
    ·simpa[WG,b,p]using this
   ·simpa[WG,b]using this
  ·refine cA (by decide) ?_;refine yB (th a λJ a=>iA (by decide) ?_);refine gA (v:=iv (r.size:Int)) ?_ λI t=>?_
   ·apply TT;unfold LJ;exact VB g ⟨rfl,bA.refl _⟩
   exact gA (oT (by omega) (z.ext (d.trans t))) λe c=>a _ ((d.trans t).trans c)
 ·rintro _ H ⟨rfl,E⟩;intro _;exact⟨rfl,E⟩
theorem iU(l:x=4∨x=5∨x=7){j:Value}:
  CB prog 34 #[.agg #[sv (gt (gt mU x) 0),sv s,j],U] w (.tuple #[sv [],iv 0,.bool false]):=by
 apply vH;unfold UE;refine xC λq n r o f=>?_;have f:GA _ n q [sv (gt (gt mU x) 0),sv s,j]:=f;refine pB (mA f (i:=0) (v:=sv (gt (gt mU x) 0)) rfl (yB ?_));have p:∀(J:List Value->World->Prop) c,False->J [sv [],sv []] c:=λ_ _ h=>h.elim;have m:∀{d:(List Value->World->Prop)->Prop} {g:List Value->World->Prop},(∀J:List Value->World->Prop,d J)->jn d (λk c=>∀_:Nat->Value,g [gx k 0,gx k 1] c):=λ{d g} h=>th (a:=sv []) (b:=sv []) (P:=λ_=>False) (λc e=>e.elim) λJ _=>h J;refine WB (λ_ _=>False) (λJ _=>?_) (λ_ _ e=>e.elim);rcases l with rfl|rfl|rfl
 all_goals
  refine cA (by decide) ?_
  iterate 8 refine yB (m λJ=>cA (by decide) ?_)
  refine yB (cA (by decide) ⟨rfl,o⟩)
theorem WX(T:x=4∨x=5∨x=7){E:Value}(X:x=5->s=[71,76]){f:Fm}(Q:RY w)(u:Sl w v [U])(I:oC w U f)(m:f.good)(t:f.size<=40):
  CB prog 35 #[.agg #[sv (gt (gt mU x) 0),sv s,E],v] w (mM x f):=by
 apply VO;unfold qH;refine xC λq0 J ae y h=>?_;have h:GA _ J q0 [sv (gt (gt mU x) 0),sv s,E]:=h;refine pP (j:=0) (u.ext y) (by decide) (by simp) λaf Z=>DD (v:=U) (by rw[Z];rfl) ?_;refine gA (aC (rB.ext I y) m (by omega)) λw2 x2=>?_;refine fF rfl rfl λD K ad x3 P=>?_;have k:Sl K (.slice (some ⟨D,0,none⟩) 1 1) (yA [f.body]):=Sl.ofBlk (n:=1) P rfl (by decide);generalize(Value.slice (some ⟨D,0,none⟩) 1 1)=o at k⊢;have F:vA o=true:=by
  obtain⟨_,_,rfl,_⟩:=k;rfl
 refine GD (cs:=#[.slice none 0 0,o]) (by simp[Instr.fill,sA F]) ?_;refine iC λag w4 hq x4 O=>?_;refine RJ O rfl F λc L G=>?_;have A:bA K c:=x4.thenCh L λac r=>by omega
 have z:bA J c:=(x2.trans x3).trans A;have e:bA w c:=y.trans z;have aa:oC c U f:=rB.ext I e;have H:iM c (.slice none 0 0) []:=⟨none,0,rfl,Nat.le_refl _,by decide,.inl rfl⟩
 have Y:Ld c (.agg #[.slice none 0 0,o]) f:=⟨_,o,rfl,H,k.ext A⟩
 refine pB (mA (h.ext z) (i:=0) (v:=sv (gt (gt mU x) 0)) rfl ?_);rcases T with rfl|rfl|rfl
 ·refine yB (cA (by decide) (yB (iA (by decide) (DB G rfl ?_))));refine aA ((F5 Y m t).mono ?_);rintro ah p ⟨d,hr⟩;have g:=e.trans d;rcases hr with⟨a,rfl⟩|⟨a,v,rfl,u⟩
  ·refine eD (by rfl) (eD (by rfl) (ZF (iA (by decide) ⟨?_,g⟩)));simp[mM,WG,a]
  ·refine eD (by rfl) (eD (by rfl) (ZF (cA (by decide) ?_)));have V:=Vm f;have S:=AM (b:=[32]) (R:=RX f) Mf;have W:(RX f).length*(100+([32]:jA).length)<=8*101:=Nat.mul_le_mul_right _ V;refine gA (sT (b:=[32]) u.sl (Nat.le_trans S (Nat.le_trans W (by decide))) (by omega)) λw9 C=>⟨?_,g.trans C⟩
   simp[mM,WG,a]
 ·obtain rfl:=X rfl;refine yB (iA (by decide) ?_);refine pB (mA (h.ext z) (i:=1) (v:=sv [71,76]) rfl (DB G rfl ?_));refine gA (uQ (l:=[71,76]) (by decide) (by decide) H (k.ext A) m t) λp d=>?_;have M:pA [71,76]=9:=by decide
  rw[M];by_cases a:8<(EA f).length
  ·rw[if_pos a];refine eD (by rfl) (eD (by rfl) (gA (MF _ _ p) λw7 B=>eD (by rfl) (eD (by rfl) ⟨?_,(e.trans d).trans B⟩)));simp[mM,WG,a]
  ·rw[if_neg a];refine eD (by rfl) (eD (by rfl) (gA (MF _ _ p) λw7 B=>eD (by rfl) (eD (by rfl) ⟨?_,(e.trans d).trans B⟩)));simp[mM,WG,a]
 ·iterate 6 refine yB (cA (by decide) ?_)
  refine yB (iA (by decide) ?_);refine aA ((k9 aa m t).mono ?_);rintro _ p ⟨d,ai,rfl,⟨b,v,rfl,ab⟩,ht⟩;have g:=e.trans d;refine eD (by rfl) (eD (by rfl) ?_);refine gA (p3 (f:=f) (Q.ext g) ⟨b,v,rfl,ab⟩ λr=>?_) λw9 C=>eD (by rfl) (eD (by rfl) ⟨?_,g.trans C⟩)
  ·have q:cE f=[]:=by
    apply Classical.byContradiction;intro N;rw[if_neg N]at r;exact absurd r (by decide)
   exact ht q
  ·by_cases q:cE f=[]<;>simp[mM,WG,q]
theorem Ad:∀{W:List jA},(∀a∈W,∀x∈a,x≠(32:UInt8))-> ∀{t:jA},(∀x∈t,x≠(32:UInt8))->bC 32 ((W.flatMap λa=>a++[32])++t)=W++[t]
 |[],_,_,ht=>UG ht
 |a::W,h,t,ht=>by
  rw[List.flatMap_cons,List.append_assoc,List.append_assoc,List.singleton_append,sK (h a (by simp)),Ad (λb c=>h b (List.mem_cons_of_mem _ c)) ht];rfl
theorem gX(c:x<9)(d:AC s=true):bC 32 (G6 x++s)=gt mU x++[s]:=by
 refine Ad ?_ λa f e=>jh d (e▸f);have g:∀x:Fin 9,∀b∈gt mU x.val,∀a∈b,a≠(32:UInt8):=by decide
 exact g ⟨x,c⟩
theorem Yl(c:x<9)(a:AC s=true):qB (gt mU x++[s])=true:=by
 have b:x=0∨x=1∨x=2∨x=3∨x=4∨x=5∨x=6∨x=7∨x=8:=by omega
 rcases b with rfl|rfl|rfl|rfl|rfl|rfl|rfl|rfl|rfl
 all_goals
  simp only[gt,mU,List.getD_cons_zero,List.getD_cons_succ,List.cons_append,List.nil_append,qB]
 case inr.inr.inr.inr.inr.inl=>rw[if_neg (by decide),if_neg (by decide),if_pos (by decide)];simp[qL,Sk,a]
 case inr.inr.inr.inr.inr.inr.inl=>rw[if_neg (by decide),if_pos (by decide)];simp[qL,RC,a]
 all_goals
  rw[if_pos (by decide)];simp[a]
theorem Xo(c:x<9){b:jA}{es:List jA}(h:Rp (gt mU x++[s]) Y b es):Y=gt (gt mU x) 0/\es=[s]/\(x=5∨x=6->b=gt (gt mU x) 1):=by
 obtain⟨d,e,h⟩:=h;have a:x=0∨x=1∨x=2∨x=3∨x=4∨x=5∨x=6∨x=7∨x=8:=by omega
 rcases a with rfl|rfl|rfl|rfl|rfl|rfl|rfl|rfl|rfl
 all_goals
  simp only[gt,mU,List.getD_cons_zero,List.getD_cons_succ,List.cons_append,List.nil_append,List.cons.injEq]at e;obtain⟨rfl,rfl⟩:=e
 case inr.inr.inr.inr.inr.inl=>
  rcases h with⟨h,_⟩|⟨_,h⟩
  ·exact absurd h (by decide)
  ·simp only[List.cons.injEq]at h;exact⟨rfl,h.2.symm,λ_=>h.1.symm⟩
 case inr.inr.inr.inr.inr.inr.inl=>
  rcases h with⟨h,_⟩|⟨_,h⟩
  ·exact absurd h (by decide)
  ·simp only[List.cons.injEq]at h;exact⟨rfl,h.2.symm,λ_=>h.1.symm⟩
 all_goals
  rcases h with⟨_,h⟩|⟨h,_⟩
  ·exact⟨rfl,h,λe=>by omega⟩
  ·exact absurd (show _∈eW by decide) h
def kL(L:List kF)(t:jA):Fm:=(rd (Ee L t)).1
def kf(c:Int)(f:Fm):Nat×List Value:=if c=0 then(f.size,f.cells)else(0,[])
def Tn(k c:Nat)(e:TypeId)(w:World)(b:List Value)(a:List Fm):Prop:=b.length=a.length/\ ∀i,i<a.length-> ∃v,b[i]?=some v/\dB k c e w v (a.getD i .fls).size (a.getD i .fls).cells
theorem Tn.ext(h:Tn x n u w y j)(e:bA w a):Tn x n u a y j:=⟨h.1,λi d=>by obtain⟨v,b,c⟩:=h.2 i d;exact⟨v,b,c.ext e⟩⟩
theorem dB.ne_own(h:dB x n u w v C y)(b:Ow f H w i J)(j:u≠H):∀c,v.ownBlock=some c-> ¬i.ownBlock=some c:=λc e g=>by
 obtain⟨k,d⟩:=h.ty e;obtain⟨l,a⟩:=b.ty g;rw[d]at a;simp only[Option.some.injEq,Obj.cells.injEq]at a;exact j a.2.1
def YF(L:List kF)(t:jA):Int:=if vC L=false then 1 else if¬sF t=0 then sF t else if fE L t=false then 4 else if 40<(kL L t).size then 3 else 0
theorem EO {lo:Nat} {v0 v1:Value} {L:List kF} {T:List jA} {w:World} (hs:Js lo w v0 L) (hok:vC L = true) (h1:iM w v1 T) (hT:T.length ≤ 1000) (ht:∀ t ∈ T,t.length ≤ 300 ∧ AC t = true):
  nA Tryz.prog 26 #[v0,v1] w fun r w'=>bA w w' ∧ (T.any (fun t=>!fE L t) = true → r = .tuple #[.slice none 0 0,.int .i64 4]) ∧ (T.any (fun t=>!fE L t) = false →
   ((T.map (kL L)).any (fun f=>decide (40 < f.size)) = true → r = .tuple #[.slice none 0 0,.int .i64 3]) ∧
   ((T.map (kL L)).any (fun f=>decide (40 < f.size)) = false → ∃ u vs,r = .tuple #[u,.int .i64 0] ∧ Ow w.heap.size XA w' u vs ∧ Tn 2 w.heap.size NA w' vs (T.map (kL L)))):=by
 apply D4;unfold sP
 refine xC fun b w1 hb x1 hB=>?_
 rw [sA hs.cell] at hB
 refine gA (OC (p:=fun t=>!fE L t) (h1.ext x1) fun t htm w' hw'=>(lQ rfl ?_)) fun w2 x2=>?_
 ·show nA Tryz.prog 54 #[sv t,.pointer (some ⟨b,0,none⟩)] w' _
  apply kZ;unfold NM
  refine mA (hB.ext hw') rfl ?_
  have hh:=ht t htm
  refine gA (o9 (hs.ext (x1.trans hw')) hok (by omega) (PV hh.2)) fun w4 h4=>?_
  exact TA ⟨by first | trivial | rfl,h4⟩
 have x12:=x1.trans x2
 cases hkn:T.any fun t=>!fE L t
 rotate_left
 ·exact iA rfl ⟨x12,fun _=>rfl,fun h=>by cases h⟩
 refine cA rfl ?_
 have hk:∀ t ∈ T,fE L t = true:=fun t htm=>by have:=List.any_eq_false.1 hkn t htm;simpa using this
 refine ZA (h1.ext x12) ?_
 refine MB (fun s:Value × Nat=>[s.1,.int .i64 (s.2:Int)]) (fun s w'=>s.2 ≤ T.length ∧ bA w1 w' ∧ ∃ vs,Ow w.heap.size XA w' s.1 vs ∧ Tn 2 w.heap.size NA w' vs ((T.take s.2).map (kL L))) (fun s=>T.length - s.2) (.slice none 0 0,0) rfl ⟨Nat.zero_le _,x2,[],Ow.nil _ _ _,rfl,fun i hi=>absurd hi (by simp)⟩ ?_
 rintro ⟨u,k⟩ w4 Kn ⟨hkT,x4,vs,ho,hf⟩ hKn
 have hkT:k ≤ T.length:=hkT
 have ho:Ow w.heap.size XA w4 u vs:=ho
 have hf:Tn 2 w.heap.size NA w4 vs ((T.take k).map (kL L)):=hf
 have X4:=x1.trans x4
 intro _
 simp only [gx]
 refine jB ?_
 refine dA (fun h=>?_) (fun h=>?_)
 ·refine mH (h1.ext X4) rfl (by omega) ?_
  have hmem:gt T k ∈ T:=by rw [LA (show k < T.length by omega)];exact List.getElem_mem _
  have hh:=ht _ hmem
  refine mA (hB.ext x4) rfl ?_
  refine aA ((G5 (hs.ext X4) hok (by omega) hh.2 (hk _ hmem)).mono ?_)
  rintro r w5 ⟨x45,hr⟩
  have ho5:=ho.ext x45
  have hf5:=hf.ext x45
  have hvl:vs.length = k:=by rw [hf.1,List.length_map,List.length_take];omega
  refine WE aF XE rfl ho5 hr.cell (by omega) (by omega) (by have:=(X4.trans x45).size;omega) fun u' w7 ho7 hg7 hat7=>?_
  have x57:bA w1 w7:=(x4.trans x45).grown hg7 fun c hc=>by
   have hc1:=(ho5.blk c hc).1
   have hcc:c ≠ b:=fun e=>by
    subst e
    exact ho5.ne_blk (hB.ext (x4.trans x45)) (by decide) hc
   omega
  refine qA (by omega) ?_
  refine hKn (u',k + 1) _ ⟨by show k + 1 ≤ T.length;omega,x57,vs ++ [r],ho7,?_,fun i hi=>?_⟩ (by show T.length - (k + 1) < T.length - k;omega)
  ·show (vs ++ [r]).length = ((T.take (k + 1)).map (kL L)).length
   rw [List.length_append,List.length_singleton,List.length_map,List.length_take];omega
  ·have hi:i < ((T.take (k + 1)).map (kL L)).length:=hi
   show ∃ v,(vs ++ [r])[i]? = some v ∧ dB 2 w.heap.size NA w7 v (((T.take (k + 1)).map (kL L)).getD i .fls).size (((T.take (k + 1)).map (kL L)).getD i .fls).cells
   rw [List.length_map,List.length_take] at hi
   have gr:∀ {v:Value} {f:Fm},dB 2 w.heap.size NA w5 v f.size f.cells → dB 2 w.heap.size NA w7 v f.size f.cells:=fun {v f} hv=>hv.grown hg7 (by
    cases hvo:v.ownBlock with
    | none=>exact .inl rfl
    | some c=>exact .inr fun e=>hv.ne_own ho5 (by decide) c hvo e.symm)
   have eg:((T.take (k + 1)).map (kL L)).getD i .fls = kL L (gt T i):=by
    rw [List.getD_eq_getElem?_getD,List.getElem?_map,List.getElem?_take,if_pos (by omega),List.getElem?_eq_getElem (by omega),LA (by omega)]
    rfl
   rw [eg]
   by_cases hik:i < k
   ·obtain ⟨v,hv1,hv2⟩:=hf5.2 i (by rw [List.length_map,List.length_take];omega)
    have eg2:((T.take k).map (kL L)).getD i .fls = kL L (gt T i):=by
     rw [List.getD_eq_getElem?_getD,List.getElem?_map,List.getElem?_take,if_pos hik,List.getElem?_eq_getElem (by omega),LA (by omega)]
     rfl
    rw [eg2] at hv2
    exact ⟨v,by rw [List.getElem?_append_left (by omega)];exact hv1,gr hv2⟩
   ·have:i = k:=by omega
    subst this
    exact ⟨r,by rw [List.getElem?_append_right (by omega),hvl,Nat.sub_self];rfl,gr (hr.mono X4.size)⟩
 ·have hkk:k = T.length:=by omega
  subst hkk
  rw [List.take_length] at hf
  refine aA ((RZ ho.sl ⟨hf.1,fun i hi=>by obtain ⟨v,h1,h2⟩:=hf.2 i hi;exact ⟨v,h1,h2.sl⟩⟩).mono ?_)
  rintro r w8 ⟨x8,rfl⟩
  cases hbig:(T.map (kL L)).any fun f=>decide (40 < f.size)
  ·rw [if_neg (by decide)]
   refine lD ?_
   refine mD ?_
   exact ⟨X4.trans x8,(fun h=>by cases h),fun _=>⟨(fun h=>by cases h),fun _=>⟨u,vs,rfl,ho.ext x8,hf.ext x8⟩⟩⟩
  ·rw [if_pos rfl]
   refine lD ?_
   refine mD ?_
   exact ⟨X4.trans x8,(fun h=>by cases h),fun _=>⟨fun _=>rfl,fun h=>by cases h⟩⟩
theorem Uw{P:Program}{n o t:Value}(g:GA u w x [n,o,t])(j:vA v=true)(k:vA i=true)(m:vA U=true)
  (h:∀a,Ch (λc=>c=x) w a->GA u a x [v,i,U]->l a):sD P w 3 (.pointer (some ⟨x,0,none⟩)) (.agg #[v,i,U]) l:=by
 obtain⟨a,d,e,f⟩:=DF (P:=P) [v,i,U] 0 w _ g (by simp) (λs b=>by
  simp only[List.mem_cons,List.not_mem_nil,or_false]at b;rcases b with rfl|rfl|rfl
  ·exact j
  ·exact k
  ·exact m)
 exact⟨_,a,rfl,rfl,d,h a (e.ch rfl) (by simpa using f)⟩
theorem ZK {k:Nat} (hk:k < 9) {lo:Nat} {v0:Value} {L:List kF} {t:jA} {w:World} (hs:Js lo w v0 L) (hsh:sV L) (hok:vC L = true) (ht:AC t = true) (hkn:fE L t = true) (hg:(kL L t).good) (hsz:(kL L t).size ≤ 40) (hlen:(G6 k ++ t).length ≤ 300) (hN:ka w) (hT:RY w):
  CB Tryz.prog 14 #[v0,sv (G6 k ++ t)] w (mM k (kL L t)):=by
 have htl:t.length ≤ 300:=by rw [List.length_append] at hlen;omega
 apply dZ;unfold FM
 refine gA (jK hs.sl hsh) fun w1 x1=>?_
 rw [hok]
 refine TA (cA rfl ?_)
 refine HD (jB (cA (decide_eq_false (by omega)) ?_))
 refine aA ((qT hlen (hN.ext x1)).mono ?_)
 rintro _ w2 ⟨x2,a,b,x,rfl,hxc,hq⟩
 rw [gX hk ht,Yl hk ht] at hq ⊢
 obtain ⟨es,hes,hqp⟩:=hq rfl
 obtain ⟨rfl,rfl,hb⟩:=Xo hk hqp
 refine eD (by rfl) (eD (by rfl) ?_)
 refine xC fun q w3 hq3 x3 hB=>?_
 have hB:GA _ w3 q [sv [],sv [],.slice none 0 0]:=hB
 refine Uw hB rfl rfl hxc fun w4 c4 hB4=>?_
 have x24:bA w2 w4:=x3.thenCh c4 fun c hc=>by omega
 have X4:=(x1.trans x2).trans x24
 refine TA (cA rfl ?_)
 refine pB (mA hB4 (i:=2) (v:=x) rfl ?_)
 refine aA ((EO (T:=[t]) (hs.ext X4) hok (hes.ext x24) (by simp) (fun s hs'=>by simp at hs';subst hs';exact ⟨htl,ht⟩)).mono ?_)
 rintro r w5 ⟨x5,g1,g2⟩
 simp only [List.any_cons,List.any_nil,Bool.or_false,List.map_cons,List.map_nil,hkn,Bool.not_true] at g1 g2
 obtain ⟨-,g4⟩:=g2 trivial
 obtain ⟨u,vs,rfl,ho,hf⟩:=g4 (decide_eq_false (by omega))
 refine eD (by rfl) (eD (by rfl) (ZF (cA (by decide) ?_)))
 have X5:=X4.trans x5
 have hB5:=hB4.ext x5
 refine DB hB5 rfl ?_
 obtain ⟨v,hv1,hv2⟩:=hf.2 0 (by simp)
 have hvl:vs.length = 1:=hf.1
 obtain rfl:vs = [v]:=by
  obtain ⟨y,rfl⟩:=List.length_eq_one_iff.1 hvl
  simp at hv1;rw [hv1]
 have hfm:oC w5 v (kL L t):=dB.sl hv2
 refine pP (j:=0) ho.sl (by decide) (by simp) fun p hp=>DD (v:=v) (by rw [hp];rfl) ?_
 by_cases hm:k = 4 ∨ k = 5 ∨ k = 7
 ·refine eC (fun w6 x6=>iU hm) ?_
  refine eD (by rfl) (eD (by rfl) (eD (by rfl) fun w6 x6=>cA rfl (DB (hB5.ext x6) rfl ?_)))
  refine gA (WX hm (fun e=>by subst e;exact hb (.inl rfl)) (hT.ext (X5.trans x6)) (ho.sl.ext x6) (rB.ext hfm x6) hg hsz) fun w7 x7=>?_
  exact eD (by rfl) (eD (by rfl) ⟨rfl,(X5.trans x6).trans x7⟩)
 ·refine eC (fun w6 x6=>YX (by omega) (fun e=>by subst e;exact hb (.inr rfl)) (hN.ext (X5.trans x6)) (hT.ext (X5.trans x6)) (rB.ext hfm x6) hg hsz) ?_
  exact eD (by rfl) (eD (by rfl) (eD (by rfl) fun w6 x6=>iA rfl ⟨rfl,X5.trans x6⟩))
abbrev Es(a:Nat)(w:World)(v:Value)(c:Int)(f:Fm):Prop:=dB 2 a NA w v (kf c f).1 (kf c f).2
theorem Es.none(b:Nat)(w:World)(f:Fm)(a:¬o=0):Es b w (.slice none 0 0) o f:=by
 unfold Es kf;rw[if_neg a];exact dB.nil _ _ _ _
theorem Es.some(a:o=0)(h:iL x w v r):Es x w v o r:=by
 unfold Es kf;rw[if_pos a];exact h
theorem f0(t:jA)(Q:m4 w v d)(f:vC d=true)(ad:¬300<t.length)(L:AC t=true):nA prog 29 #[v,sv t] w λr a=>bA w a/\ ∃u,r= .tuple #[u,iv (YF d t)]/\Es w.heap.size a u (YF d t) (kL d t):=by
 have I:∀{o:Int} {a:World},YF d t=o-> ¬o=0->bA w a->bA w a/\ ∃u,Value.tuple #[.slice none 0 0,iv o]= .tuple #[u,iv (YF d t)]/\Es w.heap.size a u (YF d t) (kL d t):=λ{o a} e y hx=>
  ⟨hx,_,by rw[e],Es.none _ _ _ (by rw[e];exact y)⟩
 have x2:bA w w:=bA.refl _;have C:sF t=0:=by unfold sF;rw[if_neg ad,L];rfl
 have K:=lI f;apply dQ;unfold XJ;refine aA ((oJ (by omega) w).mono ?_);rintro r F ⟨x3,vp,vn,rfl,hp,O⟩;have ai:=x2.trans x3;refine lD ?_;refine mD ?_;have al:(QA (CA t)).length<=t.length:=by rw[show(QA (CA t)).length=(CA t).2.length from List.length_map _];exact mN t
 refine PH λah w4 am x4 af=>?_;refine MB (λs:Value×Nat=>[s.1,iv (s.2:Int)]) (λs a=>s.2<=(QA (CA t)).length/\bA F a/\Ow F.heap.size fA a s.1 (yA (((QA (CA t)).take s.2).map (XK d)))/\ ∀j,j<s.2->zR d (gt (QA (CA t)) j)=true) (λs=>(QA (CA t)).length-s.2) (ah,0) rfl ⟨Nat.zero_le _,x4,af,λj b=>absurd b (Nat.not_lt_zero j)⟩ ?_;rintro⟨u,k⟩ w5 Kn ⟨N,g,l,z⟩ Y;have N:k<=(QA (CA t)).length:=N;have l:Ow F.heap.size fA w5 u (yA (((QA (CA t)).take k).map (XK d))):=l;have z:∀j,j<k->zR d (gt (QA (CA t)) j)=true:=z;have h:=ai.trans g;intro _;simp only[gx];refine ZA (O.ext g).sl ?_;refine jB ?_;refine dA (λB=>?_) (λB=>?_)
 ·refine mH (O.ext g).sl rfl (by omega) ?_;refine aA ((NQ (n:=gt (QA (CA t)) k) (Q.ext h)).mono ?_);rintro r w6 ⟨m,an,ap,rfl,J⟩;refine lD ?_;refine mD ?_;refine TA ?_;have D:=J.2.2 K;cases i:zR d (gt (QA (CA t)) k)
  ·rw[D,i];refine iA rfl (I ?_ (by decide) (h.trans m));have c:fE d t=false:=by
    rw[Bool.eq_false_iff];intro e;have:=List.all_eq_true.1 e _ (List.getElem_mem (show k<(QA (CA t)).length by omega));rw[<-LA,i]at this;cases this
   unfold YF;rw[if_neg (by rw[f];decide),if_neg (λe=>e C),if_pos c]
  ·obtain⟨M,ae⟩:=J.2.1 (D.trans i);rw[D,i];refine cA rfl ?_;refine yx (Q.ext (h.trans m)) rfl M ?_;have P:=l.ext m;have ak:(yA (((QA (CA t)).take k).map (XK d))).length<=300:=by rw[AA,List.length_map,List.length_take];omega
   refine nT IB EB rfl P rfl (by omega) (by omega) (by have:=(g.trans m).size;omega) λu' S ag aa=>?_;refine qA (by omega) ?_;refine Y (u',k+1) _ ⟨by show k+1<=_;omega,(g.trans m).grown aa λV Z=>(P.blk V Z).1,?_,λj b=>?_⟩ (by show(QA (CA t)).length-(k+1)<(QA (CA t)).length-k;omega)
   ·show Ow _ _ _ _ (yA (((QA (CA t)).take (k+1)).map (XK d)));rw[List.take_succ_eq_append_getElem (by omega),List.map_append,<-LA (by omega),List.map_singleton,T9 K M ae,<-uG];exact ag
   ·have b:j<k+1:=b;by_cases ab:j=k
    ·subst ab;exact i
    ·exact z j (by omega)
 ·have ac:k=(QA (CA t)).length:=by omega
  subst ac;rw[List.take_length]at l;have c:fE d t=true:=by
   unfold fE;rw[List.all_eq_true];intro n hm;obtain⟨j,b,rfl⟩:=List.getElem_of_mem hm;rw[<-LA b];exact z j b
  have aj:=qc f c;have W:yA (MR (CA t))=yA ((CA t).1::((CA t).2.map λx=>(XK d x.1,x.2)).map Prod.snd):=by
   rw[List.map_map];rfl
  have X:yA ((QA (CA t)).map (XK d))=yA (((CA t).2.map λx=>(XK d x.1,x.2)).map Prod.fst):=by
   rw[QA,List.map_map,List.map_map];rfl
  have H:WK (CA t).1 ((CA t).2.map λx=>(XK d x.1,x.2))=Ee d t:=EZ (XK d) (CA t);refine gA (DL (p0:=(CA t).1) (q:=(CA t).2.map λx=>(XK d x.1,x.2)) (by show Sl _ _ (yA _);rw[<-W];exact(hp.ext g).sl) (by show Sl _ _ (yA _);rw[<-X];exact l.sl) (by rw[H];omega)) λS U=>?_;rw[H];refine aA ((JH (by omega) S).mono ?_);rintro r T ⟨x9,E,rfl,A,-⟩;have A:=A (Im f L c);have G:=(h.trans U).trans x9;refine lD ?_;refine mD ?_;refine aA (nA.mono (R:=λr a=>a=T/\r=if 40<(kL d t).size then .tuple #[.slice none 0 0,iv 3]else .tuple #[E,iv 0]) ?_ ?_)
  ·show nA prog 63 #[E] T _;apply HV;unfold dN;refine VB A.sl (jB ?_);refine dA (λB=>?_) (λB=>?_)
   ·exact⟨rfl,by rw[if_pos (show 40<(kL d t).size by unfold kL;omega)]⟩
   ·exact⟨rfl,by rw[if_neg (show¬40<(kL d t).size by unfold kL;omega)]⟩
  ·rintro r ao ⟨rfl,rfl⟩;by_cases p:40<(kL d t).size
   ·rw[if_pos p];refine lD ?_;refine mD ?_;exact I (by unfold YF;rw[if_neg (by rw[f];decide),if_neg (λe=>e C),if_neg (by rw[c];decide),if_pos p]) (by decide) G
   ·rw[if_neg p];refine lD ?_;refine mD ?_;have y:YF d t=0:=by unfold YF;rw[if_neg (by rw[f];decide),if_neg (λe=>e C),if_neg (by rw[c];decide),if_neg p]
    exact⟨G,E,by rw[y],Es.some y (A.mono (h.trans U).size)⟩
theorem tW(e:x<9)(y:m4 w i d)(L:sV d)(m:vC d=true)(b:AC s=true)(J:fE d s=true)(t:(kL d s).good)(z:(kL d s).size<=40)(u:(G6 x++s).length<=300):
  CB prog 15 #[i,sv (G6 x++s)] w (mM x (kL d s)):=by
 have V:s.length<=300:=by rw[List.length_append]at u;omega
 apply tZ;unfold YM;refine gA (v:=iv 0) ?_ λB n=>ZF (cA (by decide) ?_)
 ·apply LV;unfold gN;refine gA (OQ y L) λB n=>?_;rw[m];exact TA (cA rfl (HD (jB (cA (decide_eq_false (by omega)) ⟨rfl,n⟩))))
 refine gA (B6 u B) λO R=>?_;rw[gX e b,Yl e b];refine TA (cA rfl ?_);have o:=n.trans R;refine gA (v:=mM x (kL d s)) ?_ λP h=>eD (by rfl) (eD (by rfl) ⟨rfl,o.trans h⟩);apply Y4;unfold MP;refine aA ((FQ 32 rfl (by omega) O).mono ?_);rintro v P ⟨h,g⟩;rw[gX e b]at g;have M:∀x:Fin 9,(gt mU x.val).length<=2:=by decide
 have T:(gt mU x).length<=2:=M ⟨x,e⟩;have S:(gt mU x++[s]).length=(gt mU x).length+1:=by simp
 refine ZA g.sl (HB (by omega) ?_);refine mH g.sl (j:=(gt mU x).length) (by omega) (by omega) ?_;have I:gt (gt mU x++[s]) (gt mU x).length=s:=by simp[gt,List.getD_eq_getElem?_getD]
 rw[I];refine aA ((f0 s (rB.ext y (o.trans h)) m (by omega) b).mono ?_);rintro _ Q ⟨D,N,rfl,A⟩;have l:YF d s=0:=by
  have H:sF s=0:=by unfold sF;rw[if_neg (by omega),b];rfl
  unfold YF;rw[if_neg (by rw[m];decide),if_neg (λE=>E H),if_neg (by rw[J];decide),if_neg (by omega)]
 rw[l]at A⊢;have r:oC Q N (kL d s):=dB.sl A;have a:=g.ext D;refine eD (by rfl) (eD (by rfl) ?_);have F:gt (gt mU x++[s]) 0=gt (gt mU x) 0/\0<(gt mU x).length/\ ¬gt (gt mU x) 0=[101,113,117,97,108]/\(x=5∨x=6->(gt mU x).length=2/\gt (gt mU x++[s]) 1=gt (gt mU x) 1)/\(¬(x=5∨x=6)->(gt mU x).length=1):=by
  have l:x=0∨x=1∨x=2∨x=3∨x=4∨x=5∨x=6∨x=7∨x=8:=by omega
  rcases l with rfl|rfl|rfl|rfl|rfl|rfl|rfl|rfl|rfl<;>simp[gt,mU]
 obtain⟨k,U,K,q,G⟩:=F;refine mH a.sl (j:=0) (by omega) (by omega) ?_;rw[k];refine yB (cA (decide_eq_false K) (ZF (cA (by decide) ?_)));refine ZA a.sl (BA ?_);have p:=h.trans D;by_cases f:x=5∨x=6
 ·refine cA (decide_eq_false (by have:=(q f).1;omega)) ?_;refine mH a.sl (j:=0) (by omega) (by omega) (mH a.sl (j:=1) (by omega) (by omega) ?_);rw[k,(q f).2];refine eC (λC c=>z6 f (rB.ext r c) t z) ?_;exact eD (by rfl) (eD (by rfl) λC c=>⟨rfl,p.trans c⟩)
 ·refine iA (decide_eq_true (by have:=G f;omega)) ?_;refine mH a.sl (j:=0) (by omega) (by omega) ?_;rw[k];exact gA (A6 (by omega) r t z) λC c=>eD (by rfl) (eD (by rfl) ⟨rfl,p.trans c⟩)
theorem bL(h:q∈par K s):q∈s∨q=40∨q=41:=by
 unfold par at h;cases K
 ·exact .inl h
 ·rw[if_pos rfl]at h;rcases List.mem_cons.1 h with h|h
  ·exact .inr (.inl h)
  ·rcases List.mem_append.1 h with h|h
   ·exact .inl h
   ·exact .inr (.inr (by simpa using h))
theorem yK:∀(f:Fm),f.good-> ∀c∈f.body,38<=c.toNat
 | .var v,d,c,h=>by
  have h:c=vl v:=by simpa[Fm.body]using h
  subst h;have d:v<6:=d;have:v=0∨v=1∨v=2∨v=3∨v=4∨v=5:=by omega
  rcases this with rfl|rfl|rfl|rfl|rfl|rfl<;>decide
 | .fls,_,c,h=>by
  have h:c=70:=by simpa[Fm.body]using h
  subst h;decide
 | .and a b,d,c,h=>by
  rcases List.mem_append.1 h with h|h
  ·rcases bL h with h|rfl|rfl
   ·exact yK a d.1 c h
   ·decide
   ·decide
  ·rcases List.mem_cons.1 h with rfl|h
   ·decide
   rcases bL h with h|rfl|rfl
   ·exact yK b d.2 c h
   ·decide
   ·decide
 | .or a b,d,c,h=>by
  rcases List.mem_append.1 h with h|h
  ·rcases bL h with h|rfl|rfl
   ·exact yK a d.1 c h
   ·decide
   ·decide
  ·rcases List.mem_cons.1 h with rfl|h
   ·decide
   rcases bL h with h|rfl|rfl
   ·exact yK b d.2 c h
   ·decide
   ·decide
 | .imp a b,d,c,h=>by
  rw[Fm.body]at h;split at h
  ·split at h
   ·have h:c=84:=by simpa using h
    subst h;decide
   ·rcases List.mem_cons.1 h with rfl|h
    ·decide
    rcases bL h with h|rfl|rfl
    ·exact yK a d.1 c h
    ·decide
    ·decide
  ·rcases List.mem_append.1 h with h|h
   ·rcases bL h with h|rfl|rfl
    ·exact yK a d.1 c h
    ·decide
    ·decide
   ·rcases List.mem_cons.1 h with rfl|h
    ·decide
    ·exact yK b d.2 c h
 | .box a,d,c,h=>by
  rcases List.mem_cons.1 h with rfl|h
  ·decide
  rcases List.mem_cons.1 h with rfl|h
  ·decide
  rcases bL h with h|rfl|rfl
  ·exact yK a d c h
  ·decide
  ·decide
 | .dia a,d,c,h=>by
  rcases List.mem_cons.1 h with rfl|h
  ·decide
  rcases List.mem_cons.1 h with rfl|h
  ·decide
  rcases bL h with h|rfl|rfl
  ·exact yK a d c h
  ·decide
  ·decide
theorem p4(b:r.good):CA r.body=(r.body,[]):=iI λc a e=>by
 have:=yK r b c a;rw[e]at this;exact absurd this (by decide)
theorem uf{f:Fm}(a:f.good):AC f.body=true:=by
 unfold AC;rw[p4 a,nN,OO a];rfl
theorem kl(L:List kF)(a:r.good):fE L r.body=true:=by
 unfold fE;rw[p4 a];rfl
theorem Kg(L:List kF)(a:r.good):kL L r.body=r:=by
 unfold kL Ee;rw[p4 a,nN,OO a]
theorem Dr(a:x<9):(G6 x).length<=10:=by
 have b:∀x:Fin 9,(G6 x.val).length<=10:=by decide
 exact b ⟨x,a⟩
theorem Dt(a:x<9)(b:AC s=true)(c:(G6 x++s).length<=300):zx (G6 x++s)=true:=by
 unfold zx;rw[gX a b,Yl a b,decide_eq_true c];rfl
theorem jo(h:YF d s=0):vC d=true/\s.length<=300/\AC s=true/\fE d s=true/\(kL d s).size<=40:=by
 unfold YF at h;split at h
 ·cases h
 rename_i b;split at h
 ·rename_i a;exact absurd h a
 rename_i a;split at h
 ·cases h
 rename_i c;split at h
 ·cases h
 rename_i e;have a:=lc (Classical.not_not.1 a);exact⟨by simpa using b,a.1,a.2.1,by simpa using c,by omega⟩
theorem Ik(e:vC d=true)(k:s.length<=300)(j:AC s=true)(c:fE d s=true)(b:Y∈QA (CA s)):tK d [s,[112]] Y=0/\N6 d [s,[112]] Y=[0]:=by
 have g:CA [112]=([112],[]):=iI (by decide);have i:AC [112]=true:=uf (f:=.var 0) (show 0<6 by decide);have a:tK d [s,[112]] Y=0:=by
  unfold tK;rw[if_neg (by rw[e];decide),if_neg,if_neg,if_neg]
  ·rw[List.all_eq_true.1 c Y b];decide
  ·simp[j,i]
  ·simp;omega
 refine⟨a,?_⟩;unfold N6;rw[if_pos a];show P9 [s,[112]] Y (0+1+1)=[0];rw[iX,if_neg,iX,if_pos]
 ·rfl
 ·exact b
 ·show¬Y∈QA (CA [112]);rw[g];exactλh=>by cases h
theorem WV(h:∀t∈k,t.length<=x)(a:n<k.length):(k[n]).length<=x:=h _ (List.getElem_mem a)
theorem zo{a:List (Nat×Value)}(L:List jA)(c:Instr.fill (λi=>some (i*1,1)) ((Array.range (x*1)).map (λi=>(Value.cells v)[i%(Value.cells v).size]!)) a=some (yA L).toArray)
  (h:∀b w',b=w.heap.size->bA w w'->GA u w' b (yA L)->t (.slice (some ⟨b,0,none⟩) x x) w'):xB u (Value.cells v) 1 x a w t:=
 ⟨_,c,h _ _ rfl (bA.alloc w _) (GA.new w (yA L).toArray u)⟩
theorem GA.sltX(h:GA u w x (yA k))(a:k.length=n)(b:n<=1000):iM w (.slice (some ⟨x,0,none⟩) n n) k:=Sl.ofBlk (n:=n) h (by rw[AA,a]) (by omega)
theorem Cv{a:Value}
  (h:∀v w',w'.heap.size=w.heap.size+1->bA w w'->dB 3 w.heap.size u w' v 0 []->t v w'):xB u (Value.cells (.agg #[i,U,a])) 3 0 [] w t:=by
 refine⟨_,rfl,h _ _ (by simp) (bA.alloc w _) ?_⟩;exact⟨rfl,.inr ⟨w.heap.size,0,_,rfl,Nat.le_refl _,heap_alloc_new w _,Nat.le_refl _,by simp[maxLen],by simp[show Array.range 0=#[]from rfl],rfl⟩⟩
theorem Iq{a b c:Value}(h:∀q w',q=w.heap.size/\w'.heap.size=q+1->bA w w'->GA u w' q [a,b,c]->t (.slice (some ⟨q,0,none⟩) 1 1) w'):
  xB u (Value.cells (.agg #[v,i,U])) 3 1 [(0,.agg #[a,b,c])] w t:=by
 refine⟨#[a,b,c],?_,h _ _ ⟨rfl,by simp⟩ (bA.alloc w _) (GA.new w #[a,b,c] u)⟩;simp[Instr.fill,Value.cells,show Array.range 3=#[0,1,2]from rfl]
theorem Mv{j:Nat}(a:dB 3 x u w v n y)(C:o=(j:Int))(H:j<n)(G:f<3)(B:vA i=true)
  (h:∀w',dB 3 x u w' v n (y.set (j*3+f) i)->Ch (λc=>v.ownBlock=some c) w w'->l w'):wA 3 v (.int b o) λD=>FA f D λE=>KC w E i l:=by
 subst C;obtain⟨z,⟨-,F⟩|⟨g,d,e,A,r,s,k,m,p,q⟩⟩:=a
 ·omega
 ·subst A;have a:w.ownsRow x u 3 (.slice (some ⟨g,0,none⟩) n d) n y:=⟨z,.inr ⟨g,d,e,rfl,r,s,k,m,p,q⟩⟩
  refine⟨_,_,_,_,_,rfl,rfl,by omega,by omega,?_⟩;rw[Int.toNat_natCast,XD];refine⟨_,rfl,?_⟩;rw[XD,Nat.zero_add];have t:j*3+f<y.length:=by omega
  refine rt ((a.cellAt (j*3+f) (by omega)).trans (List.getElem?_eq_getElem t)) (a.frozenAt _) B ?_;exact h _ (a.stored (j*3+f) i).1 ((PI.setCell w g _ i).ch rfl)
theorem Zs(a:f<n)(h:z (.pointer (some ⟨x,f,none⟩))):wA 1 (.slice (some ⟨x,0,none⟩) n n) (.int b (f:Int)) z:=by
 refine⟨_,_,_,_,_,rfl,rfl,by omega,by omega,?_⟩;rw[Int.toNat_natCast,XD,Nat.zero_add,Nat.mul_one];exact h
theorem Sw(b:∀a,V w a->CB Z W y.toArray a v)(h:z v):XF Z V (.func (.func W) #[] #[]) y w z:=
 ⟨v,λa e=>gA (b a e) λ_ x=>⟨rfl,x⟩,h⟩
theorem P3(a:x<k.length):(yA k)[x]?=some (sv k[x]):=by simp[yA,a]
def xw(k:Nat)(a b:Fm):Fm:=if k=2 then .and a b else if k=3 then .or a b else .imp a b
theorem No(c:x=2∨x=3∨x=4)(a b:Fm):(xw x a b).cells=nd x 0++a.cells++b.cells:=by
 rcases c with rfl|rfl|rfl<;>rfl
theorem rC(k:Nat)(a b:Fm):(xw k a b).size=1+a.size+b.size:=by
 unfold xw;split
 ·rfl
 ·split<;>rfl
theorem CC(k:Nat)(h:r.good)(a:P.good):(xw k r P).good:=by
 unfold xw;split
 ·exact⟨h,a⟩
 ·split<;>exact⟨h,a⟩
theorem jl(a:r.good)(c:r.size<=40):PF r.body=0:=by
 have b:=oD r;have e:=OO a;unfold PF;rw[if_neg (by omega),if_pos (by unfold pK;rw[e];rfl)];rw[show(rd r.body).1=r by rw[e],if_neg (by omega)]
def Tx(t:jA):Prop:=∃f:Fm,f.good/\t=f.body/\f.size<=40
def Z6(L:List kF):Prop:=∀x∈L,x.nm.length<=8/\x.fm.length<=300
theorem Z6.short(h:Z6 d):sV d:=λx a=>by have:=h x a;omega
theorem Z6.snoc(h:Z6 d){y:kF}(b:y.nm.length<=8)(c:y.fm.length<=300):Z6 (d++[y]):=λx a=>by
 rcases List.mem_append.1 a with a|a
 ·exact h x a
 ·rw[List.mem_singleton.1 a];exact⟨b,c⟩
theorem Vg(L:List kF)(x:kF):eE L++x.cs=eE (L++[x]):=by rw[ul];simp[eE]
def vq:List jA:=[[112],[113],[70],[84],[126],[38],[124],[62],[40],[41],[91,93],[60,62],[32],[44],[59],[48],[49],[46],[91],[60],[120],[10]]
theorem ZZ(f:qf w v m){t:jA}(R:t.length<=1000000)(i:Src u w v x a):
  Yu prog 50 #[.pointer (some ⟨x,0,none⟩),sv t] u w v x a λL _=>∃s:jA,L=sv s/\s.length<=t.length+2:=by
 apply R4;unfold GP;refine zo vq (by kernel_rfl) λK N Q A l=>?_;have E:=i.later A;have C:Ch (λc=>c=x) a N:=A.ch (S:=λc=>c=x);have J:¬K=x:=by have:=i.lt;omega
 refine ZA (l.sltX (n:=22) rfl (by decide)) ?_;refine aA ((uA f E _).mono ?_);rintro _ U ⟨⟨y,rfl,q,_⟩,j,o⟩;have q:=q (by decide);have r:y<vq.length:=by omega
 have h:=tA C o;refine mQ ((l.ch o J).sltX (n:=22) rfl (by decide)) r λT I=>?_;refine DD I ?_;have P:(vq[y]).length<=2:=WV (show∀t∈vq,t.length<=2 by decide) r;generalize vq[y]=M at*;refine HD (BA (dA (λB=>?_) (λB=>?_)))
 ·exact⟨⟨M,rfl,by omega⟩,j,h⟩
 refine HD ?_;refine aA ((uA f j _).mono ?_);rintro _ V ⟨⟨k,rfl,p,_⟩,F,G⟩;have p:=p (by omega);have O:k<t.length:=by omega
 have D:=tA h G;refine aA ((uA f F 3).mono ?_);rintro _ W ⟨⟨X,rfl,_,_⟩,e,H⟩;have d:=tA D H;have g:(k:Int)+1=((k+1:Nat):Int):=by omega
 refine BA (dA (λ_=>?_) (λ_=>?_))
 ·refine Cc (by omega) ?_;refine vD (by rw[List.length_take];omega) ?_;refine qA (by omega) ?_;rw[g];refine yO (by omega) ?_;refine vD (by simp only[List.length_append,List.length_take,List.length_drop];omega) ?_;intro z b;exact⟨⟨_,rfl,by simp only[List.length_append,List.length_take,List.length_drop];omega⟩,e.later b,oB d b⟩
 refine BA (dA (λ_=>?_) (λ_=>?_))
 ·refine Cc (by omega) ?_;refine qA (by omega) ?_;rw[g];refine yO (by omega) ?_;refine vD (by simp only[List.length_take,List.length_drop];omega) ?_;intro z b;exact⟨⟨_,rfl,by simp only[List.length_append,List.length_take,List.length_drop];omega⟩,e.later b,oB d b⟩
 ·refine Cc (by omega) ?_;refine vD (by rw[List.length_take];omega) ?_;refine yO (by omega) ?_;refine vD (by simp only[List.length_append,List.length_take,List.length_drop];omega) ?_;intro z b;exact⟨⟨_,rfl,by simp only[List.length_append,List.length_take,List.length_drop];omega⟩,e.later b,oB d b⟩
theorem eY(t:NA≠u)(y:qf w v m)(hS:Src u w v x a):Yu prog 47 #[.pointer (some ⟨x,0,none⟩)] u w v x a λr _=>∃N,r=sv N/\Tx N:=by
 apply P1;unfold qO;refine aA ((uA y hS 3).mono ?_);rintro _ w1 ⟨⟨n1,rfl,ax,_⟩,an,ag⟩;have ax:=ax (by decide);refine qA (by omega) ?_;rw[show(1:Int)+(n1:Int)=((1+n1:Nat):Int)by omega];refine aA ((LE t y (k:=3) (by decide) false (1+n1) an (by omega) (by omega)).mono ?_);rintro va w2 ⟨⟨H,e,sa,ha⟩,aa,av⟩;have ah:=tA ag av;refine aA ((uA y aa 3).mono ?_);rintro _ w3 ⟨⟨n3,rfl,ay,_⟩,ab,ac⟩;have ay:=ay (by decide);have ai:=tA ah ac;have aq:=dB.src ha aa t ac;refine qA (by omega) ?_;rw[show(1:Int)+(n3:Int)=((1+n3:Nat):Int)by omega];refine aA ((LE t y (k:=3) (by decide) false (1+n3) ab (by omega) (by omega)).mono ?_);rintro vb w4 ⟨⟨bg,q,sd,hd⟩,R,ad⟩;have aj:=tA ai ad;have ar:=dB.src aq ab t ad;refine aA ((uA y R 3).mono ?_);rintro _ w5 ⟨⟨L,rfl,az,_⟩,ao,T⟩;have az:=az (by decide);have ak:=tA aj T;have au:=dB.src ar R t T;have aw:=dB.src hd R t T;refine aA ((TG L w5).mono ?_);rintro vv w6 ⟨W,ba⟩;have I:=ao.later W;have al:=oB ak W;refine aA ((uA y I 8).mono ?_);rintro _ V ⟨⟨bl,rfl,_,_⟩,ap,J⟩;have am:=tA al J;have g:oC V va H:=(dB.src (dB.ext au W) I t J).sl;have s:oC V vb bg:=(dB.src (dB.ext aw W) I t J).sl;have S:oC V vv (.var L):=(dB.src ba I t J).sl;have Q:(Fm.var L).good:=show L<6 by omega
 have bm:(Fm.var L).size=1:=rfl
 clear ha aq ar au hd aw ba an aa ab R ao I ag ah ai aj ak al av ac ad T J
 have d:∀{h:World} {k:Nat} {f D:Fm} {o vg:Value} {K:Value->World->Prop},(k=2∨k=3∨k=4)->oC h o f->oC h vg D->f.size<=100->D.size<=100->(∀r i,bA h i->oC i r (xw k f D)->K r i)->cf 120 [iv k,o,vg] h K:=λ{h k f D o vg K} hk z U s1 s2 X=>by
  refine aA ((jC (No hk f D) (rC k f D) z U (by rw[rC];omega)).mono ?_);rintro r i ⟨G,hr⟩;exact X r i G hr.sl
 have nt:∀{h:World} {f:Fm} {o:Value} {K:Value->World->Prop},oC h o f->f.size<=100->(∀r i,bA h i->oC i r (.imp f .fls)->K r i)->cf 119 [o] h K:=λ{h f o K} z bb X=>by
  refine aA ((mJ z (by omega)).mono ?_);rintro r i ⟨G,hr⟩;exact X r i G hr.sl
 have A:∀{h:World} {f:Fm} {o:Value},bA V h->oC h o f->f.good->f.size<=40->cf 48 [o] h λr i=>(∃N,r=sv N/\Tx N)/\Src u w v x i/\Ch (λbe=>be=x) a i:=λ{h f o} G z U bb=>
  gA (AB z U (by omega)) λi bc=>⟨⟨_,rfl,f,U,rfl,bb⟩,ap.later (G.trans bc),oB am (G.trans bc)⟩
 refine BA (dA (λ_=>?_) (λ_=>?_))
 ·refine d (k:=2) (.inl rfl) g s (by omega) (by omega) λE B b l=>?_;refine d (k:=2) (.inl rfl) (rB.ext s b) (rB.ext g b) (by omega) (by omega) λF C c n=>?_;refine d (k:=4) (.inr (.inr rfl)) (rB.ext l c) n (by rw[rC];omega) (by rw[rC];omega) λM O j p=>?_;exact A ((b.trans c).trans j) p (CC 4 (CC 2 e q) (CC 2 q e)) (by simp only[rC];omega)
 refine BA (dA (λ_=>?_) (λ_=>?_))
 ·refine d (k:=3) (.inr (.inl rfl)) g s (by omega) (by omega) λE B b l=>?_;refine d (k:=3) (.inr (.inl rfl)) (rB.ext s b) (rB.ext g b) (by omega) (by omega) λF C c n=>?_;refine d (k:=4) (.inr (.inr rfl)) (rB.ext l c) n (by rw[rC];omega) (by rw[rC];omega) λM O j p=>?_;exact A ((b.trans c).trans j) p (CC 4 (CC 3 e q) (CC 3 q e)) (by simp only[rC];omega)
 refine BA (dA (λ_=>?_) (λ_=>?_))
 ·refine d (k:=4) (.inr (.inr rfl)) s g (by omega) (by omega) λE B b l=>?_;refine d (k:=4) (.inr (.inr rfl)) (rB.ext g b) l (by omega) (by rw[rC];omega) λF C c n=>?_;exact A (b.trans c) n (CC 4 e (CC 4 q e)) (by simp only[rC];omega)
 refine BA (dA (λ_=>?_) (λ_=>?_))
 ·refine d (k:=4) (.inr (.inr rfl)) g s (by omega) (by omega) λE B b l=>?_;refine d (k:=4) (.inr (.inr rfl)) (rB.ext s b) (rB.ext S b) (by omega) (by omega) λF C c n=>?_;refine d (k:=4) (.inr (.inr rfl)) (rB.ext g (b.trans c)) (rB.ext S (b.trans c)) (by omega) (by omega) λM O j p=>?_;refine d (k:=4) (.inr (.inr rfl)) (rB.ext n j) p (by rw[rC];omega) (by rw[rC];omega) λr4 bj P Y=>?_;refine d (k:=4) (.inr (.inr rfl)) (rB.ext l ((c.trans j).trans P)) Y (by rw[rC];omega) (by simp only[rC];omega) λr5 bk ae Z=>?_;exact A ((((b.trans c).trans j).trans P).trans ae) Z (CC 4 (CC 4 e q) (CC 4 (CC 4 q Q) (CC 4 e Q))) (by simp only[rC];omega)
 refine BA (dA (λ_=>?_) (λ_=>?_))
 ·refine nt g (by omega) λE B b l=>?_;have s1:(Fm.imp H .fls).size=1+H.size+1:=rfl;refine nt l (by omega) λF C c n=>?_;have s2:(Fm.imp (.imp H .fls) .fls).size=1+(Fm.imp H .fls).size+1:=rfl;refine d (k:=4) (.inr (.inr rfl)) (rB.ext g (b.trans c)) n (by omega) (by omega) λM O j p=>?_;exact A ((b.trans c).trans j) p (CC 4 e ⟨⟨e,trivial⟩,trivial⟩) (by rw[rC];omega)
 refine BA (dA (λ_=>?_) (λ_=>?_))
 ·refine d (k:=4) (.inr (.inr rfl)) s S (by omega) (by omega) λE B b l=>?_;refine d (k:=4) (.inr (.inr rfl)) (rB.ext g b) l (by omega) (by rw[rC];omega) λF C c n=>?_;have af:=b.trans c;refine d (k:=2) (.inl rfl) (rB.ext g af) (rB.ext s af) (by omega) (by omega) λM O j p=>?_;have bd:=af.trans j;refine d (k:=4) (.inr (.inr rfl)) p (rB.ext S bd) (by rw[rC];omega) (by omega) λr4 bj P Y=>?_;refine d (k:=4) (.inr (.inr rfl)) (rB.ext n (j.trans P)) Y (by simp only[rC];omega) (by simp only[rC];omega) λr5 bk ae Z=>?_;exact A ((bd.trans P).trans ae) Z (CC 4 (CC 4 e (CC 4 q Q)) (CC 4 (CC 2 e q) Q)) (by simp only[rC];omega)
 refine BA (dA (λ_=>?_) (λ_=>?_))
 ·refine d (k:=2) (.inl rfl) g g (by omega) (by omega) λE B b l=>?_;refine d (k:=3) (.inr (.inl rfl)) l (rB.ext s b) (by rw[rC];omega) (by omega) λF C c n=>?_;refine d (k:=4) (.inr (.inr rfl)) (rB.ext g (b.trans c)) n (by omega) (by simp only[rC];omega) λM O j p=>?_;exact A ((b.trans c).trans j) p (CC 4 e (CC 3 (CC 2 e e) q)) (by simp only[rC];omega)
 ·refine aA ((LE t y (k:=2) (by decide) false 6 ap (by omega) (by omega)).mono ?_);rintro o B ⟨⟨f,gf,sf,z⟩,bh,bi⟩;refine gA (AB z.sl gf (by omega)) λC c=>?_;exact⟨⟨_,rfl,f,gf,rfl,by omega⟩,bh.later c,oB (tA am bi) c⟩
def Ot:List jA:=[[97],[98],[114,117,108,101],[120]]
theorem yw{x:kF}(a:GA 86 w f x.cs):rB 3 w (.slice (some ⟨f,0,none⟩) 1 1) 1 x.cs:=(dB.ofBlk (k:=3) (lo:=0) (n:=1) a (Nat.zero_le _) rfl (by omega)).sl
theorem Jo(x:kF):∀u∈x.cs,vA u=true:=λu a=>Xi [x] u (by simpa[eE]using a)
structure um(e:TypeId)(w0 w:World)(vc:Value)(b:Nat)(L:List kF)(v:Value)(w':World):Prop where
 src:Src e w0 vc b w'
 ch:Ch (λc=>c=b) w w'
 own:Js w.heap.size w' v L
 tiny:Z6 L
 low:w0.heap.size<=w.heap.size
theorem um.later{c e:World}(h:um u w a v x d i c)(b:bA c e):um u w a v x d i e:=⟨h.src.later b,oB h.ch b,dB.ext h.own b,h.tiny,h.low⟩
theorem um.draw(g:86≠u){e b:World}(h:um u w a v x d i e)(f:Src u w v x b)(k:Ch (λc=>c=x) e b):um u w a v x d i b:=⟨f,tA h.ch k,dB.src h.own h.src g k,h.tiny,h.low⟩
theorem um.own_ch(j:86≠u){f e:World}(h:um u w a v x d i f)(k:Ch (λc=>i.ownBlock=some c) f e):Src u w v x e/\Ch (λc=>c=x) a e:=
 ⟨h.src.ch k (λg=>h.own.ne_src h.src j g) λc b=>by have:=(h.own.blk c b).1;have:=h.low;omega,h.ch.trans k λc b=>.inr (h.own.blk c b).1⟩
theorem um.app(B:86≠u){e:World}{x:kF}(b:um u w a i n d U e)(hL:d.length<=100)(r:GA 86 e f x.cs)(p:x.nm.length<=8)(q:x.fm.length<=300)
  (o:∀v w',um u w a i n (d++[x]) v w'->(∀c g,GA fA e c g->GA fA w' c g)->t v w'):nD prog (Builtin.append_ #[wM,wM] wM #[U,.slice (some ⟨f,0,none⟩) 1 1]) e t:=by
 have A:a.heap.size<=e.heap.size:=b.ch.size;refine o7 zi yh rfl (by omega) b.own (yw (x:=x) r) (Jo x) (by omega) (by omega) A λD k C z _=>?_;have j:Ch (λc=>U.ownBlock=some c) e k:=sE z λc s=>s;obtain⟨m,l⟩:=b.own_ch B j;refine o D k ⟨m,l,?_,b.tiny.snoc p q,b.low⟩ λc g h=>h.ch j λy=>b.own.ne_blk h (by decide) y;show dB 3 _ _ _ _ (d++[x]).length _;rw[List.length_append,<-Vg];exact C
theorem N9(A:NA≠u)(c:86≠u)(e:qf w U m)(G:Src u w U C a):
  Yu prog 21 #[.pointer (some ⟨C,0,none⟩)] u w U C a λbv d=>∃L:List kF,Z6 L/\Js a.heap.size d bv L:=by
 apply Ob;unfold rV;have br:=G.ext.size;refine Cv λu0 w1 _ x1 bt=>?_;have bg:=G.later x1;refine zo Ot (by kernel_rfl) λO w2 hq x2 hT=>?_;have g:¬O=C:=by have:=bg.lt;omega
 have T:=x1.trans x2;refine MB (λs:Value×Nat=>[s.1,iv (s.2:Int)]) (λs d=>s.2<=4/\GA fA d O (yA Ot)/\ ∃L,L.length<=s.2/\um u w a U C L s.1 d) (λs=>4-s.2) (u0,0) rfl ⟨Nat.zero_le _,hT,[],Nat.le_refl _,G.later T,T.ch (S:=λE=>E=C),dB.ext bt x2,(λx q=>by cases q),br⟩ ?_;rintro⟨Q,i⟩ w3 Kn ⟨hi,af,L,ab,h⟩ aa;have hi:i<=4:=hi;have ab:L.length<=i:=ab;have h:um u w a U C L Q w3:=h;intro _;simp only[gx];refine ZA (af.sltX (n:=4) rfl (by decide)) ?_;refine jB (dA (λh4=>?_) (λ_=>?_))
 ·have M:i<4:=by have:Ot.length=4:=rfl;omega
  refine aA ((uA e h.src 3).mono ?_);rintro _ w4 ⟨⟨x,rfl,_,_⟩,r,t⟩;have b:=h.draw c r t;have ag:=af.ch t g;refine jB (dA (λ_=>?_) (λ_=>?_))
  ·refine aA ((uA e r 7).mono ?_);rintro _ w5 ⟨⟨R,rfl,hy,_⟩,ac,ai⟩;have hy:=hy (by omega);have bb:=b.draw c ac ai;refine qA (by omega) ?_;rw[show(1:Int)+(R:Int)=((1+R:Nat):Int)by omega];refine aA ((uA e ac 2).mono ?_);rintro _ w6 ⟨⟨cn,rfl,_,_⟩,ad,aj⟩;have bc:=bb.draw c ad aj;have bm:=(ag.ch ai g).ch aj g;refine BA ?_;refine aA ((LE A e (k:=2) (by decide) _ (1+R) ad (by omega) (by omega)).mono ?_);rintro D w7 ⟨⟨aw,ga,sa,ha⟩,H,ak⟩;have bd:=bc.draw c H ak;have bn:=bm.ch ak g;refine aA ((uA e H 3).mono ?_);rintro _ w8 ⟨⟨n,rfl,_,_⟩,ae,K⟩;have Y:=bd.draw c ae K;have ah:=bn.ch K g;have bp:=dB.src ha H A K;refine BA ?_;refine WB (λxs d=>∃D f,xs=[D]/\f.good/\f.size<=40/\iL 0 d D f/\um u w a U C L Q d/\GA fA d O (yA Ot)) (λcb Z=>?_) ?_
   ·refine dA (λ_=>?_) (λ_=>Z _ _ ⟨D,aw,rfl,ga,by omega,dB.mono bp (Nat.zero_le _),Y,ah⟩);refine aA ((eY A e ae).mono ?_);rintro _ w9 ⟨⟨ao,rfl,f,p,rfl,P⟩,bi,al⟩;have be:=Y.draw c bi al;have bo:=ah.ch al g;refine aA ((TD f.body w9).mono ?_);rintro _ ce ⟨aq,bw,rfl,bu⟩;refine lD (mD ?_);have y:=bu (jl p P);rw[OO p]at y;exact Z _ _ ⟨bw,f,rfl,p,P,dB.mono y (Nat.zero_le _),be.later aq,bo.ext aq⟩
   rintro _ cg ⟨vf,f,rfl,p,P,y,W,I⟩;intro _;simp only[gx];have cd:(Ot[i]).length<=4:=WV (show∀ao∈Ot,ao.length<=4 by decide) M;have am:(yA Ot)[i]?=some (sv Ot[i]):=P3 M;generalize Ot[i]=o at*;refine⟨λE=>E=C,Zs M (mA I (i:=i) (v:=sv o) am ⟨λd F=>mA (I.ch F g) (i:=i) (v:=sv o) am rfl,?_⟩)⟩;refine Sw (λd F=>AB (dB.src y W.src A F).sl p (by omega)) λch ar=>?_;have X:=W.later ar;have bj:=I.ext ar;refine aA ((uA e X.src 4).mono ?_);rintro _ ci ⟨⟨N,rfl,z,_⟩,bh,J⟩;have z:=z (by omega);have ba:=X.draw c bh J;have bk:=bj.ch J g;refine⟨J,d9 (by omega) ?_⟩;have cc:=oD f;refine GD (cs:=#[sv o,sv f.body,iv ((N:Int)/3)]) (by simp[Instr.fill,Value.cells]) ?_;intro cj bz;refine Iq λax ck hd ca ay=>?_;intro cl au;have V:=(bz.trans ca).trans au;refine(ba.later V).app c (x:=⟨o,f.body,(N:Int)/3⟩) (by omega) (ay.ext au) (by show o.length<=8;omega) (by show f.body.length<=300;omega) λap bx l bl=>?_;intro cm av;refine qA (by omega) ?_;exact aa (ap,i+1) _ ⟨by show i+1<=4;omega,(bl _ _ (bk.ext V)).ext av,L++[⟨o,f.body,(N:Int)/3⟩],by show(L++[_]).length<=i+1;rw[List.length_append];show L.length+1<=i+1;omega,l.later av⟩ (by show 4-(i+1)<4-i;omega)
  ·refine qA (by omega) ?_;exact aa (Q,i+1) _ ⟨by show i+1<=4;omega,ag,L,by show L.length<=i+1;omega,b⟩ (by show 4-(i+1)<4-i;omega)
 ·refine aA ((uA e h.src 30).mono ?_);rintro _ w4 ⟨⟨x,rfl,_,_⟩,r,t⟩;have b:=h.draw c r t;refine BA (dA (λ_=>?_) (λ_=>?_))
  ·refine GD (cs:=#[sv [97],sv [112],iv 0]) (by simp[Instr.fill,Value.cells]) ?_;refine Iq λax w5 hd x5 az=>?_;refine(b.later x5).app c (x:=⟨[97],[112],0⟩) (by omega) az (by decide) (by decide) λap bx l _=>?_;exact⟨⟨_,l.tiny,l.own⟩,l.src,l.ch⟩
  refine BA (dA (λ_=>?_) (λ_=>⟨⟨L,b.tiny,b.own⟩,b.src,b.ch⟩));refine VB b.own.sl (jB (dA (λB=>?_) (λ_=>⟨⟨L,b.tiny,b.own⟩,b.src,b.ch⟩)));have B:0<L.length:=by omega
  refine Mv (f:=1) (j:=0) b.own rfl B (by decide) rfl λw5 an bq=>?_;obtain⟨gS,gC⟩:=b.own_ch c bq;rw[d7 [40,112,41] B]at an;refine⟨⟨L.set 0 {gt L 0 with fm:=[40,112,41]},λx q=>?_,?_⟩,gS,gC⟩
  ·rcases List.mem_or_eq_of_mem_set q with q|rfl
   ·exact b.tiny x q
   ·refine⟨?_,by show(3:Nat)<=300;decide⟩;have z:gt L 0∈L:=by rw[LA B];exact List.getElem_mem _
    exact(b.tiny _ z).1
  ·show dB 3 _ _ _ _ (L.set 0 _).length _;rw[List.length_set];exact an
def Rl:List jA:=[[36,97,62],[36,98,124],[91,93,36,97,38],[126,36,114,117,108,101,62],[60,62,36,120,124]]
def im:List jA:=[[97],[98],[114,117,108,101],[120],[110,111,110,101]]
theorem lU(ad:NA≠u)(g:qf w U m){b:Nat}{o:World}(hS:Src u w U b o)(ae:Bool):
  Yu prog 22 #[.pointer (some ⟨b,0,none⟩),.bool ae] u w U b o λck _=>∃t:jA,ck=sv t/\t.length<=100:=by
 apply MV;unfold NK;refine aA ((uA g hS 5).mono ?_);rintro _ w1 ⟨⟨dy,rfl,_,_⟩,G,H⟩;have Q:∀{c:World} {z:Nat},z<2->Src u w U b c->Ch (λd=>d=b) o c-> ∀{K:Value->World->Prop},(∀(t:jA) e,t.length<=10->Src u w U b e->Ch (λd=>d=b) o e->bA c e->K (sv t) e)->
   cf 49 [iv z] c λcn e=>Ch (λd=>d=b) c e/\XF prog (Ch λd=>d=b) (.func (.func 48) #[] #[]) [cn] e λco=>K co e:=by
  intro c z j T bm K hK;have hg:(Fm.var z).good:=show z<6 by omega
  refine aA ((TG z c).mono ?_);rintro v e ⟨B,hv⟩;have ap:=T.later B;refine⟨B.ch (S:=λd=>d=b),Sw (λA h=>AB (dB.src hv ap ad h).sl hg (show(1:Nat)<=1099511627776 by decide)) ?_⟩;have av:=oD (.var z);have cz:(Fm.var z).size=1:=rfl;exact hK _ _ (by omega) ap (oB bm B) B
 have af:∀{c:World} {y:Nat},y<5->Src u w U b c-> ∀{K:Value->World->Prop} {z:Value} {ps:List (Nat×Value)},Instr.fill (λi=>some (i*1,1)) ((Array.range (5*1)).map (λi=>(Value.cells z)[i%(Value.cells z).size]!)) ps=some (yA Rl).toArray->(∀(s:jA) e,s.length<=7->bA c e->K (sv s) e)->
   xB fA (Value.cells z) 1 5 ps c λcm e=>Ch (λd=>d=b) c e/\wA 1 cm (iv y) λaz=>kA e az λba=>(∀A,Ch (λd=>d=b) e A->kA A az λcl=>cl=ba)/\K ba e:=by
  intro c y f T K z ps hf hK;have J:y<Rl.length:=f;refine zo Rl hf λL e hq B C=>⟨B.ch (S:=λd=>d=b),?_⟩
  have D:¬L=b:=by have:=T.lt;omega
  have O:(Rl[y]).length<=7:=WV (show∀t∈Rl,t.length<=7 by decide) J;have r:(yA Rl)[y]?=some (sv Rl[y]):=P3 J;generalize Rl[y]=s at*;exact Zs f (mA C (i:=y) (v:=sv s) r ⟨λA h=>mA (C.ch h D) (i:=y) (v:=sv s) r rfl,hK s e O B⟩)
 refine BA ?_;refine WB (λn c=>∃t:jA,n=[sv t]/\t.length<=90/\Src u w U b c/\Ch (λd=>d=b) o c) (λJ2 al=>?_) ?_
 ·refine dA (λ_=>al _ _ ⟨[36,97],rfl,by decide,G,H⟩) (λ_=>BA ?_);refine WB (λn c=>∃t:jA,n=[sv t]/\t.length<=90/\Src u w U b c/\Ch (λd=>d=b) o c) (λJ4 an=>?_) (λn w5 h=>by obtain⟨t,rfl,h⟩:=h;exactλ_=>al _ _ ⟨t,rfl,h⟩);refine dA (λ_=>?_) (λ_=>BA ?_)
  ·refine⟨λd=>d=b,λw7 x7=>?_⟩;have p:=G.later x7;have ak:=oB H x7;have M:∀{s t:jA} {c e:World},s.length<=7->t.length<=10->Src u w U b c->Ch (λd=>d=b) o c->bA c e->J4 [sv (s++t)] e:=λ{s t c e} h1 h2 h3 h4 h5=>
    an _ _ ⟨_,rfl,by rw[List.length_append];omega,h3.later h5,oB h4 h5⟩
   refine⟨?_,?_⟩
   ·refine zo Rl (by kernel_rfl) λL w8 hq l C=>⟨l.ch (S:=λd=>d=b),λw9 F=>?_⟩
    have D:¬L=b:=by have:=p.lt;omega
    have aa:=p.later (l.trans F);have bz:=oB ak (l.trans F);refine aA ((uA g aa 5).mono ?_);rintro _ cp ⟨⟨y,rfl,f,_⟩,V,I⟩;have f:y<5:=by have:=f (by omega);omega
    have bn:=tA bz I;have au:=(C.ext F).ch I D;have J:y<Rl.length:=f;have O:(Rl[y]).length<=7:=WV (show∀t∈Rl,t.length<=7 by decide) J;have r:(yA Rl)[y]?=some (sv Rl[y]):=P3 J;generalize Rl[y]=s at*;refine Zs f (mA au (i:=y) (v:=sv s) r ⟨λA h=>mA (au.ch h D) (i:=y) (v:=sv s) r rfl,λcr bb=>?_⟩);refine aA ((uA g (V.later bb) 2).mono ?_);rintro _ cs ⟨⟨z,rfl,j,_⟩,W,N⟩;have j:z<2:=by have:=j (by omega);omega
    have bp:=tA (oB bn bb) N;refine⟨N,λdb bc=>?_⟩;refine Q j (W.later bc) (oB bp bc) λt dc q cb bq dz=>?_;exact vD (by omega) λdd ct=>M O q cb bq ct
   refine aA ((uA g p 5).mono ?_);rintro _ de ⟨⟨y,rfl,f,_⟩,cc,cj⟩;have f:y<5:=by have:=f (by omega);omega
   have br:=tA ak cj;intro df bd;have X:=cc.later bd;have ai:=oB br bd;refine⟨?_,?_⟩
   ·refine af f X (by kernel_rfl) λs dg E be=>λdh bg=>?_;refine aA ((uA g (X.later (be.trans bg)) 2).mono ?_);rintro _ di ⟨⟨z,rfl,j,_⟩,cd,aw⟩;have j:z<2:=by have:=j (by omega);omega
    have bt:=tA (oB ai (be.trans bg)) aw;refine⟨aw,λdj bh=>?_⟩;refine Q j (cd.later bh) (oB bt bh) λt dk q ce bu ea=>?_;exact vD (by omega) λdl cu=>M E q ce bu cu
   refine aA ((uA g X 2).mono ?_);rintro _ dm ⟨⟨z,rfl,j,_⟩,cg,ax⟩;have j:z<2:=by have:=j (by omega);omega
   have bv:=tA ai ax;refine⟨ax,λdn bi=>?_⟩;have Y:=cg.later bi;have aj:=oB bv bi;refine⟨?_,?_⟩
   ·refine af f Y (by kernel_rfl) λs dq E bj=>λdr bk=>?_;refine Q j (Y.later (bj.trans bk)) (oB aj (bj.trans bk)) λt ds q ch bw eb=>?_;exact vD (by omega) λdt cv=>M E q ch bw cv
   ·refine Q j Y aj λt du q ar bx ec=>λdv ag=>?_;refine af f (ar.later ag) (by kernel_rfl) λs dw E bl=>?_;exact vD (by omega) λdx cw=>M E q (ar.later (ag.trans bl)) (oB bx (ag.trans bl)) cw
  refine WB (λn c=>∃t:jA,n=[sv t]/\t.length<=90/\Src u w U b c/\Ch (λd=>d=b) o c) (λcx am=>?_) (λn w5 h=>by obtain⟨t,rfl,h⟩:=h;exactλ_=>an _ _ ⟨t,rfl,h⟩);refine dA (λ_=>?_) (λ_=>BA ?_)
  ·refine aA ((uA g G 6).mono ?_);rintro _ A ⟨⟨y,rfl,f,_⟩,Z,ab⟩;have f:=f (by omega);refine qA (by omega) ?_;rw[show(1:Int)+(y:Int)=((1+y:Nat):Int)by omega];refine aA ((LE ad g (k:=2) (by decide) ae (1+y) Z (by omega) (by omega)).mono ?_);rintro va w7 ⟨⟨a,R,sa,ha⟩,p,ac⟩;refine gA (AB ha.sl R (by omega)) λw8 l=>?_;have av:=oD a;exact am _ _ ⟨a.body,rfl,by omega,p.later l,oB (tA (tA H ab) ac) l⟩
  refine WB (λn c=>∃t:jA,n=[sv t]/\t.length<=90/\Src u w U b c/\Ch (λd=>d=b) o c) (λcy ao=>?_) (λn w5 h=>by obtain⟨t,rfl,h⟩:=h;exactλ_=>am _ _ ⟨t,rfl,h⟩);refine dA (λ_=>ao _ _ ⟨[36,97,62,36,98],rfl,by decide,G,H⟩) (λ_=>?_);refine aA ((uA g G 5).mono ?_);rintro _ A ⟨⟨y,rfl,f,_⟩,Z,ab⟩;have f:=f (by omega);refine qA (by omega) ?_;rw[show(1:Int)+(y:Int)=((1+y:Nat):Int)by omega];refine aA ((LE ad g (k:=2) (by decide) ae (1+y) Z (by omega) (by omega)).mono ?_);rintro va w7 ⟨⟨a,R,sa,ha⟩,p,ac⟩;refine gA (AB ha.sl R (by omega)) λw8 l=>?_;have av:=oD a;refine vD (a:=[40]) (by simp only[List.length_cons,List.length_nil];omega) ?_;refine vD (b:=[41,62,36]) (by simp only[List.length_append,List.length_cons,List.length_nil];omega) ?_;refine zo im (by kernel_rfl) λL w9 hq F C=>?_;have aa:=p.later (l.trans F);have D:¬L=b:=by have:=(p.later l).lt;omega
  refine aA ((uA g aa 5).mono ?_);rintro _ cp ⟨⟨x,rfl,P,_⟩,V,I⟩;have P:x<5:=by have:=P (by omega);omega
  have ay:x<im.length:=P;have O:(im[x]).length<=4:=WV (show∀t∈im,t.length<=4 by decide) ay;have r:(yA im)[x]?=some (sv im[x]):=P3 ay;generalize im[x]=s at*;refine Zs P (mA (C.ch I D) (i:=x) (v:=sv s) r ?_);refine vD (by simp only[List.length_append,List.length_cons,List.length_nil];omega) ?_;exact ao _ _ ⟨_,rfl,by simp only[List.length_append,List.length_cons,List.length_nil];omega,V,tA (oB (tA (tA H ab) ac) (l.trans F)) I⟩
 rintro _ da ⟨t,rfl,q,ca,bo⟩;intro _;simp only[gx];refine aA ((uA g ca 30).mono ?_);rintro _ cr ⟨⟨y,rfl,_,_⟩,aq,ci⟩;have ah:=tA bo ci;refine BA (dA (λ_=>?_) (λ_=>⟨⟨t,rfl,by omega⟩,aq,ah⟩));refine aA ((ZZ g (t:=t) (by omega) aq).mono ?_);rintro _ cs ⟨⟨s,rfl,E⟩,W,N⟩;exact⟨⟨s,rfl,by omega⟩,W,tA ah N⟩
theorem zL(a:qf w v m):nA prog 5 #[v] w λr c=>bA w c/\ ∃b t L,r= .tuple #[b,sv t]/\Js w.heap.size c b L/\Z6 L/\t.length<=200:=by
 apply oM;unfold xG;refine aA ((a6 a).mono ?_);rintro _ x ⟨s,rfl,e⟩;refine aA ((N9 (by decide) (by decide) a e).mono ?_);rintro b y ⟨⟨L,hL,i⟩,f,u⟩;refine aA ((lU (by decide) a f true).mono ?_);rintro _ z ⟨⟨t,rfl,h⟩,g,n⟩;have j:=dB.src i f (by decide) n;refine aA ((uA a g 12).mono ?_);rintro _ p ⟨⟨A,rfl,_,_⟩,l,o⟩;have k:=dB.mono (dB.src j g (by decide) o) e.ext.size;refine BA ?_;refine WB (λq c=>∃t:jA,q=[sv t]/\t.length<=200/\c=p) (λJ d=>?_) ?_
 ·exact dA (λ_=>d _ _ ⟨[40,36,97,38,36,98,41,62,40,36,97,124,36,98,41,38,36,114,117,108,101],rfl,by decide,rfl⟩) (λ_=>d _ _ ⟨t,rfl,by omega,rfl⟩)
 rintro _ _ ⟨t,rfl,h,rfl⟩;intro _;exact⟨l.ext,b,t,L,rfl,k,hL,h⟩
abbrev Rk(a:Nat)(w:World)(v:Value)(c:Int)(f:Fm):Prop:=dB 2 a NA w v (kf c f).1 (kf c f).2
theorem Rk.none(b:Nat)(w:World)(f:Fm)(a:¬o=0):Rk b w (.slice none 0 0) o f:=by
 unfold Rk kf;rw[if_neg a];exact dB.nil _ _ _ _
theorem Rk.some(a:o=0)(h:iL x w v r):Rk x w v o r:=by
 unfold Rk kf;rw[if_pos a];exact h
theorem dP {lo:Nat} {v0:Value} {L:List kF} (t:jA) {w:World} (hs:Js lo w v0 L) (hsh:sV L):nA Tryz.prog 6 #[v0,sv t] w fun r w'=>bA w w' ∧ ∃ u,r = .tuple #[u,.int .i64 (YF L t)] ∧ Rk w.heap.size w' u (YF L t) (kL L t):=by
 apply PP;unfold UH
 have fail:∀ {c:Int} {w':World},YF L t = c → ¬ c = 0 → bA w w' → bA w w' ∧ ∃ u,Value.tuple #[.slice none 0 0,.int .i64 c] = .tuple #[u,.int .i64 (YF L t)] ∧ Rk w.heap.size w' u (YF L t) (kL L t):=fun {c w'} e hc hx=>
  ⟨hx,_,by rw [e],Rk.none _ _ _ (by rw [e];exact hc)⟩
 refine gA (jK hs.sl hsh) fun w1 x1=>?_
 refine TA ?_
 cases hok:vC L
 ·exact iA rfl (fail (by unfold YF;rw [if_pos hok]) (by decide) x1)
 refine cA rfl ?_
 refine gA (cJ t w1) fun w2 x2=>?_
 have x2:=x1.trans x2
 refine ZF ?_
 refine dA (fun h=>?_) (fun h=>?_)
 ·exact fail (by unfold YF;rw [if_neg (by rw [hok];decide),if_pos h]) h x2
 have hc0:sF t = 0:=Classical.not_not.1 h
 obtain ⟨hl,he,-⟩:=lc hc0
 refine fF rfl rfl fun q w3 hq x3 hQ=>?_
 have x3:=x2.trans x3
 refine aA ((EO (T:=[t]) (hs.ext x3) hok (Sl.ofBlk (n:=1) hQ rfl (by decide)) (by simp) (fun s hs'=>by simp at hs';subst hs';exact ⟨hl,he⟩)).mono ?_)
 rintro r w4 ⟨x4,g1,g2⟩
 have x4':=x3.trans x4
 simp only [List.any_cons,List.any_nil,Bool.or_false,List.map_cons,List.map_nil] at g1 g2
 cases hkn:fE L t
 ·rw [hkn] at g1
  have g1:=g1 rfl
  subst g1
  refine lD ?_
  refine mD ?_
  refine ZF ?_
  refine iA (by decide) ?_
  exact fail (by unfold YF;rw [if_neg (by rw [hok];decide),if_neg (fun e=>e hc0),if_pos hkn]) (by decide) x4'
 rw [hkn] at g2
 obtain ⟨g3,g4⟩:=g2 rfl
 by_cases hbig:40 < (kL L t).size
 ·have g3:=g3 (decide_eq_true hbig)
  subst g3
  refine lD ?_
  refine mD ?_
  refine ZF ?_
  refine iA (by decide) ?_
  exact fail (by unfold YF;rw [if_neg (by rw [hok];decide),if_neg (fun e=>e hc0),if_neg (by rw [hkn];decide),if_pos hbig]) (by decide) x4'
 ·obtain ⟨u,vs,rfl,ho,hf⟩:=g4 (decide_eq_false hbig)
  have hc:YF L t = 0:=by unfold YF;rw [if_neg (by rw [hok];decide),if_neg (fun e=>e hc0),if_neg (by rw [hkn];decide),if_neg hbig]
  refine lD ?_
  refine mD ?_
  refine ZF ?_
  refine cA (by decide) ?_
  obtain ⟨v,hv1,hv2⟩:=hf.2 0 (by simp)
  have hvl:vs.length = 1:=hf.1
  refine pP (j:=0) ho.sl (by decide) (by omega) fun p hp=>?_
  have hp:w4.cell? p = some v:=hp.trans hv1
  refine DD hp ?_
  exact ⟨x4',v,by rw [hc],Rk.some hc (hv2.mono x3.size)⟩
theorem kP(t:jA)(J:m4 w i d)(ah:sV d):nA prog 7 #[i,sv t] w λr a=>bA w a/\ ∃u,r= .tuple #[u,iv (YF d t)]/\Rk w.heap.size a u (YF d t) (kL d t):=by
 apply bQ;unfold fI;have o:∀{B:Int} {a:World},YF d t=B-> ¬B=0->bA w a->bA w a/\ ∃u,Value.tuple #[.slice none 0 0,iv B]= .tuple #[u,iv (YF d t)]/\Rk w.heap.size a u (YF d t) (kL d t):=λ{B a} e D hx=>
  ⟨hx,_,by rw[e],Rk.none _ _ _ (by rw[e];exact D)⟩
 refine gA (v:=iv (if vC d=false then 1 else if 300<t.length then 3 else 0)) ?_ λV f=>?_
 ·apply LV;unfold gN;refine gA (OQ J ah) λV f=>?_;refine TA ?_;cases b:vC d
  ·exact iA rfl ⟨by first|trivial|rfl,f⟩
  ·refine cA rfl ?_;rw[if_neg (by decide)];refine HD (jB ?_);refine dA (λh=>?_) (λh=>?_)
   ·rw[if_pos (by omega)];exact⟨by first|trivial|rfl,f⟩
   ·rw[if_neg (by omega)];exact⟨by first|trivial|rfl,f⟩
 refine ZF ?_;cases b:vC d
 ·rw[if_pos rfl];exact iA (by decide) (o (by unfold YF;rw[if_pos b]) (by decide) f)
 rw[if_neg (by decide)];by_cases y:300<t.length
 ·rw[if_pos y];refine iA (by decide) (o ?_ (by decide) f);have:sF t=3:=by unfold sF;rw[if_pos y]
  unfold YF;rw[if_neg (by rw[b];decide),if_pos (by rw[this];decide),this]
 rw[if_neg y];refine cA (by decide) ?_;refine gA (EL (by omega) V) λw2 G=>?_;have G:=f.trans G;refine TA ?_;cases I:AC t
 ·refine iA rfl (o ?_ (by decide) G);have:sF t=6:=by unfold sF;rw[if_neg y,I];rfl
  unfold YF;rw[if_neg (by rw[b];decide),if_pos (by rw[this];decide),this]
 refine cA rfl ?_;have H:sF t=0:=by unfold sF;rw[if_neg y,I];rfl
 have P:=lI b;refine aA (nA.mono (R:=λr a=>bA w a/\ ∃u,r= .tuple #[u,iv (YF d t)]/\Rk w.heap.size a u (YF d t) (kL d t)) ?_ λr a ⟨x,u,e,h⟩=>by subst e;exact lD (mD ⟨x,u,rfl,h⟩));apply dQ;unfold XJ;refine aA ((oJ (by omega) w2).mono ?_);rintro r L ⟨x3,vp,vn,rfl,hp,T⟩;have aj:=G.trans x3;refine lD ?_;refine mD ?_;have am:(QA (CA t)).length<=t.length:=by rw[show(QA (CA t)).length=(CA t).2.length from List.length_map _];exact mN t
 refine PH λai w4 an x4 af=>?_;refine MB (λs:Value×Nat=>[s.1,iv (s.2:Int)]) (λs a=>s.2<=(QA (CA t)).length/\bA L a/\Ow L.heap.size fA a s.1 (yA (((QA (CA t)).take s.2).map (XK d)))/\ ∀j,j<s.2->zR d (gt (QA (CA t)) j)=true) (λs=>(QA (CA t)).length-s.2) (ai,0) rfl ⟨Nat.zero_le _,x4,af,λj c=>absurd c (Nat.not_lt_zero j)⟩ ?_;rintro⟨u,k⟩ w5 Kn ⟨S,l,z,E⟩ aa;have S:k<=(QA (CA t)).length:=S;have z:Ow L.heap.size fA w5 u (yA (((QA (CA t)).take k).map (XK d))):=z;have E:∀j,j<k->zR d (gt (QA (CA t)) j)=true:=E;have m:=aj.trans l;intro _;simp only[gx];refine ZA (T.ext l).sl ?_;refine jB ?_;refine dA (λh=>?_) (λh=>?_)
 ·refine mH (T.ext l).sl rfl (by omega) ?_;refine aA ((NQ (n:=gt (QA (CA t)) k) (J.ext m)).mono ?_);rintro r w6 ⟨A,ao,aq,rfl,O⟩;refine lD ?_;refine mD ?_;refine TA ?_;have K:=O.2.2 P;cases p:zR d (gt (QA (CA t)) k)
  ·rw[K,p];refine iA rfl (o ?_ (by decide) (m.trans A));have g:fE d t=false:=by
    rw[Bool.eq_false_iff];intro e;have:=List.all_eq_true.1 e _ (List.getElem_mem (show k<(QA (CA t)).length by omega));rw[<-LA,p]at this;cases this
   unfold YF;rw[if_neg (by rw[b];decide),if_neg (λe=>e H),if_pos g]
  ·obtain⟨Q,ae⟩:=O.2.1 (K.trans p);rw[K,p];refine cA rfl ?_;refine yx (J.ext (m.trans A)) rfl Q ?_;have U:=z.ext A;have al:(yA (((QA (CA t)).take k).map (XK d))).length<=300:=by rw[AA,List.length_map,List.length_take];omega
   refine nT IB EB rfl U rfl (by omega) (by omega) (by have:=(l.trans A).size;omega) λu' W ag ab=>?_;refine qA (by omega) ?_;refine aa (u',k+1) _ ⟨by show k+1<=_;omega,(l.trans A).grown ab λZ hb=>(U.blk Z hb).1,?_,λj c=>?_⟩ (by show(QA (CA t)).length-(k+1)<(QA (CA t)).length-k;omega)
   ·show Ow _ _ _ _ (yA (((QA (CA t)).take (k+1)).map (XK d)));rw[List.take_succ_eq_append_getElem (by omega),List.map_append,<-LA (by omega),List.map_singleton,T9 P Q ae,<-uG];exact ag
   ·have c:j<k+1:=c;by_cases ac:j=k
    ·subst ac;exact p
    ·exact E j (by omega)
 ·have ad:k=(QA (CA t)).length:=by omega
  subst ad;rw[List.take_length]at z;have g:fE d t=true:=by
   unfold fE;rw[List.all_eq_true];intro n hm;obtain⟨j,c,rfl⟩:=List.getElem_of_mem hm;rw[<-LA c];exact E j c
  have ak:=qc b g;have e1:yA (MR (CA t))=yA ((CA t).1::((CA t).2.map λx=>(XK d x.1,x.2)).map Prod.snd):=by
   rw[List.map_map];rfl
  have e2:yA ((QA (CA t)).map (XK d))=yA (((CA t).2.map λx=>(XK d x.1,x.2)).map Prod.fst):=by
   rw[QA,List.map_map,List.map_map];rfl
  have N:WK (CA t).1 ((CA t).2.map λx=>(XK d x.1,x.2))=Ee d t:=EZ (XK d) (CA t);refine gA (DL (p0:=(CA t).1) (q:=(CA t).2.map λx=>(XK d x.1,x.2)) (by show Sl _ _ (yA _);rw[<-e1];exact(hp.ext l).sl) (by show Sl _ _ (yA _);rw[<-e2];exact z.sl) (by rw[N];omega)) λW Y=>?_;rw[N];refine aA ((JH (by omega) W).mono ?_);rintro r X ⟨x9,v,rfl,F,-⟩;have F:=F (Im b I g);have M:=(m.trans Y).trans x9;refine lD ?_;refine mD ?_;refine aA (nA.mono (R:=λr a=>a=X/\r=if 40<(kL d t).size then .tuple #[.slice none 0 0,iv 3]else .tuple #[v,iv 0]) ?_ ?_)
  ·show nA prog 63 #[v] X _;apply HV;unfold dN;refine VB F.sl (jB ?_);refine dA (λh=>?_) (λh=>?_)
   ·exact⟨rfl,by rw[if_pos (show 40<(kL d t).size by unfold kL;omega)]⟩
   ·exact⟨rfl,by rw[if_neg (show¬40<(kL d t).size by unfold kL;omega)]⟩
  ·rintro r ap ⟨rfl,rfl⟩;by_cases C:40<(kL d t).size
   ·rw[if_pos C];refine lD ?_;refine mD ?_;exact o (by unfold YF;rw[if_neg (by rw[b];decide),if_neg (λe=>e H),if_neg (by rw[g];decide),if_pos C]) (by decide) M
   ·rw[if_neg C];refine lD ?_;refine mD ?_;have D:YF d t=0:=by unfold YF;rw[if_neg (by rw[b];decide),if_neg (λe=>e H),if_neg (by rw[g];decide),if_neg C]
    exact⟨M,v,by rw[D],Rk.some D (F.mono (m.trans Y).size)⟩
theorem Yj(a:qf w v m):CB prog 4 #[v] w (.bool (decide ((4096:Int)<(m.length:Nat)))):=by
 apply ql;unfold ra;refine zc a ?_;refine jB ?_;exact⟨rfl,bA.refl _⟩
theorem V5{l l':List Int}(j:Q9 w v l)(m:Q9 w i l'):CB prog 18 #[v,i] w (.bool (decide (l=l'))):=by
 apply X7;unfold pS;have y:=j.len;have z:=m.len
 (with_reducible refine UY (by assumption) ?_;refine UY (by assumption) ?_;refine ZF ?_)
 refine dA (λh=>?_) (λh=>?_)
 ·rw[decide_eq_false (λe=>h (by rw[e]))];exact⟨rfl,bA.refl _⟩
 ·have h:l.length=l'.length:=by omega
  refine MB (λk:Nat=>[iv k]) (λk t=>k<=l.length/\bA w t/\l.take k=l'.take k) (λk=>l.length-k) 0 rfl ⟨Nat.zero_le _,bA.refl _,by simp⟩ ?_;rintro k C u ⟨x,a,c⟩ q;have A:=j.ext a;have B:=m.ext a
  (intro _;(try simp only[gx]);(with_reducible refine UY (by assumption) ?_;refine jB ?_))
  refine dA (λp=>?_) (λp=>?_)
  ·have f:k<l.length:=by omega
   have g:k<l'.length:=by omega
   have n:l.getD k 0=l[k]:=by simp[List.getD_eq_getElem?_getD,f]
   have o:l'.getD k 0=l'[k]:=by simp[List.getD_eq_getElem?_getD,g]
   (with_reducible refine rh (by assumption) ?_ (λs r=>?_));omega;(with_reducible refine DD (by assumption) ?_);(with_reducible refine rh (by assumption) ?_ (λs r=>?_));omega;(with_reducible refine DD (by assumption) ?_;refine ZF ?_)
   rw[n,o];intro D d;refine dA (λb=>?_) (λb=>?_)
   ·rw[decide_eq_false (λe=>by subst e;exact b rfl)];exact⟨rfl,a.trans d⟩
   ·refine qA (by omega) ?_;refine q (k+1) _ ⟨by omega,a.trans d,?_⟩ (by omega);rw[List.take_succ_eq_append_getElem f,List.take_succ_eq_append_getElem g,c]
    congr 2
    exact Classical.not_not.1 b
  ·obtain rfl:k=l.length:=by omega
   rw[List.take_length,h,List.take_length]at c;rw[decide_eq_true c];exact⟨rfl,a⟩
end Go.Proofs.YtoojmhgpadkhmaaGreatDoor
