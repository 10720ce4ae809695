/- The proof of FnExpandedCard, part 6 of 7. Conditions: none. -/
import Derived.Test.YtoojmhgpadkhmaaGreatDoorKR56e
namespace Go.Proofs.YtoojmhgpadkhmaaGreatDoor
open Go.Proofs.Tryz(prog)
variable{w:World}{v i:Value}{x:Nat}{r:Fm}{m:List Nat}{k:List jA}{o:Int}{T:List RN}
theorem Sh(a:qf w i m)(L:Nat):nA prog 12 #[i,.int .u64 (L:Int)] w λv p=>∃b,v= .pointer (some ⟨b,0,none⟩)/\Src 65 w i b p:=by
 apply Vi;unfold W6;have Q:=a.len;refine Cj λU _=>?_;refine zc a (ZO (by omega) ?_);refine RV λj F=>?_;have J:∃c K d,i= .slice c K d:=by obtain⟨c,d,h,_⟩:=a.1;exact⟨c,_,d,h⟩
 obtain⟨l,o,n,rfl⟩:=J;refine GD (cs:=#[.slice l o n,iv 0,.int .u64 (j:Int)]) (by simp[Instr.fill,Value.cells]) ?_;refine xC λb M P y e=>?_;have e:GA 65 M b [.slice l o n,iv 0,.int .u64 (j:Int)]:=e;have g:w.heap.size<=b:=by omega
 refine MB (λk:Nat=>[iv k]) (λk p=>k<=m.length/\Src 65 w (.slice l o n) b p) (λk=>m.length-k) 0 rfl ⟨Nat.zero_le _,y,g,0,j,e,by omega,F⟩ ?_;rintro k Y O ⟨S,f⟩ B;have t:=a.ext f.ext;intro _;simp only[gx];refine zc t (jB (dA (λh=>?_) (λh=>⟨b,rfl,f⟩)));obtain⟨C,_,x,D,s,E,R⟩:=f;refine bB (pB (mA s (v:=.int .u64 (D:Int)) rfl ?_));refine Cj λV _=>?_;refine Xs t (by omega) λX aa T H=>DD H ?_;refine ZO (by omega) (RV λW _=>RV λu G=>?_);refine bB (pB ?_);intro N q;have z:=s.ext q;refine QH z (show 2<3 by decide) rfl λA=>?_;have I:=PI.setCell N b 2 (.int .u64 (u:Int));intro Z r;refine qA (by omega) ?_;exact B (k+1) _ ⟨by omega,((C.trans q).upd I g).trans r,g,x,u,GA.ext A r,E,G⟩ (by omega)
theorem vk(h:Rk x w v o r):SO w v (if o=0 then cB r else[]):=by
 have h:=dB.sl h;unfold kf at h;by_cases a:o=0
 ·rw[if_pos a]at h⊢;exact oC.rawS h
 ·rw[if_neg a]at h⊢;exact h
theorem jU(h:SO w v T)(e:SO w i T):CB prog 8 #[v,i] w (.bool true):=by
 have r:=h.len;apply FX;unfold aM;refine VB h (VB e ?_);refine ZF (dA (λh=>absurd rfl h) (λ_=>?_));refine MB (λk:Nat=>[iv k]) (λk m=>k<=T.length/\bA w m) (λk=>T.length-k) 0 rfl ⟨Nat.zero_le _,bA.refl _⟩ ?_;rintro k s o ⟨q,a⟩ g;intro _;simp only[gx];refine VB (rB.ext h a) (jB (dA (λp=>?_) (λ_=>⟨by first|trivial|rfl,a⟩)));have b:k<T.length:=by omega
 obtain⟨c,d⟩:=tG b;refine b9 (cs:=#[iv T[k].1,iv T[k].2]) (rB.ext h a) rfl b rfl (λj l=>by rcases j with _|_|j;exact c;exact d;omega) ?_;refine b9 (cs:=#[iv T[k].1,iv T[k].2]) (rB.ext e a) rfl b rfl (λj l=>by rcases j with _|_|j;exact c;exact d;omega) ?_;refine uh (t0:=2) (t1:=2) (by kernel_rfl) (by kernel_rfl) (by kernel_rfl) (by kernel_rfl) (by kernel_rfl) (by kernel_rfl) ?_;intro t n;refine dA (λf=>absurd ⟨rfl,rfl⟩ f) (λ_=>?_);refine qA (by omega) ?_;exact g (k+1) _ ⟨by omega,a.trans n⟩ (by omega)
theorem aY(c:iM w v k)(d:iM w i k):CB prog 11 #[v,i] w (.bool true):=by
 apply L1;unfold nO;have f:=c.len;rw[AA]at f;refine ZA c (ZA d ?_);refine ZF (cA (by simp) ?_);refine MB (λa:Nat=>[iv a]) (λa g=>a<=k.length/\bA w g) (λa=>k.length-a) 0 rfl ⟨Nat.zero_le _,bA.refl _⟩ ?_;rintro a n l ⟨m,b⟩ e;intro _;simp only[gx];refine ZA (c.ext b) ?_;refine jB (dA (λh=>?_) (λh=>?_))
 ·refine mH (c.ext b) rfl (by omega) ?_;refine mH (d.ext b) rfl (by omega) ?_;refine j5 ?_;intro o j;refine cA (by simp) ?_;refine qA (by omega) ?_;exact e (a+1) _ ⟨by omega,b.trans j⟩ (by omega)
 ·exact⟨by first|trivial|rfl,b⟩
theorem We(c:oC w v r)(b:r.good)(e:r.size<=40):CB prog 16 #[v] w (sv r.body):=by
 apply Wi;unfold Y6;have d:CB prog 38 #[v] w (.tuple #[sv r.body,iv 0]):=by
  apply uZ;unfold ZM;refine gA (XY (oC.rawS c) (by rw[ZC];omega)) λf a=>?_;rw[WW.2 ⟨r,b,e,rfl⟩];refine TA (cA rfl ?_);exact gA (AB (rB.ext c a) b (by omega)) λh g=>⟨rfl,a.trans g⟩
 exact gA d λf a=>lD (mD ⟨rfl,a⟩)
def vx:List jA:=(List.range 9).map G6
theorem XZ(E:ka w)(Y:RY w)(r:qf w v m):CB prog 3 #[v] w (.bool true):=by
 apply J1;unfold lO;refine gA (Yj r) λw1 I=>?_;refine dA (λ_=>⟨by first|trivial|rfl,I⟩) (λ_=>?_);refine aA ((zL (r.ext I)).mono ?_);rintro _ w2 ⟨x2,vi,t,L,rfl,e,hL,cc⟩;have g:=hL.short;have X2:=I.trans x2;refine lD (mD ?_);refine aA ((dP t e g).mono ?_);rintro _ w3 ⟨x3,va,rfl,ha⟩;refine lD (mD ?_);refine aA ((kP t (dB.ext e x3).sl g).mono ?_);rintro _ w4 ⟨x4,vm,rfl,s⟩;refine lD (mD ?_);have bm:=x3.trans x4;refine WB (λd a=>d=[.bool false]/\bA w4 a) (λJ b=>?_) ?_
 ·refine ZF (cA (decide_eq_false λh=>h rfl) ?_);exact gA (jU (vk (dB.ext ha x4)) (vk s)) λw7 B=>TA (b _ _ ⟨rfl,B⟩)
 rintro _ w6 ⟨rfl,x6⟩;intro _;simp only[gx];refine cA rfl ?_;have bp:=bm.trans x6;refine aA ((aW t w6).mono ?_);rintro _ w7 ⟨B,v1,rfl,h1⟩;refine lD (mD ?_);refine aA ((wW t w7).mono ?_);rintro _ w8 ⟨R,v2,rfl,V⟩;refine lD (mD ?_);have bq:=(bp.trans B).trans R;refine WB (λd a=>d=[.bool false]/\bA w8 a) (λJ b=>?_) ?_
 ·refine ZF (cA (decide_eq_false λh=>h rfl) ?_);exact gA (aY (h1.ext R).sl V.sl) λay bd=>TA (b _ _ ⟨rfl,bd⟩)
 rintro _ w9 ⟨rfl,S⟩;intro _;simp only[gx];have ag:=bq.trans S;have q:=X2.trans ag;refine cA rfl (ZF (dA (λ_=>⟨by first|trivial|rfl,q⟩) (λz=>?_)));have z:YF L t=0:=Classical.not_not.1 z;obtain⟨o,aw,x,F,u⟩:=jo z;have c:(kL L t).good:=ia _;have au:oC w9 vm (kL L t):=by
  have h:=dB.sl (dB.ext s (((x6.trans B).trans R).trans S));unfold kf at h;rw[if_pos z]at h;exact h
 have bw:=oD (kL L t);refine aA ((Sh (r.ext q) 3601).mono ?_);rintro _ ay ⟨ai,rfl,X⟩;refine zo vx (by kernel_rfl) λax ce hq be Z=>?_;have am:=X.later be;have av:¬ax=ai:=by have:=X.lt;omega
 refine ZA (Z.sltX (n:=9) rfl (by decide)) ?_;refine aA ((YZ (r.ext q) am _).mono ?_);rintro _ az ⟨⟨k,rfl,hk,_⟩,an,ao⟩;have hk:=hk (by decide);have f:k<9:=by have:vx.length=9:=rfl;omega
 have ap:k<vx.length:=f;refine mQ ((Z.ch ao av).sltX (n:=9) rfl (by decide)) ap λcd hp=>?_;refine DD hp ?_;rw[show vx[k]=G6 k by simp[vx]];have ca:=Dr f;have C:bA w9 az:=an.ext;have p:=q.trans C;have Q:=ag.trans C;have G:(G6 k++t).length<=300:=by rw[List.length_append];omega
 have aq:(G6 k++(kL L t).body).length<=300:=by rw[List.length_append];omega
 refine vD (by omega) ?_;refine gA (ZK f (dB.ext e Q) g o x F c u G (E.ext p) (Y.ext p)) λcg K=>?_;refine eD (by rfl) (eD (by rfl) (vD (by omega) ?_));have br:=p.trans K;have bj:=Q.trans K;refine gA (tW f (dB.ext e bj).sl g o x F c u G) λba bg=>eD (by rfl) (eD (by rfl) ?_);refine WB (λd a=>d=[.bool false]/\bA ba a) (λJ b=>?_) ?_
 ·refine ZF (cA (decide_eq_false λh=>h rfl) (j5 ?_));rw[decide_eq_false (λh=>h rfl)];exact b _ _ ⟨rfl,bA.refl _⟩
 rintro _ ch ⟨rfl,bh⟩;intro _;simp only[gx];refine cA rfl ?_;have A:=(K.trans bg).trans bh;have ah:=p.trans A;refine gA (We (rB.ext au (C.trans A)) c u) λci M=>?_;refine vD (by omega) ?_;have D:=ah.trans M;have ae:=(Q.trans A).trans M;have aa:=ZK (t:=(kL L t).body) f (dB.ext e ae) g o (uf c) (kl L c) (by rw[Kg L c];exact c) (by rw[Kg L c];exact u) aq (E.ext D) (Y.ext D);rw[Kg L c]at aa;refine gA aa λbb N=>eD (by rfl) (eD (by rfl) ?_);refine WB (λd a=>d=[.bool false]/\bA bb a) (λJ b=>?_) ?_
 ·refine ZF (cA (decide_eq_false λh=>h rfl) (j5 ?_));rw[decide_eq_false (λh=>h rfl)];exact b _ _ ⟨rfl,bA.refl _⟩
 rintro _ ad ⟨rfl,O⟩;intro _;simp only[gx];refine cA rfl ?_;have U:=(D.trans N).trans O;have bk:=(ae.trans N).trans O;have W:iM ad v2 (zE t):=(Ow.ext V (((((S.trans C).trans A).trans M).trans N).trans O)).sl;have cb:=jm t;refine MB (λi:Nat=>[iv i]) (λi a=>i<=(zE t).length/\bA ad a) (λi=>(zE t).length-i) 0 rfl ⟨Nat.zero_le _,bA.refl _⟩ ?_;rintro i cj Kn ⟨hi,j⟩ al;have hi:i<=(zE t).length:=hi;intro _;simp only[gx];refine ZA (W.ext j) (jB (dA (λbz=>?_) (λ_=>?_)))
 ·have ab:i<(zE t).length:=by omega
  refine Z8 rfl rfl rfl λbt ck bx P aj=>?_;refine mH ((W.ext j).ext P) rfl ab ?_;have hn:gt (zE t) i∈QA (CA t):=by
   have s:gt (zE t) i∈zE t:=by rw[LA ab];exact List.getElem_mem _
   have ar:∀H,H∈zE t->H∈QA (CA t):=λH y=>by
    unfold zE at y;split at y
    ·exact xF.1 y
    ·cases y
   exact ar _ s
  obtain⟨u1,u2⟩:=Ik o aw x F hn;have bv:=(kE.1 o).1;refine aA ((Pe (T:=[t,[112]]) (n:=gt (zE t) i) (dB.ext e ((bk.trans j).trans P)).sl g (by omega) (Sl.ofBlk (n:=2) aj rfl (by decide)) (show(2:Nat)<=1048576 by decide)).mono ?_);rintro _ bc ⟨bi,vu,rfl,hu⟩;rw[u1,u2]at*;refine lD (mD ?_);refine WB (λd a=>d=[.bool false]/\bA bc a) (λJ b=>?_) ?_
  ·refine ZF (cA (by decide) ?_);refine fF rfl rfl λbu cl hd af ak=>?_;have ac:=V5 (l:=[0]) (l':=[0]) (Sl.ext hu.sl af) (Sl.ofBlk (n:=1) ak rfl (by decide));rw[decide_eq_true rfl]at ac;exact gA ac λcm bl=>TA (b _ _ ⟨rfl,af.trans bl⟩)
  rintro _ cn ⟨rfl,bn⟩;intro _;simp only[gx];refine cA rfl (qA (by omega) ?_);exact al (i+1) _ ⟨by show i+1<=(zE t).length;omega,((j.trans P).trans bi).trans bn⟩ (by show(zE t).length-(i+1)<(zE t).length-i;omega)
 ·refine vD (by omega) ?_;refine gA (j9 (E.ext (U.trans j))) λco bo=>?_;rw[Dt f x G];refine vD (by omega) (HD (LF (AG ?_)));rw[decide_eq_true (by omega)];exact⟨by first|trivial|rfl,(U.trans j).trans bo⟩
end Go.Proofs.YtoojmhgpadkhmaaGreatDoor
