/- The proof of FnExpandedCard, part 3 of 7. Conditions: none. -/
import Derived.Test.YtoojmhgpadkhmaaGreatDoorKR56b
import Derived.Laws.BytesString
import Derived.Shelf.Small.Strs
import Derived.Lib.AppendZerosOnto
import Derived.Lib.Overlaps
import Derived.Maps.Own
namespace Go.Proofs.YtoojmhgpadkhmaaGreatDoor
open Go.RowKit (Below)
open Go.Proofs.Tryz(prog)
variable{w a:World}{v i U:Value}{x n f C:Nat}{y J:List Value}{z:Value->Prop}{u H:TypeId}{t:Value->World->Prop}{s Y:jA}{r P:Fm}{m:List Nat}{k:List jA}{j:List Fm}{b:IntKind}{h:Array Value}{l:World->Prop}{o:Int}{p:jA->Value->Prop}{q:UInt8}{K:Bool}{G:List Int}{T:List RN}{V:World->World->Prop}{W:FuncId}{Z:Program}{B:FG}
theorem wQ(a:oC w v r):CB prog 242 #[v] w (.bool (decide (r= .fls))):=by
 apply O7;unfold cS;refine eB (j:=0) a rfl r.size_pos (by decide) (rA a).1 ?_;refine BA ⟨?_,bA.refl _⟩
 congr 1
 refine decide_eq_decide.2 ?_;cases r<;>simp[Fm.kind]
theorem zN(a:oC w v r)(k:r.size<=1099511627776):CB prog 241 #[v] w (.bool r.isNeg):=by
 apply j1;unfold WN;refine sB r.isNeg w (λJ b=>?_) (λm e=>λ_=>⟨by first|trivial|rfl,e⟩);refine eB (j:=0) a rfl r.size_pos (by decide) (rA a).1 ?_;refine BA ?_;refine dA (λh=>?_) (λh=>?_)
 ·cases r<;>simp only[Fm.kind]at h<;>(try omega);rename_i c d;refine aA ((gB (g:=c) (h:=d) a rfl k).mono ?_);rintro u n ⟨f,l⟩;exact gA (wQ l) λo i=>b _ (f.trans i)
 ·cases r<;>first|exact b _ (bA.refl _)|(simp[Fm.kind]at h)
theorem A9(a:oC w v r)(i:r.size<=1099511627776):CB prog 238 #[v] w (iv (r.own:Int)):=by
 apply La;unfold CU;refine sB (decide (r.kind=4)&& !r.isNeg) w (λJ c=>?_) (λk b=>?_)
 ·refine eB (j:=0) a rfl r.size_pos (by decide) (rA a).1 ?_;refine BA ?_;refine dA (λh=>?_) (λh=>?_)
  ·rw[decide_eq_true (show r.kind=4 by omega),Bool.true_and]at c;refine gA (zN a i) λl g=>?_;exact TA (c _ g)
  ·rw[decide_eq_false (show¬r.kind=4 by omega),Bool.false_and]at c;exact c _ (bA.refl _)
 ·intro _;simp only[gx];have f:=a.ext b;cases d:decide (r.kind=4)&& !r.isNeg
  ·refine cA rfl ?_;refine eB (j:=0) f rfl r.size_pos (by decide) (rA a).1 ?_;refine BA ?_;refine dA (λh=>?_) (λh=>?_)
   ·refine⟨?_,b⟩;cases r<;>simp only[Fm.kind]at h<;>first|omega|rfl
   ·refine eB (j:=0) f rfl r.size_pos (by decide) (rA a).1 ?_;refine BA ?_;refine dA (λe=>?_) (λe=>?_)
    ·refine⟨?_,b⟩;cases r<;>simp only[Fm.kind]at e<;>first|omega|rfl
    ·refine⟨?_,b⟩;cases r<;>simp[Fm.kind,Fm.isNeg]at h e d<;>simp[Fm.own,d]
  ·refine iA rfl ⟨?_,b⟩;cases r<;>simp[Fm.kind,Fm.isNeg]at d;simp[Fm.own,d]
theorem Lf(a:x<6):(([112,113,114,115,116,117]:jA).drop x).take (x+1-x)=[vl x]:=by
 have:∀x:Fin 6,(([112,113,114,115,116,117]:jA).drop x.val).take (x.val+1-x.val)=[vl x.val]:=by decide
 exact this ⟨x,a⟩
theorem ou(h:r.own<x):r.txt x=[40]++r.txt 0++[41]:=by
 rw[RO h,CE (Nat.zero_le _)];simp
def PF(t:jA):Int:=if 200<t.length then 3 else if pK t then(if 40<(rd t).1.size then 3 else 0)else 6
def Hs(t:jA):Nat:=if 200<t.length then 0 else if pK t then 0 else Ut t
theorem n0(h:PF s=0):(rd s).1.size<=40/\s.length<=200/\pK s=true:=by
 unfold PF at h;split at h
 ·cases h
 ·split at h
  ·split at h
   ·cases h
   ·rename_i b a c;exact⟨by omega,by omega,a⟩
  ·cases h
def YK(t:jA):Bool:=decide (PF t=0)&&decide ((rd t).1.body=t)
theorem DN:∀(s:Nat) {v:Value} {f:Fm} {lv:Nat} {w:World},2*f.size+(if f.own<lv then 1 else 0)<=s->oC w v f->f.good->f.size<=1099511627776->lv<=3->CB prog 143 #[v,iv lv] w (sv (f.txt lv))
 |0,v,f,lv,w,hm,_,_,_,_=>by have:=f.size_pos;omega
 |s+1,v,f,lv,w,hm,hs,hg,hn,hlv=>by
  apply Zd;unfold xY;have ac:=oD f;have V:=λlv=>gE lv f;refine gA (A9 hs hn) λw1 k=>?_;have c:=hs.ext k;refine jB ?_;refine dA (λh=>?_) (λh=>?_)
  ·have h:f.own<lv:=by omega
   rw[if_pos h]at hm;refine gA (DN s (lv:=0) (by rw[if_neg (by omega)];omega) c hg hn (by decide)) λw2 t=>?_;have:=V 0;refine vD (a:=[40]) (by simp only[List.length_singleton];omega) ?_;refine vD (b:=[41]) (by simp only[List.length_append,List.length_singleton];omega) ?_;rw[<-ou h];exact⟨by first|trivial|rfl,k.trans t⟩
  ·have h:lv<=f.own:=by omega
   rw[CE h];rw[if_neg (by omega)]at hm;have B:=rA hs;refine eB (j:=0) c rfl f.size_pos (by decide) B.1 ?_
   --any part of the formula,at any level
   have n:∀{g:Fm} {u:Value} {E:World} {l:Nat},g.size<f.size->oC E u g->g.good->l<=3->CB prog 143 #[u,iv l] E (sv (g.txt l)):=λ{g u E l} k t y d=>
    DN s (by split<;>omega) t y (by omega) d
   cases f with
   |var x=>
    refine BA (iA rfl ?_);refine eB (j:=0) c rfl (Fm.size_pos _) (by decide) B.2 ?_;refine eB (j:=0) c rfl (Fm.size_pos _) (by decide) B.2 ?_;have W:x<6:=hg;refine qA (by show _<=(x:Int)+1/\(x:Int)+1<=_;omega) ?_;refine Bc (l:=[112,113,114,115,116,117]) (i:=x) (j:=x+1) (by omega) (by show x+1<=6;omega) ?_;intro w3 y;rw[Lf W];exact⟨by first|trivial|rfl,k.trans y⟩
   |fls=>
    refine BA (cA rfl (BA (iA rfl ?_)));exact⟨by first|trivial|rfl,k⟩
   |and a b=>
    refine BA (cA rfl (BA (cA rfl (BA (iA rfl ?_)))));simp only[Fm.size]at hn;have o:=gE 2 a;have q:=gE 3 b;refine aA ((OA c (g:=a) (gs:=[b]) rfl (by simp only[Fm.size];omega)).mono ?_);rintro u F ⟨d,e⟩;refine gA (n (l:=2) (by simp only[Fm.size];omega) e hg.1 (by decide)) λG m=>?_;refine vD (b:=[38]) (by simp only[List.length_singleton];omega) ?_;have C:=(c.ext d).ext m;refine aA ((gB C (g:=a) (h:=b) rfl (by simp only[Fm.size];omega)).mono ?_);rintro D X ⟨z,p⟩;refine gA (n (l:=3) (by simp only[Fm.size];omega) p hg.2 (by decide)) λY A=>?_;refine vD (by simp only[List.length_append,List.length_singleton];omega) ?_;refine⟨?_,(((k.trans d).trans m).trans z).trans A⟩;simp[Fm.body,Fm.txt]
   |or a b=>
    refine BA (cA rfl (BA (cA rfl (BA (cA rfl (BA (iA rfl ?_)))))));simp only[Fm.size]at hn;have o:=gE 1 a;have q:=gE 2 b;refine aA ((OA c (g:=a) (gs:=[b]) rfl (by simp only[Fm.size];omega)).mono ?_);rintro u F ⟨d,e⟩;refine gA (n (l:=1) (by simp only[Fm.size];omega) e hg.1 (by decide)) λG m=>?_;refine vD (b:=[124]) (by simp only[List.length_singleton];omega) ?_;have C:=(c.ext d).ext m;refine aA ((gB C (g:=a) (h:=b) rfl (by simp only[Fm.size];omega)).mono ?_);rintro D X ⟨z,p⟩;refine gA (n (l:=2) (by simp only[Fm.size];omega) p hg.2 (by decide)) λY A=>?_;refine vD (by simp only[List.length_append,List.length_singleton];omega) ?_;refine⟨?_,(((k.trans d).trans m).trans z).trans A⟩;simp[Fm.body,Fm.txt]
   |box a=>
    refine BA (cA rfl (BA (cA rfl (BA (cA rfl (BA (cA rfl (BA (iA rfl ?_)))))))));simp only[Fm.size]at hn;have o:=gE 3 a;refine aA ((OA c (g:=a) (gs:=[]) rfl (by simp only[Fm.size];omega)).mono ?_);rintro u F ⟨d,e⟩;refine gA (n (l:=3) (by simp only[Fm.size];omega) e hg (by decide)) λG m=>?_;refine vD (a:=[91,93]) (by simp only[List.length_cons,List.length_nil];omega) ?_;exact⟨by first|trivial|rfl,(k.trans d).trans m⟩
   |dia a=>
    refine BA (cA rfl (BA (cA rfl (BA (cA rfl (BA (cA rfl (BA (cA rfl (BA (iA rfl ?_)))))))))));simp only[Fm.size]at hn;have o:=gE 3 a;refine aA ((OA c (g:=a) (gs:=[]) rfl (by simp only[Fm.size];omega)).mono ?_);rintro u F ⟨d,e⟩;refine gA (n (l:=3) (by simp only[Fm.size];omega) e hg (by decide)) λG m=>?_;refine vD (a:=[60,62]) (by simp only[List.length_cons,List.length_nil];omega) ?_;exact⟨by first|trivial|rfl,(k.trans d).trans m⟩
   |imp a b=>
    refine BA (cA rfl (BA (cA rfl (BA (cA rfl (BA (cA rfl (BA (cA rfl (BA (cA rfl ?_)))))))))));refine gA (zN c hn) λad H=>?_;have r:=c.ext H;have I:=k.trans H;simp only[Fm.size]at hn;refine TA ?_;have S:(Fm.imp a b).body=if b= .fls then(if a= .fls then[84]else 126::par (decide (a.own<3)) a.body)else par (decide (a.own<1)) a.body++62::b.body:=by rw[Fm.body]
    rw[S];by_cases q:b= .fls
    ·rw[if_pos q];refine cA (by simp[Fm.isNeg,q]) ?_;refine aA ((OA r (g:=a) (gs:=[b]) rfl (by simp only[Fm.size];omega)).mono ?_);rintro u ai ⟨L,e⟩;refine gA (wQ e) λaj M=>?_;have U:=(r.ext L).ext M;have N:=(I.trans L).trans M;refine dA (λo=>?_) (λo=>?_)
     ·rw[if_pos o];exact⟨by first|trivial|rfl,N⟩
     ·rw[if_neg o];have aa:=gE 3 a;refine aA ((OA U (g:=a) (gs:=[b]) rfl (by simp only[Fm.size];omega)).mono ?_);rintro D ak ⟨Q,p⟩;refine gA (n (l:=3) (by simp only[Fm.size];omega) p hg.1 (by decide)) λal R=>?_;refine vD (a:=[126]) (by simp only[List.length_singleton];omega) ?_;exact⟨by first|trivial|rfl,(N.trans Q).trans R⟩
    ·rw[if_neg q];refine iA (by simp[Fm.isNeg,q]) ?_;have Z:=gE 1 a;have ab:=gE 0 b;refine aA ((OA r (g:=a) (gs:=[b]) rfl (by simp only[Fm.size];omega)).mono ?_);rintro u ae ⟨J,e⟩;refine gA (n (l:=1) (by simp only[Fm.size];omega) e hg.1 (by decide)) λaf K=>?_;refine vD (b:=[62]) (by simp only[List.length_singleton];omega) ?_;have T:=(r.ext J).ext K;refine aA ((gB T (g:=a) (h:=b) rfl (by simp only[Fm.size];omega)).mono ?_);rintro D ag ⟨O,p⟩;refine gA (n (l:=0) (by simp only[Fm.size];omega) p hg.2 (by decide)) λah P=>?_;refine vD (by simp only[List.length_append,List.length_singleton];omega) ?_;refine⟨?_,(((I.trans J).trans K).trans O).trans P⟩;simp[Fm.txt,par]
theorem aC{f:Fm}(d:oC w v f)(b:f.good)(c:f.size<=1099511627776):CB prog 74 #[v] w (sv f.body):=by
 apply Ui;unfold V6;refine gA (DN _ (lv:=0) (Nat.le_refl _) d b c (by decide)) λe a=>?_;rw[CE (Nat.zero_le _)];exact⟨by first|trivial|rfl,a⟩
theorem iL.some(h:iL x w v r):∃g c,x<=g/\g<w.heap.size/\v= .slice (some ⟨g,0,none⟩) r.size c:=by
 obtain⟨_,⟨_,i⟩|⟨g,a,f,e,b,d,_⟩⟩:=h
 ·have:=r.size_pos;omega
 ·exact⟨g,a,b,OE d,e⟩
theorem ZV(t:jA)(w:World):nA prog 226 #[sv t] w λy p=>bA w p/\ ∃v,y= .tuple #[v,iv (Hs t:Int),iv (PF t)]/\(PF t=0->iL w.heap.size p v (rd t).1)/\(¬PF t=0->v= .slice none 0 0):=by
 apply mX;unfold IL;refine HD ?_;refine jB ?_;refine dA (λh=>?_) (λh=>?_)
 ·have c:PF t=3:=by unfold PF;rw[if_pos (by omega)]
  have d:Hs t=0:=by unfold Hs;rw[if_pos (by omega)]
  rw[c,d];exact⟨bA.refl _,_,rfl,(λh=>by cases h),λ_=>rfl⟩
 ·have c:PF t=if pK t then(if 40<(rd t).1.size then 3 else 0)else 6:=by unfold PF;rw[if_neg (by omega)]
  have d:Hs t=if pK t then 0 else Ut t:=by unfold Hs;rw[if_neg (by omega)]
  refine GD (cs:=#[sv t,iv 0,.bool false]) (by simp[Instr.fill,Value.cells]) ?_;refine xC λz F C j s=>?_;refine aA ((QG (by omega) (KN.new s)).mono ?_);rintro v e ⟨k,x,n⟩;rw[<-Xh]at k n;have g:bA w e:=j.thenCh x λA D=>by omega
  have u:=k.place;have E:=Zl t;refine sB (!pK t) e (λJ b=>?_) (λG a=>?_)
  ·unfold pK at b
   (with_reducible refine bB ?_;refine pB ?_);refine mA (by assumption) (by first|rfl|simp) ?_
   cases l:(rd t).2.2
   ·rw[l]at b;refine cA rfl ?_
    (with_reducible refine bB ?_;refine pB ?_);refine mA (by assumption) (by first|rfl|simp) ?_
    refine HD ?_
    (with_reducible refine jB ?_)
    have:decide (((t.length-(rd t).2.1.length:Nat):Int)<(t.length:Nat))= !(!false&&decide ((rd t).2.1=[])):=by
     by_cases i:(rd t).2.1=[]
     ·rw[i];simp
     ·have:1<=(rd t).2.1.length:=by
       rcases Nat.eq_zero_or_pos (rd t).2.1.length with f|f
       ·exact absurd (List.length_eq_zero_iff.1 f) i
       ·exact f
      simp[i];omega
    rw[this];exact b e (bA.refl _)
   ·rw[l]at b;exact iA rfl (b e (bA.refl _))
  ·intro _;simp only[gx];have B:=u.ext a;cases m:pK t
   ·refine iA rfl ?_;rw[c,d,m]
    (with_reducible refine bB ?_;refine pB ?_);refine mA (by assumption) (by first|rfl|simp) ?_
    intro H r;exact⟨(g.trans a).trans r,_,rfl,(λh=>by cases h),λ_=>rfl⟩
   ·refine cA rfl ?_;have o:=dB.ext n a;rw[c,d,m];refine VB o.sl ?_;refine jB ?_;refine dA (λq=>?_) (λq=>?_)
    ·rw[if_pos rfl,if_pos (show 40<(rd t).1.size by omega)];exact⟨g.trans a,_,rfl,(λh=>by cases h),λ_=>rfl⟩
    ·rw[if_pos rfl,if_neg (show¬40<(rd t).1.size by omega)];exact⟨g.trans a,_,rfl,λ_=>o.mono j.size,λh=>absurd rfl h⟩
theorem BN(t:jA)(w:World):nA prog 125 #[sv t] w λv a=>bA w a/\(PF t=0->iL w.heap.size a v (rd t).1)/\(¬PF t=0->v= .slice none 0 0):=by
 apply Wd;unfold tY;refine aA ((ZV t w).mono ?_);rintro r e ⟨b,v,rfl,d,c⟩;refine He ?_;refine Ie ?_;refine Je ?_;exact⟨b,d,c⟩
theorem gW(t:jA)(w:World):CB prog 52 #[sv t] w (.bool (YK t)):=by
 apply Ud;unfold rY;refine aA ((BN t w).mono ?_);rintro v j ⟨d,c,h⟩;refine sB (YK t) j (λJ b=>?_) (λm e=>λ_=>⟨by first|trivial|rfl,d.trans e⟩);unfold YK at b;by_cases a:PF t=0
 ·rw[decide_eq_true a,Bool.true_and]at b;have i:=(c a).sl;obtain⟨l,k,-,-,g⟩:=iL.some (c a);subst g;refine⟨trivial,rfl,?_⟩;refine iA rfl ?_;refine gA (aC i (ia t) (by have:=(n0 a).1;omega)) λn f=>?_;exact yB (b _ f)
 ·rw[decide_eq_false a,Bool.false_and]at b;rw[h a];exact⟨trivial,rfl,cA rfl (b _ (bA.refl _))⟩
theorem DA{f g:Fm}{gs:List Fm}(c:oC w v f)(a:f.kids=g::gs)(k:f.size<=1099511627776):nA prog 222 #[v] w λu h=>bA w h/\oC h u g:=by
 apply GV;unfold cN;have d:=f.size_kids;rw[a]at d;simp only[wB,List.map_cons,List.sum_cons]at d;refine gA (pG (i:=1) c (TI a) k) λl b=>?_;refine Jv (i:=1) (j:=1+g.size) (c.ext b) (by omega) (by omega) λu e=>⟨b,?_⟩
 rw[TI a,Nat.add_sub_cancel_left,<-g.cells_len,List.take_left]at e;exact e
theorem zA{f g h:Fm}(c:oC w v f)(b:f.kids=[g,h])(k:f.size<=1099511627776):nA prog 223 #[v] w λu e=>bA w e/\oC e u h:=by
 apply eT;unfold mL;obtain⟨j,l⟩:=Yb b;refine gA (pG (i:=1) c (TI b) k) λm a=>?_;refine sN (i:=1+g.size) (c.ext a) (by omega) λu d=>⟨a,?_⟩
 rw[j,List.append_nil,l,Nat.add_sub_cancel_left]at d;exact d
theorem Z1{f:Fm}(a:rB 2 w v (f.size-1) (f.cells.drop (1*2)))(b:f.kids=[r]):oC w v r:=by
 rw[TI b]at a;have:=f.size_kids;rw[b]at this;simp only[wB,List.map_cons,List.map_nil,List.sum_cons,List.sum_nil]at this;rw[this,Nat.add_sub_cancel_left]at a;simpa[nB]using a
theorem Sf{f:Fm}{i:Nat}(d:i<f.size):∃b c:Int,f.cells[i*2]?=some (iv b)/\f.cells[i*2+1]?=some (iv c):=by
 suffices H:∀(n:Nat) (a:List Fm),wB a<=n-> ∀i,i<wB a-> ∃b c:Int,(nB a)[i*2]?=some (iv b)/\(nB a)[i*2+1]?=some (iv c)by
  have:=H (wB [f]) [f] (Nat.le_refl _) i (by simpa[wB]using d);simpa[nB]using this
 intro n
 induction n with
 |zero=>intro a h i d;omega
 |succ n ih=>
  intro a h i d;cases a with
  |nil=>simp[wB]at d
  |cons g gs=>
   have e:nB (g::gs)=nd g.kind g.sym++nB (g.kids++gs):=by
    rw[uR];simp only[nB,List.flatMap_cons];rw[g.cells_kids];simp[nB]
   have l:wB (g::gs)=1+wB (g.kids++gs):=by rw[rK];have:=g.size_kids;simp only[wB,List.map_cons,List.sum_cons]at this⊢;omega
   rw[e];cases i with
   |zero=>exact⟨_,_,rfl,rfl⟩
   |succ i=>
    obtain⟨b,c,j,k⟩:=ih (g.kids++gs) (by omega) i (by omega);refine⟨b,c,?_,?_⟩
    ·rw[show(i+1)*2=i*2+1+1 by omega];simpa[nd]using j
    ·rw[show(i+1)*2+1=i*2+1+1+1 by omega];simpa[nd]using k
theorem b9{cs:Array Value}{j:Nat}(f:rB x w v n y)(k:o=(j:Int))(c:j<n)(d:cs.size=x)(g:∀i,i<x->y[j*x+i]?=cs[i]?)(h:z (.agg cs)):wA x v (.int b o) λp=>HA w x p z:=by
 subst k;refine Ys f c λl m e=>?_;refine⟨_,cs,rfl,d,λi a=>?_,h⟩;rw[XD,e i a,g i a]
theorem GQ{f:Fm}(h:oC w v f)(n:oC w U r)(E:f.size<=1099511627776):CB prog 224 #[v,U] w (.bool (decide (f=r))):=by
 apply d8;unfold uS;refine VB h ?_;refine VB n ?_;refine ZF ?_;refine dA (λm=>?_) (λm=>?_)
 ·rw[decide_eq_false (show¬f=r fromλg=>m (by rw[g]))];exact⟨by first|trivial|rfl,bA.refl _⟩
 ·have D:f.size=r.size:=by omega
  refine MB (λi:Nat=>[iv i]) (λi A=>i<=f.size/\bA w A/\ ∀j,j<i*2->f.cells[j]?=r.cells[j]?) (λi=>f.size-i) 0 rfl ⟨Nat.zero_le _,bA.refl _,λj e=>by omega⟩ ?_;rintro i F B ⟨C,a,p⟩ z;intro _;simp only[gx];refine VB (h.ext a) ?_;refine jB ?_;refine dA (λx=>?_) (λx=>?_)
  ·obtain⟨q,s,k,l⟩:=Sf (f:=f) (i:=i) (by omega);obtain⟨t,u,c,d⟩:=Sf (f:=r) (i:=i) (by omega);refine b9 (cs:=#[iv q,iv s]) (h.ext a) rfl (by omega) rfl (λj e=>by rcases j with _|_|j;exact k;exact l;omega) ?_;refine b9 (cs:=#[iv t,iv u]) (n.ext a) rfl (by omega) rfl (λj e=>by rcases j with _|_|j;exact c;exact d;omega) ?_;refine uh (t0:=2) (t1:=2) (by kernel_rfl) (by kernel_rfl) (by kernel_rfl) (by kernel_rfl) (by kernel_rfl) (by kernel_rfl) ?_;intro G o;refine dA (λb=>?_) (λb=>?_)
   ·rw[decide_eq_false (show¬f=r fromλg=>b (by
     subst g;rw[k]at c;rw[l]at d;simp only[Option.some.injEq,Value.int.injEq,true_and]at c d;exact⟨c,d⟩))]
    exact⟨by first|trivial|rfl,a.trans o⟩
   ·refine qA (by omega) ?_;have b:=Classical.not_not.1 b;refine z (i+1) _ ⟨by omega,a.trans o,λj e=>?_⟩ (by omega);by_cases y:j<i*2
    ·exact p j y
    ·rcases(show j=i*2∨j=i*2+1 by omega)with rfl|rfl
     ·rw[k,c,b.1]
     ·rw[l,d,b.2]
  ·rw[decide_eq_true (show f=r from yf (List.ext_getElem? λj=>by
    by_cases e:j<i*2
    ·exact p j e
    ·rw[List.getElem?_eq_none (by rw[f.cells_len];omega),List.getElem?_eq_none (by rw[r.cells_len];omega)]))]
   exact⟨by first|trivial|rfl,a⟩
theorem IQ:∀(K:Nat) {y:Value} {f:Fm} {lv:Nat} {w:World},f.size<=K->oC w y f->f.good->f.size<=1099511627776->CB prog 122 #[y,iv lv] w (sv (f.txt lv))
 |0,y,f,lv,w,hm,_,_,_=>by have:=f.size_pos;omega
 |K+1,y,f,lv,w,hm,hs,hg,hn=>by
  apply o8;unfold zS;have ag:=oD f;have G:=rA hs;refine eB (j:=0) hs rfl f.size_pos (by decide) G.1 ?_;refine BA ?_;have p:∀{g:Fm} {u:Value} {e:World} {l:Nat},g.size<f.size->oC e u g->g.good->CB prog 122 #[u,iv l] e (sv (g.txt l)):=λ{g u e l} h1 v B=>
   IQ K (by omega) v B (by omega)
  refine WB (λk e=>k=[iv (f.own:Int),sv f.body]/\bA w e) (λJ c=>?_) ?_
  rotate_left
  ·rintro k w2 ⟨rfl,v⟩;intro _;simp only[gx];refine jB ?_;refine dA (λh=>?_) (λh=>?_)
   ·refine vD (a:=[40]) (by simp only[List.length_singleton];omega) ?_;refine vD (b:=[41]) (by simp only[List.length_append,List.length_singleton];omega) ?_;rw[RO (show f.own<lv by omega)];exact⟨by simp,v⟩
   ·rw[CE (show lv<=f.own by omega)];exact⟨by first|trivial|rfl,v⟩
  · --a join whose values are handed on
   have d:∀{F:(List Value->World->Prop)->Prop} {z:List Value->World->Prop},(∀k e,k=[iv (f.own:Int),sv f.body]/\bA w e->z k e)->(∀J,(∀k e,k=[iv (f.own:Int),sv f.body]/\bA w e->J k e)->F J)->jn F λk e=>∀_:Nat->Value,z [gx k 0,gx k 1] e:=λ{F z} Y h=>
    WB (λk e=>k=[iv (f.own:Int),sv f.body]/\bA w e) h λk e ⟨r,hE⟩ _=>by subst r;exact Y _ _ ⟨rfl,hE⟩
   cases f with
   |var x=>
    refine iA rfl ?_;refine eB (j:=0) hs rfl (Fm.size_pos _) (by decide) G.2 ?_;refine eB (j:=0) hs rfl (Fm.size_pos _) (by decide) G.2 ?_;have hx:x<6:=hg;refine qA (by show _<=(x:Int)+1/\(x:Int)+1<=_;omega) ?_;refine Bc (l:=[112,113,114,115,116,117]) (i:=x) (j:=x+1) (by omega) (by show x+1<=6;omega) ?_;intro w3 B;rw[Lf hx];exact c _ _ ⟨rfl,B⟩
   |fls=>
    refine cA rfl (BA (d c λJ c=>iA rfl ?_));exact c _ _ ⟨rfl,bA.refl _⟩
   |box a=>
    refine cA rfl (BA (d c λJ c=>cA rfl (BA (d c λJ c=>iA rfl ?_))));simp only[Fm.size]at hn;have t:=gE 3 a;refine sN (i:=1) hs (Fm.size_pos _) λu n=>?_;refine gA (p (l:=3) (by simp only[Fm.size];omega) (Z1 n rfl) hg) λM o=>?_;refine vD (a:=[91,93]) (by simp only[List.length_cons,List.length_nil];omega) ?_;exact c _ _ ⟨rfl,o⟩
   |dia a=>
    refine cA rfl (BA (d c λJ c=>cA rfl (BA (d c λJ c=>cA rfl (BA (d c λJ c=>iA rfl ?_))))));simp only[Fm.size]at hn;have t:=gE 3 a;refine sN (i:=1) hs (Fm.size_pos _) λu n=>?_;refine gA (p (l:=3) (by simp only[Fm.size];omega) (Z1 n rfl) hg) λM o=>?_;refine vD (a:=[60,62]) (by simp only[List.length_cons,List.length_nil];omega) ?_;exact c _ _ ⟨rfl,o⟩
   |and a b=>
    refine cA rfl (BA (d c λJ c=>cA rfl (BA (d c λJ c=>cA rfl (BA (d c λJ c=>cA rfl (BA (d c λJ c=>iA rfl ?_))))))));simp only[Fm.size]at hn;have t:=gE 2 a;have m:=gE 3 b;refine aA ((DA hs (g:=a) (gs:=[b]) rfl (by simp only[Fm.size];omega)).mono ?_);rintro u w4 ⟨s,n⟩;refine gA (p (l:=2) (by simp only[Fm.size];omega) n hg.1) λM o=>?_;refine vD (b:=[38]) (by simp only[List.length_singleton];omega) ?_;have I:=(hs.ext s).ext o;refine aA ((zA I (g:=a) (h:=b) rfl (by simp only[Fm.size];omega)).mono ?_);rintro L w6 ⟨D,q⟩;refine gA (p (l:=3) (by simp only[Fm.size];omega) q hg.2) λw7 E=>?_;refine vD (by simp only[List.length_append,List.length_singleton];omega) ?_;refine c _ _ ⟨?_,((s.trans o).trans D).trans E⟩;simp[Fm.body,Fm.txt,Fm.own]
   |or a b=>
    refine cA rfl (BA (d c λJ c=>cA rfl (BA (d c λJ c=>cA rfl (BA (d c λJ c=>cA rfl (BA (d c λJ c=>cA rfl (BA (d c λJ c=>iA rfl ?_))))))))));simp only[Fm.size]at hn;have t:=gE 1 a;have m:=gE 2 b;refine aA ((DA hs (g:=a) (gs:=[b]) rfl (by simp only[Fm.size];omega)).mono ?_);rintro u w4 ⟨s,n⟩;refine gA (p (l:=1) (by simp only[Fm.size];omega) n hg.1) λM o=>?_;refine vD (b:=[124]) (by simp only[List.length_singleton];omega) ?_;have I:=(hs.ext s).ext o;refine aA ((zA I (g:=a) (h:=b) rfl (by simp only[Fm.size];omega)).mono ?_);rintro L w6 ⟨D,q⟩;refine gA (p (l:=2) (by simp only[Fm.size];omega) q hg.2) λw7 E=>?_;refine vD (by simp only[List.length_append,List.length_singleton];omega) ?_;refine c _ _ ⟨?_,((s.trans o).trans D).trans E⟩;simp[Fm.body,Fm.txt,Fm.own]
   |imp a b=>
    refine cA rfl (BA (d c λJ c=>cA rfl (BA (d c λJ c=>cA rfl (BA (d c λJ c=>cA rfl (BA (d c λJ c=>cA rfl (BA (d c λJ c=>cA rfl (BA (d c λJ c=>iA rfl ?_))))))))))));have Q:(Fm.imp a b).body=if b= .fls then(if a= .fls then[84]else 126::par (decide (a.own<3)) a.body)else par (decide (a.own<1)) a.body++62::b.body:=by rw[Fm.body]
    have R:(Fm.imp a b).own=if b= .fls then 3 else 0:=by rw[Fm.own]
    refine aA ((uT w).mono ?_);rintro vt aj ⟨N,ac⟩;refine gA (GQ (hs.ext N) ac.sl (by omega)) λak S=>?_;have A:=N.trans S;have Z:=hs.ext A;have ah:(Fm.imp a b).size=1+a.size+b.size:=rfl;refine d c λJ c=>?_;refine dA (λh=>?_) (λh=>?_)
    ·cases h;exact c _ _ ⟨by simp[Fm.body,Fm.own],A⟩
    ·refine aA ((zA Z (g:=a) (h:=b) rfl (by omega)).mono ?_);rintro u al ⟨T,n⟩;have C:=A.trans T;have H:=hs.ext C;refine eB (j:=0) n rfl b.size_pos (by decide) (rA n).1 ?_;refine BA ?_;refine d c λJ c=>?_;refine dA (λm=>?_) (λm=>?_)
     ·have m:b= .fls:=by cases b<;>first|rfl|(simp[Fm.kind]at m)
      have t:¬a= .fls:=λr=>h (by rw[r,m]);have ae:=gE 3 a;refine aA ((DA H (g:=a) (gs:=[b]) rfl (by omega)).mono ?_);rintro L am ⟨U,q⟩;refine gA (p (l:=3) (by omega) q hg.1) λan V=>?_;refine vD (a:=[126]) (by simp only[List.length_singleton];omega) ?_;refine c _ _ ⟨?_,(C.trans U).trans V⟩;rw[Q,R,if_pos m,if_pos m,if_neg t];rfl
     ·have m:¬b= .fls:=λr=>m (by rw[r];rfl);have ad:=gE 1 a;have af:=gE 0 b;refine aA ((DA H (g:=a) (gs:=[b]) rfl (by omega)).mono ?_);rintro L ao ⟨O,q⟩;refine gA (p (l:=1) (by omega) q hg.1) λap P=>?_;refine vD (b:=[62]) (by simp only[List.length_singleton];omega) ?_;have aa:=(H.ext O).ext P;refine aA ((zA aa (g:=a) (h:=b) rfl (by omega)).mono ?_);rintro ai aq ⟨W,ab⟩;refine gA (p (l:=0) (by omega) ab hg.2) λar X=>?_;refine vD (by simp only[List.length_append,List.length_singleton];omega) ?_;refine c _ _ ⟨?_,(((C.trans O).trans P).trans W).trans X⟩;rw[Q,R,if_neg m,if_neg m];simp[Fm.txt,par]
theorem AB(d:oC w v r)(b:r.good)(c:r.size<=1099511627776):CB prog 48 #[v] w (sv r.body):=by
 apply rb;unfold UU;refine gA (IQ _ (lv:=0) (Nat.le_refl _) d b c) λe a=>?_;rw[CE (Nat.zero_le _)];exact⟨by first|trivial|rfl,a⟩
theorem vW(t:jA)(w:World):nA prog 121 #[sv t] w λr f=>bA w f/\ ∃v,r= .tuple #[v,iv (Hs t:Int),iv (PF t)]/\(PF t=0->iL w.heap.size f v (rd t).1)/\(¬PF t=0->v= .slice none 0 0):=by
 apply HX;unfold cM;refine HD ?_;refine jB ?_;refine dA (λh=>?_) (λh=>?_)
 ·have a:PF t=3:=by unfold PF;rw[if_pos (by omega)]
  have b:Hs t=0:=by unfold Hs;rw[if_pos (by omega)]
  rw[a,b];exact⟨bA.refl _,_,rfl,(λh=>by cases h),λ_=>rfl⟩
 ·have a:PF t=if pK t then(if 40<(rd t).1.size then 3 else 0)else 6:=by unfold PF;rw[if_neg (by omega)]
  have b:Hs t=if pK t then 0 else Ut t:=by unfold Hs;rw[if_neg (by omega)]
  refine aA ((JH (by omega) w).mono ?_);rintro r i ⟨d,v,rfl,e,-⟩;refine lD ?_;refine mD ?_;cases c:pK t
  ·rw[if_neg (by decide)];refine LF ?_;refine iA (by simp) ?_;rw[a,b,c];exact⟨d,_,rfl,(λh=>by cases h),λ_=>rfl⟩
  ·rw[if_pos rfl];refine LF ?_;refine cA (by decide) ?_;rw[a,b,c,if_pos rfl];refine VB (e c).sl ?_;refine jB ?_;refine dA (λg=>?_) (λg=>?_)
   ·rw[if_pos (show 40<(rd t).1.size by omega)];exact⟨d,_,rfl,(λh=>by cases h),λ_=>rfl⟩
   ·rw[if_neg (show¬40<(rd t).1.size by omega)];exact⟨d,_,rfl,λ_=>e c,λh=>absurd rfl h⟩
theorem TD(t:jA)(w:World):nA prog 46 #[sv t] w λr c=>bA w c/\ ∃v,r= .tuple #[v,.bool (YK t)]/\(PF t=0->iL w.heap.size c v (rd t).1):=by
 apply Za;unfold PU;refine aA ((vW t w).mono ?_);rintro r i ⟨g,v,rfl,e,-⟩;refine He ?_;refine Ie ?_;refine Je ?_;refine WB (λf c=>f=[v,.bool (YK t)]/\bA i c) (λJ b=>?_) ?_
 ·refine BA ?_;unfold YK at b;refine dA (λa=>?_) (λa=>?_)
  ·rw[decide_eq_true a,Bool.true_and]at b;refine gA (AB (e a).sl (ia t) (by have:=(n0 a).1;omega)) λk h=>?_;exact yB (b _ _ ⟨rfl,h⟩)
  ·rw[decide_eq_false a,Bool.false_and]at b;exact b _ _ ⟨rfl,bA.refl _⟩
 ·rintro f j ⟨rfl,d⟩;intro _;exact⟨g.trans d,v,rfl,λa=>(e a).ext d⟩
def eL:List jA:=[[73,110,116],[67,76],[75],[68],[84],[75,52],[83,52],[83,53],[75,66],[71,76]]
def pA(t:jA):Nat:=eL.idxOf t
section
universe u
variable{α:Type u}{enc:α->Value}{P:Program}
structure ED(lo:Nat)(e:TypeId)(enc:α->Value)(v:Value)(w w':World)(L':List α):Prop where
 ow:Ow lo e w' v (L'.map enc)
 ch:Ch (λc=>v.ownBlock=some c) w w'
theorem ED.refl{e:List α}(h:Ow x H w v (e.map enc)):ED x H enc v w w e:=⟨h,(bA.refl w).ch⟩
theorem ED.ext{b:World}{e:List α}(h:ED x H enc v w a e)(k:bA a b):ED x H enc v w b e:=
 ⟨h.ow.ext k,h.ch.trans (k.ch (S:=λ_=>False)) λ_ H=>H.elim⟩
theorem ED.trans{c:World}{e b:List α}(h:ED x H enc v w a e)(k:ED x H enc v a c b):ED x H enc v w c b:=
 ⟨k.ow,h.ch.trans k.ch λ_ H=>.inl H⟩
theorem NC[Inhabited α]{e:List α}{j:Nat}(d:Ow x H w v (e.map enc))(f:o=(j:Int))(a:j<e.length)(h:z (enc (gt e j))):wA 1 v (.int b o) λp=>kA w p z:=by
 subst f;refine Aj d (by omega) (by rw[List.length_map];omega) λg i _ _ _ c _ _=>DD (c.trans ?_) h;rw[Int.toNat_natCast,LA a];simp[a]
theorem HZ{e:List α}{s:Int}{i j:Nat}{Q:IntKind}{a y:α}(hE:∀a,vA (enc a)=true)(q:Ow x H w v (e.map enc))(N:o=(i:Int))(O:s=(j:Int))(n:i<e.length)(p:j<e.length)
  (B:∀w',ED x H enc v w w' ((e.set i a).set j y)->l w'):
  wA 1 v (.int b o) λR=>∀d,bA w d->KC d R (enc a) λU=>wA 1 v (.int Q s) λT=>∀f,bA U f->KC f T (enc y) λV=>∀g,bA V g->l g:=by
 subst N;subst O;refine sh q (by rw[List.length_map];exact n) λh D t=>?_;intro d k;obtain⟨F,J,L⟩:=t d _ rfl (q.ext k);refine rt (F.trans (List.getElem?_eq_getElem (by rw[List.length_map];exact n))) J (hE a) ?_;have r:=L (enc a);have G:Ch (λc=>v.ownBlock=some c) w (d.setCell ⟨h,i,none⟩ (enc a)):=(k.ch (S:=λc=>v.ownBlock=some c)).trans ((PI.setCell d h i _).ch (S:=λc=>v.ownBlock=some c) D) λ_ H=>.inl H;refine sh r (by rw[List.length_set,List.length_map];exact p) λA E z=>?_;intro f m;obtain⟨I,K,M⟩:=z f _ rfl (r.ext m);refine rt (I.trans (List.getElem?_eq_getElem (by rw[List.length_set,List.length_map];exact p))) K (hE y) ?_;intro g C;refine B g (ED.ext ⟨?_,?_⟩ C)
 ·have:=M (enc y)
  rwa [<-List.map_set,<-List.map_set]at this
 ·exact(G.trans (m.ch (S:=λc=>v.ownBlock=some c)) λ_ H=>.inl H).trans ((PI.setCell f A j _).ch (S:=λc=>v.ownBlock=some c) E) λ_ H=>.inl H
end
section
variable{P:Program}{w:World}{lo:Nat}{e:TypeId}
theorem Ow.open(h:Ow lo e w v y)(f:y≠[]):∃g a,v= .slice (some ⟨g,0,none⟩) y.length a/\y.length<=a/\a<=9223372036854775807:=by
 obtain⟨_,⟨_,b⟩|⟨g,a,j,i,_,_,c,d,_⟩⟩:=h
 ·exact absurd (List.length_eq_zero_iff.1 b) f
 ·exact⟨g,a,i,c,d⟩
theorem Ow.at{xs:List Value}(a:Ow lo e w (.slice (some ⟨x,0,none⟩) n f) xs)(b:xs.length=n){j:Nat}(c:j<n):w.cell? ⟨x,j,none⟩=xs[j]?:=by
 have h:w.ownsRow lo e 1 (.slice (some ⟨x,0,none⟩) n f) n xs:=by unfold Ow at a;rw[b]at a;exact a
 exact h.cellAt j (by omega)
theorem Ow.same(h:Ow lo e w v y)(m:∀c,v.ownBlock=some c->a.heap[c]?=w.heap[c]?):Ow lo e a v y:=by
 obtain⟨b,h|⟨g,f,i,d,k,l,j⟩⟩:=h
 ·exact⟨b,.inl h⟩
 ·exact⟨b,.inr ⟨g,f,i,d,k,by rw[m g (by rw[d];rfl)];exact l,j⟩⟩
theorem xh{k:Nat}(c:k<n)(a:n<=f)(h:z (.slice (some ⟨x,k,none⟩) (n-k) (f-k))):qP 1 (.slice (some ⟨x,0,none⟩) n f) (some (.int b (k:Int))) none z:=by
 refine⟨_,_,_,k,n,rfl,rfl,⟨b,rfl⟩,by omega,a,?_⟩;rw[if_neg (by omega),Option.map_some,XD,Nat.zero_add,Nat.mul_one];exact h
theorem wh{k:Nat}(c:k<=n)(a:n<=f)(h:z (.slice (some ⟨x,0,none⟩) k f)):qP 1 (.slice (some ⟨x,0,none⟩) n f) none (some (.int b (k:Int))) z:=by
 refine⟨_,_,_,0,k,rfl,⟨b,rfl⟩,rfl,Nat.zero_le _,by omega,?_⟩;have e:(if f=0 then some (⟨x,0,none⟩:Addr)else(some (⟨x,0,none⟩:Addr)).map (·.add (0*1)))=some ⟨x,0,none⟩:=by
  split
  ·rfl
  ·simp[Addr.add]
 rw[e,Nat.sub_zero,Nat.sub_zero];exact h
theorem Nw{k:Nat}(I:P.underlying u=some (.slice e))(j:(P.info? e).map (λi=>(i.zero,i.size,i.bytes))=some (some v,1,x))(r:vA v=true)
  (G:Ow lo e w (.slice (some ⟨n,0,none⟩) f C) y)(l:y.length=f)(N:k<f)(B:∀w',Ow lo e w' (.slice (some ⟨n,0,none⟩) k C) (y.take k)->Ch (λg=>g=n) w w'->t (.tuple #[]) w'):
  nD P (Builtin.clear_ #[u] H #[.slice (some ⟨n,k,none⟩) (f-k) (C-k)]) w t:=by
 obtain⟨i,j,d⟩:=Option.map_eq_some_iff.1 j;simp only[Prod.mk.injEq]at d;obtain⟨J,-,-⟩:=d;obtain⟨-,⟨b,-⟩|⟨M,K,c,b,E,p,m,o,d,h⟩⟩:=G
 ·cases b
 ·injection b with a L A
  injection a with a
  injection a with a
  subst a;subst A;rw[l]at m h;rw[Nat.mul_one]at d h;have s:(Builtin.zeroCells v.cells (f-k)).toList=List.replicate (f-k) v:=by
   rw[sA r];simp[Builtin.zeroCells];apply List.ext_getElem
   ·simp
   ·intro i m o;simp[Nat.mod_one]
  have q:=run_storeCells_at P n k e (List.replicate (f-k) v) 0 c w p (by rw[List.length_replicate];omega) (λO b=>tN (by rw[List.eq_of_mem_replicate b];exact r));refine⟨_,_,?_,B (w.setRow n (c.toList.take (k+0)++List.replicate (f-k) v++c.toList.drop (k+0+(List.replicate (f-k) v).length)).toArray) ?_ ?_⟩
  ·obtain⟨z,F⟩:∃z,f-k=z+1:=⟨f-k-1,by omega⟩
   rw[F]at q s⊢;simp[Builtin.clear_,run_underlying I,zeroValue,cL j,J,s,q]
  ·refine⟨by simp,.inr ⟨n,C,_,?_,E,setRow_heap w n c _ e (0,0) p,by rw[List.length_take];omega,o,?_,?_⟩⟩
   ·rw[List.length_take,l,Nat.min_eq_left (by omega)]
   ·simp;omega
   ·rw[List.length_take,l,Nat.min_eq_left (by omega),Nat.mul_one,Nat.add_zero,List.take_append_of_le_length (by simp;omega),List.take_append_of_le_length (by simp;omega),List.take_take,Nat.min_self,<-h,List.take_take,Nat.min_eq_left (by omega)]
  ·exact⟨rfl,rfl,rfl,by rw[setRow_size];exact Nat.le_refl _,λg _ D=>setRow_other w n g _ D⟩
end
theorem SX(a:jA)(w:World):CB prog 556 #[sv a] w (.bool false):=by
 apply cZ;unfold EM;refine j5 ?_;rw[show decide (¬a=a)=false by simp];exact⟨by first|trivial|rfl,bA.refl _⟩
theorem fB(a b:jA)(w:World):CB prog 384 #[sv a,sv b] w (.bool (wC a b)):=by
 apply V0;unfold ON;refine sB (wC a b) w (λJ e=>?_) (λg d=>?_)
 ·refine gA (SX a w) λf c=>?_;refine cA rfl ?_;refine Gv ?_;exact e f c
 ·intro _;simp only[gx];exact⟨by first|trivial|rfl,d⟩
theorem bH(E:Ow x fA w v (yA k))(I:n<=f)(D:f<=k.length)(hL:k.length<=1152921504606846976):
  nA prog 378 #[v,iv n,iv f] w λ_ c=>∃a,ED x fA sv v w c a/\uH n f k a/\QY wC n f a:=by
 apply lH;unfold WD;refine qA (by omega) ?_;refine MB (λi:Nat=>[iv i]) (λi c=>n+1<=i/\i<=f+1/\ ∃a,ED x fA sv v w c a/\uH n f k a/\QY wC n i a) (λi=>f+1-i) (n+1) (by simp) ⟨Nat.le_refl _,by omega,k,ED.refl E,.refl,QY.short (Nat.le_refl _)⟩ ?_;rintro i Q G ⟨L,M,p,t,m,s⟩ B;intro _;simp only[gx];refine jB ?_;refine dA (λu=>?_) (λu=>?_)
 ·have N:=m.len;refine MB (λj:Nat=>[iv j]) (λj c=>n<=j/\j<=i/\ ∃a,ED x fA sv v w c a/\uH n f k a/\Pp wC n i j a) (λj=>j) i rfl ⟨by omega,Nat.le_refl _,p,t,m,Pp.init s⟩ ?_;rintro j F H ⟨K,r,d,l,o,q⟩ C;have O:=o.len;intro _;simp only[gx];refine sB (decide (n<j)&&wC (gt d j) (gt d (j-1))) F (λJ g=>?_) (λR A=>?_)
  ·refine jB ?_;refine dA (λz=>?_) (λz=>?_)
   ·rw[decide_eq_true (show n<j by omega),Bool.true_and]at g;refine NC (j:=j) l.ow rfl (by omega) ?_;refine HB (by omega) ?_;refine NC (j:=j-1) l.ow (by omega) (by omega) ?_;exact eC (λc _=>fB _ _ c) g
   ·rw[decide_eq_false (show¬n<j by omega),Bool.false_and]at g;exact g
  ·intro _;simp only[gx];have e:=l.ext A;cases b:decide (n<j)&&wC (gt d j) (gt d (j-1))
   ·refine cA rfl ?_;refine qA (by omega) ?_;refine B (i+1) _ ⟨by omega,by omega,d,e,o,q.done rI ?_ r⟩ (by omega);rw[Bool.and_eq_false_iff,decide_eq_false_iff_not]at b;rcases b with b|b
    ·exact .inl (by omega)
    ·rcases Nat.lt_or_ge n j with h|h
     ·exact .inr ⟨h,b⟩
     ·exact .inl h
   ·rw[Bool.and_eq_true,decide_eq_true_eq]at b;refine iA rfl ?_;refine HB (by omega) ?_;refine HB (by omega) ?_;refine NC (j:=j-1) e.ow (by omega) (by omega) ?_;refine NC (j:=j) e.ow rfl (by omega) ?_;refine HZ (i:=j) (j:=j-1) (λ_=>rfl) e.ow rfl (by omega) (by omega) (by omega) λP y=>?_;refine HB (by omega) ?_;rw[show(j:Int)-1=((j-1:Nat):Int)by omega];exact C (j-1) _ ⟨by omega,by omega,sw d j (j-1),e.trans y,.step o (by omega) (by omega) (by omega) (by omega) D,q.swap rI b.1 r (by omega) b.2⟩ (by omega)
 ·exact⟨p,t,m,s.mono (Nat.le_refl _) (by omega)⟩
theorem pH(y:Ow x fA w v (yA k))(t:n<=f)(u:f<=k.length)(hL:k.length<=1152921504606846976):
  nA prog 382 #[v,iv n,iv f] w λ_ e=>∃a,ED x fA sv v w e a/\uH n f k a:=by
 apply xH;unfold jE;refine HB (by omega) ?_;refine MB (λs:Nat×Int=>[iv (s.1:Int),iv s.2]) (λs e=>n<=s.1/\s.1<=f/\ -1<=s.2/\s.2<f/\(f:Int)-s.2<=s.1-n+1/\ ∃a,ED x fA sv v w e a/\uH n f k a) (λs=>f-s.1) (n,(f:Int)-1) rfl ⟨Nat.le_refl _,t,by show-1<=(f:Int)-1;omega,by show(f:Int)-1<f;omega,by show(f:Int)-((f:Int)-1)<=n-n+1;omega,k,ED.refl y,.refl⟩ ?_;rintro⟨i,j⟩ B z ⟨c,h,m,o,l,g,b,d⟩ r;have c:n<=i:=c;have h:i<=f:=h;have m:-1<=j:=m;have o:j<f:=o;have l:(f:Int)-j<=i-n+1:=l;have A:=d.len;intro _;simp only[gx];refine jB ?_;refine dA (λp=>?_) (λp=>?_)
 ·refine NC (j:=j.toNat) b.ow (by omega) (by omega) ?_;refine NC (j:=i) b.ow rfl (by omega) ?_;refine HZ (i:=i) (j:=j.toNat) (λ_=>rfl) b.ow rfl (by omega) (by omega) (by omega) λC q=>?_;refine qA (by omega) ?_;refine HB (by omega) ?_;exact r (i+1,j-1) _ ⟨by show n<=i+1;omega,by show i+1<=f;omega,by show-1<=j-1;omega,by show j-1<f;omega,by show(f:Int)-(j-1)<=((i+1:Nat):Int)-n+1;omega,sw g i j.toNat,b.trans q,.step d c (by omega) (by omega) (by omega) u⟩ (by show f-(i+1)<f-i;omega)
 ·exact⟨g,b,d⟩
theorem QE{L:List jA}{lo hi first:Nat}(I:Ow x fA w v (yA L))(G:lo<=hi)(P:first+hi<=L.length)(hL:L.length<=1152921504606846976)(F:Fg wC first (lo+1) hi L):
  nA prog 551 #[v,iv lo,iv hi,iv first] w λ_ k=>∃g,ED x fA sv v w k g/\uH (first+lo) (first+hi) L g/\Fg wC first lo hi g:=by
 apply wJ;unfold dF;refine MB (λr:Nat=>[iv r]) (λr k=>lo<=r/\r<=hi/\ ∃g,ED x fA sv v w k g/\uH (first+lo) (first+hi) L g/\Gg wC first lo hi r g) (λr=>hi-r) lo rfl ⟨Nat.le_refl _,G,L,ED.refl I,.refl,Gg.init F⟩ ?_;rintro r M O ⟨H,S,a,n,o,p⟩ E;have Q:=o.len;intro _;simp only[gx];refine Bj (by omega) ?_;refine qA (by omega) ?_;(with_reducible refine LF ?_);refine dA (λz=>?_) (λz=>?_)
 ·exact⟨a,n,o,p.done λc f s=>by omega⟩
 ·have R:r<hi:=by omega
  refine sB (decide (2*r+2<hi)&&wC (gt a (first+(2*r+1))) (gt a (first+(2*r+2)))) M (λJ h=>?_) (λN B=>?_)
  ·refine qA (by omega) ?_;(with_reducible refine jB ?_);refine dA (λd=>?_) (λd=>?_)
   ·rw[decide_eq_true (show 2*r+2<hi by omega),Bool.true_and]at h;refine qA (by omega) ?_;refine NC (j:=first+(2*r+1)) n.ow (by omega) (by omega) ?_;refine qA (by omega) ?_;refine qA (by omega) ?_;refine NC (j:=first+(2*r+2)) n.ow (by omega) (by omega) ?_;exact eC (λk _=>fB _ _ k) h
   ·rw[decide_eq_false (show¬2*r+2<hi by omega),Bool.false_and]at h;exact h
  ·intro _;simp only[gx];have K:=n.ext B;refine WB (λy u=>bA N u/\ ∃c:Nat,y=[iv c]/\(c=2*r+1∨c=2*r+2)/\c<hi/\ ∀e,(e=2*r+1∨e=2*r+2)->e<hi->wC (gt a (first+c)) (gt a (first+e))=false) (λJ h=>?_) ?_
   ·cases f:decide (2*r+2<hi)&&wC (gt a (first+(2*r+1))) (gt a (first+(2*r+2)))
    ·refine cA rfl ?_;refine h _ _ ⟨bA.refl _,2*r+1,rfl,.inl rfl,by omega,λe b m=>?_⟩;rcases b with b|b
     ·subst b;exact rI.rfl _
     ·subst b;rw[decide_eq_true m,Bool.true_and]at f;exact f
    ·rw[Bool.and_eq_true,decide_eq_true_eq]at f;refine iA rfl ?_;refine qA (by omega) ?_;refine h _ _ ⟨bA.refl _,2*r+2,rfl,.inr rfl,f.1,λe b m=>?_⟩;rcases b with b|b
     ·subst b;exact rI.asym f.2
     ·subst b;exact rI.rfl _
   ·rintro y u ⟨C,c,rfl,f,s,t⟩;intro _;simp only[gx];have q:=K.ext C;refine qA (by omega) ?_;refine NC (j:=first+r) q.ow (by omega) (by omega) ?_;refine qA (by omega) ?_;refine NC (j:=first+c) q.ow (by omega) (by omega) ?_;refine eC (λk _=>fB _ _ k) ?_;refine TA ?_;intro U D;have l:=q.ext D;refine kB (λd=>?_) (λd=>?_)
    ·refine⟨a,l,o,p.done λe b m=>?_⟩;have d:wC (gt a (first+r)) (gt a (first+c))=false:=by simpa using d
     exact rI.tr (t e b m) d
    ·have d:wC (gt a (first+r)) (gt a (first+c))=true:=by simpa using d
     refine qA (by omega) ?_;refine qA (by omega) ?_;refine qA (by omega) ?_;refine NC (j:=first+c) l.ow (by omega) (by omega) ?_;refine qA (by omega) ?_;refine NC (j:=first+r) l.ow (by omega) (by omega) ?_;refine HZ (i:=first+r) (j:=first+c) (λ_=>rfl) l.ow (by omega) (by omega) (by omega) (by omega) λT A=>?_;exact E c _ ⟨by omega,by omega,sw a (first+r) (first+c),l.trans A,.step o (by omega) (by omega) (by omega) (by omega) (by omega),p.swap rI H f s (by omega) d t⟩ (by omega)
theorem jJ{lo:Nat}{L:List jA}(R:Ow lo fA w v (yA L))(Y:x<n)(Z:n<=L.length)(hL:L.length<=1152921504606846976):
  nA prog 379 #[v,iv x,iv n] w λ_ l=>∃b,ED lo fA sv v w l b/\uH x n L b/\QY wC x n b:=by
 apply vJ;unfold cF;obtain⟨a,rfl⟩:∃a,n=x+a:=⟨n-x,by omega⟩
 refine HB (by omega) ?_;refine HB (by omega) ?_;refine d9 (by omega) ?_;refine MB (λs:Nat=>[iv ((s:Int)-1)]) (λs l=>s<=a/\ ∃b,ED lo fA sv v w l b/\uH x (x+a) L b/\Fg wC x s a b) (λs=>s) ((a-1)/2+1) (by congr 2;omega) ⟨by omega,L,ED.refl R,.refl,λp B e d f=>by omega⟩ ?_;rintro s w2 W ⟨T,I,z,A,D⟩ O;have ab:=A.len;intro _;simp only[gx];refine LF ?_;refine dA (λK=>?_) (λK=>?_)
 ·rw[show(s:Int)-1=((s-1:Nat):Int)by omega,show((x+a:Nat):Int)-x=(a:Int)by omega];refine aA ?_;refine(QE (lo:=s-1) (hi:=a) (first:=x) z.ow (by omega) (by omega) (by omega) (by rw[show s-1+1=s by omega];exact D)).mono λ_ w3 f=>?_;obtain⟨c,g,h,r⟩:=f;refine HB (by omega) ?_;exact O (s-1) _ ⟨by omega,c,z.trans g,A.trans (h.mono (by omega) (Nat.le_refl _) (by omega)),r⟩ (by omega)
 ·refine HB (by omega) ?_;have S:s=0:=by omega
  subst S;refine MB (λs:Nat=>[iv ((s:Int)-1)]) (λs l=>s<=a/\ ∃b,ED lo fA sv v w l b/\uH x (x+a) L b/\Fg wC x 0 s b/\(∀p q,x<=p->p<q->x+s<=q->q<x+a->wC (gt b q) (gt b p)=false)) (λs=>s) a (by congr 2;omega) ⟨Nat.le_refl _,I,z,A,D,λp q e d f o=>by omega⟩ ?_;rintro s w5 X ⟨T,c,g,h,r,t⟩ P;have ac:=h.len;intro _;simp only[gx];refine LF ?_;refine dA (λN=>?_) (λN=>?_)
  ·refine qA (by omega) ?_;refine qA (by omega) ?_;refine NC (j:=x+(s-1)) g.ow (by omega) (by omega) ?_;refine NC (j:=x) g.ow rfl (by omega) ?_;refine HZ (i:=x) (j:=x+(s-1)) (λ_=>rfl) g.ow rfl (by omega) (by omega) (by omega) λad C=>?_;rw[show(s:Int)-1=((s-1:Nat):Int)by omega];have m:∀k,gt (sw c x (x+(s-1))) k=if k=x+(s-1)then gt c x else if k=x then gt c (x+(s-1))else gt c k:=kT (by omega) (by omega)
   have u:uH x (x+a) c (sw c x (x+(s-1))):=.one (by omega) (by omega) (by omega) (by omega) (by omega);have G:=Fg.top rI r;refine aA ?_;refine(QE (L:=sw c x (x+(s-1))) (lo:=0) (hi:=s-1) (first:=x) C.ow (by omega) (by rw[u.len];omega) (by rw[u.len];omega) (λp B e d f=>by
    rw[m,m,if_neg (by omega),if_neg (by omega),if_neg (by omega),if_neg (by omega)];exact r p B (by omega) d (by omega))).mono λ_ ae M=>?_
   obtain⟨J,U,y,Q⟩:=M;refine HB (by omega) ?_;refine P (s-1) _ ⟨by omega,J,(g.trans C).trans U,(h.trans u).trans (y.mono (by omega) (by omega) (by rw[u.len];omega)),Q,λp q e d f o=>?_⟩ (by omega);rw[y.out (k:=q) (by omega)];have H:∀p,x<=p->p<q->wC (gt (sw c x (x+(s-1))) q) (gt (sw c x (x+(s-1))) p)=false:=λp e d=>by
    rw[m,m];by_cases F:q=x+(s-1)
    ·rw[if_pos F,if_neg (by omega)];split
     ·exact G _ (by omega)
     ·obtain⟨k,rfl⟩:∃k,p=x+k:=⟨p-x,by omega⟩
      exact G _ (by omega)
    ·rw[if_neg F,if_neg (by omega)];split
     ·exact t x q (by omega) (by omega) (by omega) o
     ·split
      ·exact t _ q (by omega) (by omega) (by omega) o
      ·exact t p q e d (by omega) o
   rcases Nat.lt_or_ge p (x+(s-1))with E|E
   ·exact y.all (p:=λV=>wC (gt (sw c x (x+(s-1))) q) V=false) (λk hk aa=>H k (by omega) (by omega)) p (by omega) E
   ·rw[y.out (k:=p) (by omega)];exact H p e d
  ·exact⟨c,g,h,λp q e d f=>t p q e d (by omega) f⟩
def N2:jA:=[0,1,2,2,3,3,3,3,4,4,4,4,4,4,4,4,5,5,5,5,5,5,5,5,5,5,5,5,5,5,5,5,6,6,6,6,6,6,6,6,6,6,6,6,6,6,6,6,6,6,6,6,6,6,6,6,6,6,6,6,6,6,6,6,
 7,7,7,7,7,7,7,7,7,7,7,7,7,7,7,7,7,7,7,7,7,7,7,7,7,7,7,7,7,7,7,7,7,7,7,7,7,7,7,7,7,7,7,7,7,7,7,7,7,7,7,7,7,7,7,7,7,7,7,7,7,7,7,7,
 8,8,8,8,8,8,8,8,8,8,8,8,8,8,8,8,8,8,8,8,8,8,8,8,8,8,8,8,8,8,8,8,8,8,8,8,8,8,8,8,8,8,8,8,8,8,8,8,8,8,8,8,8,8,8,8,8,8,8,8,8,8,8,8,
 8,8,8,8,8,8,8,8,8,8,8,8,8,8,8,8,8,8,8,8,8,8,8,8,8,8,8,8,8,8,8,8,8,8,8,8,8,8,8,8,8,8,8,8,8,8,8,8,8,8,8,8,8,8,8,8,8,8,8,8,8,8,8,8]
theorem Zq:∀x:Fin 256,x.val<2^(N2.getD x.val 0).toNat/\(1<=x.val->2^(N2.getD x.val 0).toNat<=2*x.val)/\(N2.getD x.val 0).toNat<=8:=by decide+kernel
theorem Bv{a:Int}(b:n<2^64)(h:∀x:Nat,x<=n->z (.int .u64 (x:Int))):OB bK .u64 (.int .u64 a) (.int .u64 (n:Int)) z:=by
 refine⟨_,_,rfl,rfl,?_⟩;have e:bK .u64 a (n:Int)=(((BitVec.ofInt 64 a&&& BitVec.ofInt 64 (n:Int)).toNat:Nat):Int):=by
  rw[show bK .u64 a (n:Int)=IntKind.u64.wrap ((BitVec.ofInt 64 a&&& BitVec.ofInt 64 (n:Int)).toNat:Nat)from rfl];exact IntWalk.u64_in _ (by have:=(BitVec.ofInt 64 a&&& BitVec.ofInt 64 (n:Int)).isLt;omega)
 rw[e];refine h _ ?_;rw[BitVec.toNat_and,zF,BitVec.toNat_ofNat,Nat.mod_eq_of_lt (a:=n) (by omega)];exact Nat.and_le_right
theorem ut(b:GA u w x [v])(d:vA i=true)(h:∀w',GA u w' x [i]->Ch (λc=>c=x) w w'->l w'):KC w (.pointer (some ⟨x,0,none⟩)) i l:=
 QH b (by simp) d λa=>h _ a ((PI.setCell w x 0 i).ch rfl)
theorem vh{j:Nat}(a:j<=64)(h:z (.int .u64 ((x/2^j:Nat):Int))):qU uM .u64 (.int .u64 (x:Int)) (.int .u64 (j:Int)) z:=by
 refine⟨_,_,_,rfl,rfl,by omega,?_⟩;rw[show uM .u64 (x:Int) (j:Int)=((x/2^j:Nat):Int)by
  unfold uM;rw[Int.toNat_natCast,show IntKind.u64.bits=64 from rfl,Nat.min_eq_left a,Int.fdiv_eq_ediv_of_nonneg _ (Int.le_of_lt (Int.pow_pos (by omega)))]
  push_cast
  rfl]
 exact h
set_option maxRecDepth 20000 in
theorem cY(D:x<2^63)(w:World):nA prog 388 #[.int .u64 (x:Int)] w λz g=>bA w g/\ ∃k:Nat,z=iv k/\x<2^k/\(1<=x->2^k<=2*x)/\k<=64:=by
 apply M1;unfold oO
 --at each join:what is left of x,and by how many bits it was shifted
 have t:∀{c m s:Nat},c=x/2^m->c/2^s=x/2^(m+s):=λ{c m s} h=>by rw[h,Nat.div_div_eq_div_mul,<-Nat.pow_add]
 (with_reducible refine LF ?_)
 refine WB (λf g=>bA w g/\ ∃c m:Nat,f=[.int .u64 (c:Int),iv m]/\c=x/2^m/\c<2^32/\(1<=m->1<=c)/\m<=32) (λJ e=>?_) ?_
 ·refine dA (λh=>?_) (λh=>?_)
  ·refine vh (j:=32) (by omega) ?_;exact e _ _ ⟨bA.refl _,_,32,rfl,rfl,by omega,by omega,by omega⟩
  ·exact e _ _ ⟨bA.refl _,x,0,rfl,by simp,by omega,by omega,by omega⟩
 rintro f H ⟨q,c,m,rfl,d,F,i,r⟩;intro _;simp only[gx]
 (with_reducible refine LF ?_)
 refine WB (λf g=>bA w g/\ ∃c m:Nat,f=[.int .u64 (c:Int),iv m]/\c=x/2^m/\c<2^16/\(1<=m->1<=c)/\m<=48) (λJ e=>?_) ?_
 ·refine dA (λh=>?_) (λh=>?_)
  ·refine vh (j:=16) (by omega) ?_;refine qA (by omega) ?_;exact e _ _ ⟨q,_,m+16,rfl,t d,by omega,by omega,by omega⟩
  ·exact e _ _ ⟨q,c,m,rfl,d,by omega,i,by omega⟩
 rintro f I ⟨o,c,m,rfl,d,E,i,r⟩;intro _;simp only[gx]
 (with_reducible refine LF ?_)
 refine WB (λf g=>bA w g/\ ∃c m:Nat,f=[.int .u64 (c:Int),iv m]/\c=x/2^m/\c<2^8/\(1<=m->1<=c)/\m<=56) (λJ e=>?_) ?_
 ·refine dA (λh=>?_) (λh=>?_)
  ·refine vh (j:=8) (by omega) ?_;refine qA (by omega) ?_;exact e _ _ ⟨o,_,m+8,rfl,t d,by omega,by omega,by omega⟩
  ·exact e _ _ ⟨o,c,m,rfl,d,by omega,i,by omega⟩
 rintro f K ⟨u,c,m,rfl,d,y,i,r⟩;intro _;simp only[gx];obtain⟨A,B,G⟩:c<2^(N2.getD c 0).toNat/\(1<=c->2^(N2.getD c 0).toNat<=2*c)/\(N2.getD c 0).toNat<=8:=Zq ⟨c,y⟩;refine⟨_,_,rfl,?_⟩;rw[IntWalk.u8_in _ (by omega)];refine Hp (l:=N2) (j:=c) (by show c<256;omega) ?_;refine BR (by omega) ?_;refine qA (by omega) ?_;refine⟨u,m+(N2.getD c 0).toNat,by first|rfl|(push_cast;rfl),?_,λC=>?_,by omega⟩
 ·have:=Nat.lt_div_mul_add (a:=x) (b:=2^m) (Nat.two_pow_pos m);rw[<-d]at this;have n:(c+1)*2^m<=2^(N2.getD c 0).toNat*2^m:=Nat.mul_le_mul_right _ A;rw[Nat.pow_add,Nat.mul_comm (2^m)];rw[Nat.add_mul]at n;omega
 ·rcases Nat.eq_zero_or_pos c with p|p
  ·have v:m=0:=by omega
   subst v;simp at d;omega
  ·have n:=Nat.mul_le_mul_left (2^m) (B p);have o:2^m*c<=x:=by rw[d];exact Nat.mul_div_le x (2^m)
   rw[Nat.pow_add];rw[Nat.mul_left_comm]at n;omega
theorem GO(a:x<2^63)(w:World):nA prog 235 #[.int .u64 (x:Int)] w λr b=>bA w b/\ ∃k:Nat,r=iv k/\x<2^k/\(1<=x->2^k<=2*x)/\k<=64:=by
 apply Y7;unfold qS;exact aA (cY a w)
theorem jP(a:1<=x)(j:x<=1152921504606846976)(w:World):nA prog 552 #[iv x] w λr g=>bA w g/\ ∃m:Nat,r= .int .u64 (m:Int)/\1<=m/\m<=2*x:=by
 apply aQ;unfold eI;refine ZO (by omega) ?_;refine aA ?_;refine(GO (by omega) w).mono λr l h=>?_;obtain⟨b,k,rfl,i,d,f⟩:=h;have c:=d a;refine⟨_,_,_,rfl,rfl,by omega,?_⟩;have e:cK .u64 1 (k:Int)=((2^k:Nat):Int):=by
  rw[show cK .u64 1 (k:Int)=IntKind.u64.wrap (1*2^min (k:Int).toNat 64)from rfl,Int.toNat_natCast,Nat.min_eq_left f,Int.one_mul,show((2:Int)^k)=((2^k:Nat):Int)by push_cast;rfl];exact IntWalk.u64_in _ (by omega)
 rw[e];exact⟨b,2^k,rfl,Nat.two_pow_pos k,c⟩
theorem EQ(j:GA u w x [.int .u64 o]):nA prog 553 #[.pointer (some ⟨x,0,none⟩)] w λA q=>∃y:Int,A= .int .u64 y/\GA u q x [.int .u64 y]/\Ch (λr=>r=x) w q:=by
 apply sR;unfold NI
 (with_reducible refine bB ?_);refine mA (by assumption) (by first|rfl|simp) ?_;(with_reducible refine bB ?_);refine mA (by assumption) (by first|rfl|simp) ?_
 refine⟨_,_,_,rfl,rfl,by omega,?_⟩;refine⟨_,_,rfl,rfl,?_⟩
 (with_reducible refine bB ?_)
 intro B c;refine ut (j.ext c) rfl λC k d=>?_;intro D e;have l:=k.ext e;have a:=oB ((c.ch.trans d λ_ u=>.inl u)) e
 clear k d
 (with_reducible refine bB ?_);refine mA (by assumption) (by first|rfl|simp) ?_;(with_reducible refine bB ?_);refine mA (by assumption) (by first|rfl|simp) ?_
 refine⟨_,_,_,rfl,rfl,by omega,?_⟩;refine⟨_,_,rfl,rfl,?_⟩
 (with_reducible refine bB ?_)
 intro E f;refine ut (l.ext f) rfl λF m t=>?_;intro G g;have n:=m.ext g;have b:=oB (tA (oB a f) t) g
 clear m l j a
 (with_reducible refine bB ?_);refine mA (by assumption) (by first|rfl|simp) ?_;(with_reducible refine bB ?_);refine mA (by assumption) (by first|rfl|simp) ?_
 refine⟨_,_,_,rfl,rfl,by omega,?_⟩;refine⟨_,_,rfl,rfl,?_⟩
 (with_reducible refine bB ?_)
 intro H h;refine ut (n.ext h) rfl λI p v=>?_;intro J i;have z:=p.ext i;have s:=oB (tA (oB b h) v) i
 clear p n b
 (with_reducible refine bB ?_);refine mA (by assumption) (by first|rfl|simp) ?_
 exact⟨_,rfl,z,s⟩
theorem aH(o:Ow x fA w v (yA k))(aa:n<=f)(L:f<=k.length)(hL:k.length<=1152921504606846976):
  nA prog 380 #[v,iv n,iv f] w λ_ h=>∃c,ED x fA sv v w h c/\uH n f k c:=by
 apply kH;unfold VD;obtain⟨a,rfl⟩:∃a,f=n+a:=⟨f-n,by omega⟩
 refine HB (by omega) ?_;rw[show((n+a:Nat):Int)-n=(a:Int)by omega];refine LF ?_;refine dA (λF=>?_) (λF=>?_)
 ·refine ZO (by omega) ?_;refine xC λg X ab G M=>?_;refine QH M (by simp[Value.cells]) rfl λN=>?_;have C:bA w (X.setCell ⟨g,0,none⟩ (.int .u64 (a:Int))):=kh G (by show w.heap.size<=g;omega) _;refine aA ?_;refine(jP (by omega) (by omega) _).mono λW w3 d=>?_;obtain⟨d,A,rfl,ad,ae⟩:=d;have O:=N.ext d;have U:=(o.ext C).ext d;have y:v.ownBlock≠some g:=o.lt (by omega);refine d9 (by omega) ?_;refine Bj (by omega) ?_;refine qA (by omega) ?_;refine HB (by omega) ?_;refine MB (λi:Nat=>[iv i]) (λi h=>n+a/4*2-1<=i/\(∃b,GA 474 h g [.int .u64 b])/\ ∃c,ED x fA sv v w h c/\uH n (n+a) k c) (λi=>n+a-i) (n+a/4*2-1) (by congr 2;omega)
   ⟨Nat.le_refl _,⟨_,O⟩,k,⟨U,((C.trans d).ch)⟩,.refl⟩ ?_
  rintro i w5 Kn ⟨hi,⟨b,P⟩,s,q,r⟩ K;have ac:=r.len;intro _;simp only[gx];refine d9 (by omega) ?_;refine Bj (by omega) ?_;refine qA (by omega) ?_;refine qA (by omega) ?_;refine LF ?_;refine dA (λH=>?_) (λH=>?_)
  ·refine aA ?_;refine(EQ P).mono λW Y I=>?_;obtain⟨ag,rfl,Q,u⟩:=I;have V:=q.ow.ch u λE S e=>y (e▸S);refine⟨_,_,rfl,rfl,?_⟩;rw[show IntKind.u64.wrap ((A:Int)-1)=((A-1:Nat):Int)by rw[IntWalk.u64_in _ (by omega)];omega];refine Bv (by omega) λb hx=>?_;refine BR (by omega) ?_;refine LF ?_;refine WB (λD B=>bA Y B/\ ∃z:Nat,D=[iv z]/\z<a) (λZ t=>?_) ?_
   ·refine dA (λJ=>?_) (λJ=>?_)
    ·refine HB (by omega) ?_;rw[show(b:Int)-a=((b-a:Nat):Int)by omega];exact t _ _ ⟨bA.refl _,b-a,rfl,by omega⟩
    ·exact t _ _ ⟨bA.refl _,b,rfl,by omega⟩
   rintro D B ⟨m,z,rfl,hz⟩;intro _;simp only[gx];have p:=V.ext m;have R:=Q.ext m;have T:=oB u m;refine qA (by omega) ?_;refine qA (by omega) ?_;refine NC (j:=n+z) p (by omega) (by omega) ?_;refine NC (j:=i) p rfl (by omega) ?_;refine HZ (i:=i) (j:=n+z) (λ_=>rfl) p rfl (by omega) (by omega) (by omega) λaf l=>?_;refine qA (by omega) ?_;refine K (i+1) _ ⟨by omega,⟨_,R.ch l.ch λe=>y e⟩,sw s i (n+z),⟨l.ow,?_⟩,.step r (by omega) (by omega) (by omega) (by omega) L⟩ (by omega);refine(q.ch.trans T λE e=>.inr ?_).trans l.ch λ_ e=>.inl e;omega
  ·exact⟨s,q,r⟩
 ·exact⟨k,ED.refl o,.refl⟩
theorem xD{i j:Nat}(g:Ow x fA w v (yA k))(r:i<k.length)(s:j<k.length)(o:GA u w n [iv f])(y:f<=1000):
  nA prog 652 #[v,iv i,iv j,.pointer (some ⟨n,0,none⟩)] w λt a=>∃c d m:Nat,t= .tuple #[iv c,iv d]/\((c=i/\d=j)∨(c=j/\d=i))/\m<=f+1/\GA u a n [iv m]/\Ch (λh=>h=n) w a:=by
 apply TK;unfold JF;refine NC (j:=j) g rfl s ?_;refine NC (j:=i) g rfl r ?_;refine eC (λa _=>fB _ _ a) ?_;intro z b;have e:=o.ext b;refine kB (λl=>?_) (λl=>?_)
 ·(with_reducible refine bB ?_);refine mA (by assumption) (by first|rfl|simp) ?_;refine qA (by omega) ?_;(with_reducible refine bB ?_)
  refine ut e rfl λA p q=>?_;exact⟨j,i,f+1,rfl,.inr ⟨rfl,rfl⟩,Nat.le_refl _,p,(b.ch.trans q λ_ u=>.inl u)⟩
 ·exact⟨i,j,f,rfl,.inl ⟨rfl,rfl⟩,by omega,e,b.ch⟩
theorem BF{L:List jA}{i j k:Nat}(p:Ow x fA w v (yA L))(o:v.ownBlock≠some n)(F:i<L.length)(G:j<L.length)(H:k<L.length)(A:GA u w n [iv f])(P:f<=900):
  nA prog 555 #[v,iv i,iv j,iv k,.pointer (some ⟨n,0,none⟩)] w λr y=>∃t s:Nat,r=iv t/\(t=i∨t=j∨t=k)/\s<=f+3/\GA u y n [iv s]/\Ch (λd=>d=n) w y:=by
 apply SK;unfold HF;refine aA ?_;refine(xD p F G A (by omega)).mono λr X a=>?_;obtain⟨J,K,V,rfl,a,Q,B,l⟩:=a;have q:=p.ch l λd g u=>o (u▸g)
 (with_reducible refine lD ?_;refine mD ?_)
 refine aA ?_;refine(xD (i:=K) q (by rcases a with h|h<;>omega) H B (by omega)).mono λr Y b=>?_;obtain⟨M,U,W,rfl,b,R,C,m⟩:=b;have I:=q.ch m λd g u=>o (u▸g)
 (with_reducible refine lD ?_;refine mD ?_)
 refine aA ?_;refine(xD (i:=J) (j:=M) I (by rcases a with h|h<;>omega) (by rcases a with h|h<;>rcases b with c|c<;>omega) C (by omega)).mono λr Z e=>?_;obtain⟨T,N,O,rfl,e,S,D,E⟩:=e
 (with_reducible refine lD ?_;refine mD ?_)
 exact⟨N,O,rfl,by rcases a with h|h<;>rcases b with c|c<;>rcases e with z|z<;>omega,by omega,D,tA (tA l m) E⟩
theorem yC{L:List jA}{i:Nat}(h:Ow x fA w v (yA L))(g:v.ownBlock≠some f)(l:1<=i)(c:i+1<L.length)(hL:L.length<=1152921504606846976)(b:GA u w f [iv n])(e:n<=900):
  nA prog 554 #[v,iv i,.pointer (some ⟨f,0,none⟩)] w λr a=>∃t m:Nat,r=iv t/\(t=i-1∨t=i∨t=i+1)/\m<=n+3/\GA u a f [iv m]/\Ch (λd=>d=f) w a:=by
 apply XG;unfold PD;refine HB (by omega) ?_;refine qA (by omega) ?_;rw[show(i:Int)-1=((i-1:Nat):Int)by omega];refine aA ?_;exact BF (i:=i-1) (j:=i) (k:=i+1) h g (by omega) (by omega) c b e
theorem DH{L:List jA}(G:Ow x fA w v (yA L))(ai:f+8<=C)(hb:C<=L.length)(hL:L.length<=1152921504606846976):
  nA prog 381 #[v,iv f,iv C] w λr a=>bA w a/\ ∃t:Nat,∃aa:Int,r= .tuple #[iv t,iv aa]/\f<=t/\t<C:=by
 apply MH;unfold rE;obtain⟨n,rfl⟩:∃n,C=f+n:=⟨C-f,by omega⟩
 refine HB (by omega) ?_;rw[show((f+n:Nat):Int)-f=(n:Int)by omega];refine xC λc y aj z B=>?_;have b:v.ownBlock≠some c:=G.lt (by omega);have p:=G.ext z;have u:∀{a:World},Ch (λd=>d=c) y a->bA w a:=λ{a} h=>z.thenCh h λd e=>by omega
 refine d9 (by omega) ?_;refine Bj (by omega) ?_;refine qA (by omega) ?_;refine d9 (by omega) ?_;refine Bj (by omega) ?_;refine qA (by omega) ?_;refine d9 (by omega) ?_;refine Bj (by omega) ?_;refine qA (by omega) ?_;refine LF ?_;rw[show(f:Int)+(n:Int)/4*1=((f+n/4*1:Nat):Int)by omega,show(f:Int)+(n:Int)/4*2=((f+n/4*2:Nat):Int)by omega,show(f:Int)+(n:Int)/4*3=((f+n/4*3:Nat):Int)by omega];refine WB (λo a=>∃t m:Nat,o=[iv t]/\f<=t/\t<f+n/\GA 3 a c [iv m]/\Ch (λd=>d=c) y a) (λab O=>?_) ?_
 ·refine dA (λh=>?_) (λh=>?_)
  ·refine LF ?_;refine WB (λo a=>∃i j k m:Nat,o=[iv i,iv j,iv k]/\f<=i/\i<f+n/\f<=j/\j<f+n/\f<=k/\k<f+n/\m<=9/\GA 3 a c [iv m]/\Ch (λd=>d=c) y a) (λJ' A=>?_) ?_
   ·refine dA (λM=>?_) (λM=>?_)
    ·refine aA ?_;refine(yC (n:=0) p b (by omega) (by omega) hL B (by omega)).mono λr w2 I=>?_;obtain⟨i,m1,rfl,hi,al,P,E⟩:=I;have H:=p.ch E λd l e=>b (e▸l);refine aA ?_;refine(yC H b (by omega) (by omega) hL P (by omega)).mono λr Z J=>?_;obtain⟨j,m2,rfl,hj,am,D,g⟩:=J;have V:=H.ch g λd l e=>b (e▸l);refine aA ?_;refine(yC V b (by omega) (by omega) hL D (by omega)).mono λr w4 K=>?_;obtain⟨k,Y,rfl,hk,an,Q,T⟩:=K;exact A _ _ ⟨i,j,k,Y,rfl,by omega,by omega,by omega,by omega,by omega,by omega,by omega,Q,tA (tA E g) T⟩
    ·exact A _ _ ⟨_,_,_,0,rfl,by omega,by omega,by omega,by omega,by omega,by omega,by omega,B,(bA.refl _).ch⟩
   rintro o w5 ⟨i,j,k,m,rfl,ac,ad,ae,af,ag,ah,hm,R,F⟩;intro _;simp only[gx];have W:=p.ch F λd l e=>b (e▸l);refine aA ?_;refine(BF W b (i:=i) (j:=j) (k:=k) (by omega) (by omega) (by omega) R (by omega)).mono λr w6 N=>?_;obtain⟨t,X,rfl,ht,ak,S,U⟩:=N;exact O _ _ ⟨t,X,rfl,by omega,by omega,S,tA F U⟩
  ·omega
 rintro o Z ⟨t,m,rfl,q,s,D,g⟩;intro _;simp only[gx];refine mA (by assumption) (by first|rfl|simp) ?_;(with_reducible refine BA ?_);refine dA (λh=>?_) (λh=>?_)
 ·exact⟨u g,t,1,rfl,q,s⟩
 ·(with_reducible refine BA ?_)
  refine dA (λh=>?_) (λh=>?_)
  ·exact⟨u g,t,2,rfl,q,s⟩
  ·exact⟨u g,t,0,rfl,q,s⟩
theorem RG(E:Ow x fA w v (yA k))(ab:n<=C)(af:C<f)(N:f<=k.length)(hL:k.length<=1152921504606846976):
  nA prog 385 #[v,iv n,iv f,iv C] w λag c=>∃e:List jA,∃t:Nat,ag=iv t/\ED x fA sv v w c e/\uH n f k e/\n<t/\t<=f/\(∀a,n<=a->a<t->wC (gt k C) (gt e a)=false):=by
 apply YG;unfold QD;refine NC (j:=C) E rfl (by omega) ?_;refine NC (j:=n) E rfl (by omega) ?_;refine HZ (i:=n) (j:=C) (λ_=>rfl) E rfl rfl (by omega) (by omega) λw5 X=>?_;have H:gt (sw k n C) n=gt k C:=by rw[kT (by omega) (by omega)];split<;>simp_all
 refine qA (by omega) ?_;refine HB (by omega) ?_;refine MB (λs:Nat×Int=>[iv (s.1:Int),iv s.2]) (λs c=>n+1<=s.1/\s.1<=f/\(s.1:Int)-1<=s.2+1/\s.2<f/\ ∃e,ED x fA sv v w c e/\uH n f k e/\gt e n=gt k C/\ ∀a,n<=a->a<s.1->wC (gt k C) (gt e a)=false) (λs=>f-s.1) (n+1,(f:Int)-1) rfl
  ⟨Nat.le_refl _,by show n+1<=f;omega,by show((n+1:Nat):Int)-1<=(f:Int)-1+1;omega,by show(f:Int)-1<f;omega,sw k n C,X,.one (Nat.le_refl _) (by omega) ab af N,H,λa p m=>by have m:a<n+1:=m;rw[show a=n by omega,H];exact rI.rfl _⟩ ?_
 rintro⟨l,g⟩ T Kn ⟨P,y,z,Q,b,R,G,q,D⟩ Y;have P:n+1<=l:=P;have y:l<=f:=y;have z:(l:Int)-1<=g+1:=z;have Q:g<f:=Q;have D:∀a,n<=a->a<l->wC (gt k C) (gt b a)=false:=D;have an:=G.len;intro _;simp only[gx];refine MB (λi:Nat=>[iv i]) (λi c=>l<=i/\i<=f/\(i:Int)-1<=g+1/\bA T c/\ ∀a,n<=a->a<i->wC (gt k C) (gt b a)=false) (λi=>f-i) l rfl ⟨Nat.le_refl _,y,z,bA.refl _,D⟩ ?_;rintro i w9 aj ⟨hi,ac,ad,L,B⟩ aa;intro _;simp only[gx];have S:=R.ext L;refine sB (decide ((i:Int)<=g)&& !wC (gt b n) (gt b i)) w9 (λU d=>?_) (λao V=>?_)
 ·refine LF ?_;refine dA (λh=>?_) (λh=>?_)
  ·rw[decide_eq_true h,Bool.true_and]at d;refine NC (j:=n) S.ow rfl (by omega) ?_;refine NC (j:=i) S.ow rfl (by omega) ?_;exact eC (λc _=>fB _ _ c) (TA d)
  ·rw[decide_eq_false h,Bool.false_and]at d;exact d
 intro _;simp only[gx];have M:=L.trans V;cases O:decide ((i:Int)<=g)&& !wC (gt b n) (gt b i)
 rotate_left
 ·rw[Bool.and_eq_true,decide_eq_true_eq,Bool.not_eq_true']at O;refine iA rfl ?_;refine qA (by omega) ?_;refine aa (i+1) _ ⟨by omega,by omega,by omega,M,λa p m=>?_⟩ (by omega);by_cases r:a=i
  ·rw[r,<-q];exact O.2
  ·exact B a p (by omega)
 refine cA rfl ?_;refine MB (λj:Int=>[iv j]) (λj c=>j<=g/\(i:Int)-1<=j+1/\bA T c/\(j<g->(i:Int)-1<=j)) (λj=>(j+2).toNat) g rfl ⟨Int.le_refl _,ad,M,λh=>by omega⟩ ?_;rintro j ah ai ⟨am,ak,J,al⟩ Z;intro _;simp only[gx];have F:=R.ext J;refine sB (decide ((i:Int)<=j)&&wC (gt b n) (gt b j.toNat)) ah (λU d=>?_) (λap K=>?_)
 ·refine LF ?_;refine dA (λh=>?_) (λh=>?_)
  ·rw[decide_eq_true h,Bool.true_and]at d;refine NC (j:=n) F.ow rfl (by omega) ?_;refine NC (j:=j.toNat) F.ow (by omega) (by omega) ?_;exact eC (λc _=>fB _ _ c) d
  ·rw[decide_eq_false h,Bool.false_and]at d;exact d
 intro _;simp only[gx];have o:=F.ext K;cases u:decide ((i:Int)<=j)&&wC (gt b n) (gt b j.toNat)
 rotate_left
 ·rw[Bool.and_eq_true,decide_eq_true_eq]at u;refine iA rfl ?_;refine HB (by omega) ?_;exact Z (j-1) _ ⟨by omega,by omega,J.trans K,λ_=>by omega⟩ (by omega)
 refine cA rfl ?_;refine jB ?_;refine dA (λh=>?_) (λh=>?_)
 ·exact⟨b,i,rfl,o,G,by omega,ac,B⟩
 ·have A:wC (gt b n) (gt b j.toNat)=false:=by
   rw[decide_eq_true (show(i:Int)<=j by omega),Bool.true_and]at u;exact u
  refine NC (j:=j.toNat) o.ow (by omega) (by omega) ?_;refine NC (j:=i) o.ow rfl (by omega) ?_;refine HZ (i:=i) (j:=j.toNat) (λ_=>rfl) o.ow rfl (by omega) (by omega) (by omega) λaq W=>?_;refine qA (by omega) ?_;refine HB (by omega) ?_;have I:∀a,gt (sw b i j.toNat) a=if a=j.toNat then gt b i else if a=i then gt b j.toNat else gt b a:=kT (by omega) (by omega)
  refine Y (i+1,j-1) _ ⟨by show n+1<=i+1;omega,by show i+1<=f;omega,by show((i+1:Nat):Int)-1<=j-1+1;omega,by show j-1<f;omega,sw b i j.toNat,o.trans W,.step G (by omega) (by omega) (by omega) (by omega) N,by rw[I,if_neg (by omega),if_neg (by omega)];exact q,λa p m=>?_⟩ (by show f-(i+1)<f-l;omega);have m:a<i+1:=m;rw[I];by_cases r:a=i
  ·subst r;split
   ·rename_i ae;rw[<-ae,q]at A;exact A
   ·rw[if_pos rfl,<-q];exact A
  ·rw[if_neg (by omega),if_neg r];exact B a p (by omega)
theorem ik(m:x<=f)(p:f<n)(o:n<=k.length)(d:gt k x=s)(c:∀a,x+1<=a->a<=f->wC (gt k a) s=true)(l:∀a,f<a->a<n->wC (gt k a) s=false):BI wC x n f (sw k f x):=by
 have e:∀a,gt (sw k f x) a=if a=x then gt k f else if a=f then gt k x else gt k a:=kT (by omega) (by omega)
 have b:gt (sw k f x) f=s:=by
  rw[e];split
  ·rename_i j;rw[j];exact d
  ·rw[if_pos rfl];exact d
 refine⟨λa g h=>?_,λa g h=>?_⟩
 ·rw[b,e];by_cases i:a=x
  ·rw[if_pos i];exact c f (by omega) (Nat.le_refl _)
  ·rw[if_neg i,if_neg (by omega)];exact c a (by omega) (by omega)
 ·rw[b,e,if_neg (by omega),if_neg (by omega)];exact l a g h
theorem yI(hs:Ow x fA w v (yA k))(an:n<=C)(ax:C<f)(L:f<=k.length)(hL:k.length<=1152921504606846976):
  nA prog 386 #[v,iv n,iv f,iv C] w λay l=>∃p:List jA,∃T:Nat,∃bd:Bool,ay= .tuple #[iv T,.bool bd]/\ED x fA sv v w l p/\uH n f k p/\n<=T/\T<f/\BI wC n f T p:=by
 apply SI;unfold NE;refine NC (j:=C) hs rfl (by omega) ?_;refine NC (j:=n) hs rfl (by omega) ?_;refine HZ (i:=n) (j:=C) (λ_=>rfl) hs rfl rfl (by omega) (by omega) λw7 I=>?_;have I:ED x fA sv v w w7 (sw k n C):=I;have B:gt (sw k n C) n=gt k C:=by rw[kT (by omega) (by omega)];split<;>simp_all
 have S:uH n f k (sw k n C):=.one (Nat.le_refl _) (by omega) an ax L;have ar:=S.len;generalize sw k n C=b at I B S ar;refine qA (by omega) ?_;refine HB (by omega) ?_;obtain⟨O,be⟩:∃O,O=n+1:=⟨_,rfl⟩
 obtain⟨z,ap⟩:∃z:Int,z=(f:Int)-1:=⟨_,rfl⟩
 rw[show(n:Int)+1=(O:Int)by omega,<-ap];refine MB (λi:Nat=>[iv i]) (λi l=>O<=i/\(i:Int)<=z+1/\bA w7 l/\ ∀a,n+1<=a->a<i->wC (gt b a) (gt k C)=true) (λi=>f-i) O rfl ⟨Nat.le_refl _,by omega,bA.refl _,λa d e=>by omega⟩ ?_;rintro i w9 al ⟨hi,ac,J,u⟩ R;intro _;simp only[gx];have N:=I.ext J;refine sB (decide ((i:Int)<=z)&&wC (gt b i) (gt b n)) w9 (λX g=>?_) (λaz Z=>?_)
 ·refine LF ?_;refine dA (λh=>?_) (λh=>?_)
  ·rw[decide_eq_true h,Bool.true_and]at g;refine NC (j:=i) N.ow rfl (by omega) ?_;refine NC (j:=n) N.ow rfl (by omega) ?_;exact eC (λl _=>fB _ _ l) g
  ·rw[decide_eq_false h,Bool.false_and]at g;exact g
 intro _;simp only[gx];have K:=J.trans Z;cases q:decide ((i:Int)<=z)&&wC (gt b i) (gt b n)
 rotate_left
 ·rw[Bool.and_eq_true,decide_eq_true_eq]at q;refine iA rfl ?_;refine qA (by omega) ?_;refine R (i+1) _ ⟨by omega,by omega,K,λa d e=>?_⟩ (by omega);by_cases m:a=i
  ·rw[m,<-B];exact q.2
  ·exact u a d (by omega)
 refine cA rfl ?_;refine MB (λj:Int=>[iv j]) (λj l=>j<=z/\(i:Int)<=j+1/\bA w7 l/\ ∀a:Nat,j<a->a<f->wC (gt b a) (gt k C)=false) (λj=>(j+2).toNat) z rfl ⟨Int.le_refl _,ac,K,λa d e=>by omega⟩ ?_;rintro j ae ak ⟨aq,ao,G,y⟩ Q;intro _;simp only[gx];have E:=I.ext G;refine sB (decide ((i:Int)<=j)&& !wC (gt b j.toNat) (gt b n)) ae (λX g=>?_) (λba H=>?_)
 ·refine LF ?_;refine dA (λh=>?_) (λh=>?_)
  ·rw[decide_eq_true h,Bool.true_and]at g;refine NC (j:=j.toNat) E.ow (by omega) (by omega) ?_;refine NC (j:=n) E.ow rfl (by omega) ?_;exact eC (λl _=>fB _ _ l) (TA g)
  ·rw[decide_eq_false h,Bool.false_and]at g;exact g
 intro _;simp only[gx];have o:=E.ext H;cases r:decide ((i:Int)<=j)&& !wC (gt b j.toNat) (gt b n)
 rotate_left
 ·rw[Bool.and_eq_true,decide_eq_true_eq,Bool.not_eq_true']at r;refine iA rfl ?_;refine HB (by omega) ?_;refine Q (j-1) _ ⟨by omega,by omega,G.trans H,λa d e=>?_⟩ (by omega);by_cases m:(a:Int)=j
  ·rw[show a=j.toNat by omega,<-B];exact r.2
  ·exact y a (by omega) e
 refine cA rfl ?_;refine jB ?_;refine dA (λh=>?_) (λh=>?_)
 ·refine NC (j:=n) o.ow rfl (by omega) ?_;refine NC (j:=j.toNat) o.ow (by omega) (by omega) ?_;refine HZ (i:=j.toNat) (j:=n) (λ_=>rfl) o.ow (by omega) rfl (by omega) (by omega) λbb aa=>?_;exact⟨sw b j.toNat n,j.toNat,true,by rw[Int.toNat_of_nonneg (by omega)],o.trans aa,.step S (by omega) (by omega) (Nat.le_refl _) (by omega) L,by omega,by omega,ik (by omega) (by omega) (by omega) B (λa d e=>u a d (by omega)) (λa d e=>y a (by omega) e)⟩
 have D:wC (gt b i) (gt k C)=false:=by
  rw[decide_eq_true (show(i:Int)<=z by omega),Bool.true_and,B]at q;exact q
 have M:wC (gt b j.toNat) (gt k C)=true:=by
  rw[decide_eq_true (show(i:Int)<=j by omega),Bool.true_and,Bool.not_eq_false',B]at r;exact r
 have au:i≠j.toNat:=λY=>by rw[Y,M]at D;cases D
 refine NC (j:=j.toNat) o.ow (by omega) (by omega) ?_;refine NC (j:=i) o.ow rfl (by omega) ?_;refine HZ (i:=i) (j:=j.toNat) (λ_=>rfl) o.ow rfl (by omega) (by omega) (by omega) λbc ab=>?_;refine qA (by omega) ?_;refine HB (by omega) ?_;have t:∀a,gt (sw b i j.toNat) a=if a=j.toNat then gt b i else if a=i then gt b j.toNat else gt b a:=kT (by omega) (by omega)
 have U:∀a,n+1<=a->a<i+1->wC (gt (sw b i j.toNat) a) (gt k C)=true:=λa d e=>by
  rw[t,if_neg (by omega)];by_cases m:a=i
  ·rw[if_pos m];exact M
  ·rw[if_neg m];exact u a d (by omega)
 have V:∀a:Nat,j-1<a->a<f->wC (gt (sw b i j.toNat) a) (gt k C)=false:=λa d e=>by
  rw[t];by_cases m:a=j.toNat
  ·rw[if_pos m];exact D
  ·rw[if_neg m,if_neg (by omega)];exact y a (by omega) e
 have W:gt (sw b i j.toNat) n=gt k C:=by rw[t,if_neg (by omega),if_neg (by omega)];exact B
 refine MB (λs:Nat×Int=>[iv (s.1:Int),iv s.2]) (λs l=>n+1<=s.1/\(s.1:Int)<=s.2+1/\s.2<f/\ ∃p,ED x fA sv v w l p/\uH n f k p/\gt p n=gt k C/\(∀a,n+1<=a->a<s.1->wC (gt p a) (gt k C)=true)/\ ∀a:Nat,s.2<a->a<f->wC (gt p a) (gt k C)=false) (λs=>f-s.1) (i+1,j-1) rfl
  ⟨by show n+1<=i+1;omega,by show((i+1:Nat):Int)<=j-1+1;omega,by show j-1<f;omega,sw b i j.toNat,o.trans ab,.step S (by omega) (by omega) (by omega) (by omega) L,W,U,V⟩ ?_
 clear R Q W U V t u y
 rintro⟨P,A⟩ aj Kn ⟨af,ag,ah,c,ai,ad,F,av,aw⟩ am;have af:n+1<=P:=af;have ag:(P:Int)<=A+1:=ag;have ah:A<f:=ah;have bg:=ad.len;intro _;simp only[gx];refine MB (λi:Nat=>[iv i]) (λi l=>P<=i/\(i:Int)<=A+1/\bA aj l/\ ∀a,n+1<=a->a<i->wC (gt c a) (gt k C)=true) (λi=>f-i) P rfl ⟨Nat.le_refl _,by omega,bA.refl _,av⟩ ?_;rintro i w9 al ⟨hi,ac,J,u⟩ R;intro _;simp only[gx];have N:=ai.ext J;refine sB (decide ((i:Int)<=A)&&wC (gt c i) (gt c n)) w9 (λX g=>?_) (λaz Z=>?_)
 ·refine LF ?_;refine dA (λh=>?_) (λh=>?_)
  ·rw[decide_eq_true h,Bool.true_and]at g;refine NC (j:=i) N.ow rfl (by omega) ?_;refine NC (j:=n) N.ow rfl (by omega) ?_;exact eC (λl _=>fB _ _ l) g
  ·rw[decide_eq_false h,Bool.false_and]at g;exact g
 intro _;simp only[gx];have K:=J.trans Z;cases q:decide ((i:Int)<=A)&&wC (gt c i) (gt c n)
 rotate_left
 ·rw[Bool.and_eq_true,decide_eq_true_eq]at q;refine iA rfl ?_;refine qA (by omega) ?_;refine R (i+1) _ ⟨by omega,by omega,K,λa d e=>?_⟩ (by omega);by_cases m:a=i
  ·rw[m,<-F];exact q.2
  ·exact u a d (by omega)
 refine cA rfl ?_;refine MB (λj:Int=>[iv j]) (λj l=>j<=A/\(i:Int)<=j+1/\bA aj l/\ ∀a:Nat,j<a->a<f->wC (gt c a) (gt k C)=false) (λj=>(j+2).toNat) A rfl ⟨Int.le_refl _,ac,K,aw⟩ ?_;rintro j ae ak ⟨aq,ao,G,y⟩ Q;intro _;simp only[gx];have E:=ai.ext G;refine sB (decide ((i:Int)<=j)&& !wC (gt c j.toNat) (gt c n)) ae (λX g=>?_) (λba H=>?_)
 ·refine LF ?_;refine dA (λh=>?_) (λh=>?_)
  ·rw[decide_eq_true h,Bool.true_and]at g;refine NC (j:=j.toNat) E.ow (by omega) (by omega) ?_;refine NC (j:=n) E.ow rfl (by omega) ?_;exact eC (λl _=>fB _ _ l) (TA g)
  ·rw[decide_eq_false h,Bool.false_and]at g;exact g
 intro _;simp only[gx];have o:=E.ext H;cases r:decide ((i:Int)<=j)&& !wC (gt c j.toNat) (gt c n)
 rotate_left
 ·rw[Bool.and_eq_true,decide_eq_true_eq,Bool.not_eq_true']at r;refine iA rfl ?_;refine HB (by omega) ?_;refine Q (j-1) _ ⟨by omega,by omega,G.trans H,λa d e=>?_⟩ (by omega);by_cases m:(a:Int)=j
  ·rw[show a=j.toNat by omega,<-F];exact r.2
  ·exact y a (by omega) e
 refine cA rfl ?_;refine jB ?_;refine dA (λh=>?_) (λh=>?_)
 ·refine NC (j:=n) o.ow rfl (by omega) ?_;refine NC (j:=j.toNat) o.ow (by omega) (by omega) ?_;refine HZ (i:=j.toNat) (j:=n) (λ_=>rfl) o.ow (by omega) rfl (by omega) (by omega) λbb aa=>?_;exact⟨sw c j.toNat n,j.toNat,false,by rw[Int.toNat_of_nonneg (by omega)],o.trans aa,.step ad (by omega) (by omega) (Nat.le_refl _) (by omega) L,by omega,by omega,ik (by omega) (by omega) (by omega) F (λa d e=>u a d (by omega)) (λa d e=>y a (by omega) e)⟩
 have D:wC (gt c i) (gt k C)=false:=by
  rw[decide_eq_true (show(i:Int)<=A by omega),Bool.true_and,F]at q;exact q
 have M:wC (gt c j.toNat) (gt k C)=true:=by
  rw[decide_eq_true (show(i:Int)<=j by omega),Bool.true_and,Bool.not_eq_false',F]at r;exact r
 have au:i≠j.toNat:=λY=>by rw[Y,M]at D;cases D
 refine NC (j:=j.toNat) o.ow (by omega) (by omega) ?_;refine NC (j:=i) o.ow rfl (by omega) ?_;refine HZ (i:=i) (j:=j.toNat) (λ_=>rfl) o.ow rfl (by omega) (by omega) (by omega) λbc ab=>?_;refine qA (by omega) ?_;refine HB (by omega) ?_;have t:∀a,gt (sw c i j.toNat) a=if a=j.toNat then gt c i else if a=i then gt c j.toNat else gt c a:=kT (by omega) (by omega)
 have U:∀a,n+1<=a->a<i+1->wC (gt (sw c i j.toNat) a) (gt k C)=true:=λa d e=>by
  rw[t,if_neg (by omega)];by_cases m:a=i
  ·rw[if_pos m];exact M
  ·rw[if_neg m];exact u a d (by omega)
 have V:∀a:Nat,j-1<a->a<f->wC (gt (sw c i j.toNat) a) (gt k C)=false:=λa d e=>by
  rw[t];by_cases m:a=j.toNat
  ·rw[if_pos m];exact D
  ·rw[if_neg m,if_neg (by omega)];exact y a (by omega) e
 have W:gt (sw c i j.toNat) n=gt k C:=by rw[t,if_neg (by omega),if_neg (by omega)];exact F
 exact am (i+1,j-1) _ ⟨by show n+1<=i+1;omega,by show((i+1:Nat):Int)<=j-1+1;omega,by show j-1<f;omega,sw c i j.toNat,o.trans ab,.step ad (by omega) (by omega) (by omega) (by omega) L,W,U,V⟩ (by show f-(i+1)<f-P;omega)
theorem CF{a b:Nat}(hs:Ow x fA w v (yA k))(ax:a<b)(hb:b<=k.length)(hL:k.length<=1152921504606846976)(ao:Qk wC a b k):
  nA prog 383 #[v,iv a,iv b] w λr d=>∃ad:Bool,∃c:List jA,r= .bool ad/\ED x fA sv v w d c/\uH a b k c/\(ad=true->QY wC a b c):=by
 apply EF;unfold SC;refine qA (by omega) ?_;refine MB (λs:Nat×Nat=>[iv (s.1:Int),iv (s.2:Int)]) (λs d=>a+1<=s.1/\s.1<=b/\s.2<=5/\ ∃c,ED x fA sv v w d c/\uH a b k c/\QY wC a s.1 c) (λs=>5-s.2) (a+1,0) rfl ⟨Nat.le_refl _,by show a+1<=b;omega,Nat.zero_le _,k,ED.refl hs,.refl,QY.short (Nat.le_refl _)⟩ ?_;rintro⟨C,r⟩ w2 Kn ⟨X,M,Y,e,ab,A,P⟩ K;have X:a+1<=C:=X;have M:C<=b:=M;have Y:r<=5:=Y;have P:QY wC a C e:=P;have bb:=A.len;intro _;simp only[gx];refine jB ?_;refine dA (λh5=>?_) (λh5=>?_)
 rotate_left
 ·exact⟨false,e,rfl,ab,A,λn=>by cases n⟩
 refine MB (λi:Nat=>[iv i]) (λi d=>C<=i/\i<=b/\bA w2 d/\QY wC a i e) (λi=>b-i) C rfl ⟨Nat.le_refl _,M,bA.refl _,P⟩ ?_;rintro i w4 aw ⟨hi,L,U,E⟩ am;intro _;simp only[gx];have l:=ab.ext U;refine sB (decide (i<b)&& !wC (gt e i) (gt e (i-1))) w4 (λae h=>?_) (λw6 V=>?_)
 ·refine jB ?_;refine dA (λn=>?_) (λn=>?_)
  ·rw[decide_eq_true (show i<b by omega),Bool.true_and]at h;refine NC (j:=i) l.ow rfl (by omega) ?_;refine HB (by omega) ?_;refine NC (j:=i-1) l.ow (by omega) (by omega) ?_;exact eC (λd _=>fB _ _ d) (TA h)
  ·rw[decide_eq_false (show¬i<b by omega),Bool.false_and]at h;exact h
 intro _;simp only[gx];have t:=l.ext V;cases u:decide (i<b)&& !wC (gt e i) (gt e (i-1))
 rotate_left
 ·rw[Bool.and_eq_true,decide_eq_true_eq,Bool.not_eq_true']at u;refine iA rfl ?_;refine qA (by omega) ?_;refine am (i+1) _ ⟨by omega,by omega,U.trans V,λS F T g2 g3=>?_⟩ (by omega);by_cases hq:F=i
  ·subst hq;by_cases hp:S=F-1
   ·rw[hp];exact u.2
   ·exact rI.tr (E S (F-1) T (by omega) (by omega)) u.2
  ·exact E S F T g2 (by omega)
 refine cA rfl ?_;refine BA ?_;refine dA (λn=>?_) (λn=>?_)
 ·have:i=b:=by omega
  subst this;exact⟨true,e,rfl,t,A,λ_=>E⟩
 have be:wC (gt e i) (gt e (i-1))=true:=by
  rw[decide_eq_true (show i<b by omega),Bool.true_and,Bool.not_eq_false']at u;exact u
 refine HB (by omega) ?_;refine jB ?_;refine dA (λh7=>?_) (λh7=>?_)
 ·exact⟨false,e,rfl,t,A,λn=>by cases n⟩
 refine HB (by omega) ?_;refine HB (by omega) ?_;refine NC (j:=i-1) t.ow (by omega) (by omega) ?_;refine NC (j:=i) t.ow rfl (by omega) ?_;refine HZ (i:=i) (j:=i-1) (λ_=>rfl) t.ow rfl (by omega) (by omega) (by omega) λar D=>?_;have D:ED x fA sv v w6 ar (sw e i (i-1)):=D;have ac:uH a b e (sw e i (i-1)):=.one (by omega) (by omega) (by omega) (by omega) (by omega);have Z:QY wC a (i-1) (sw e i (i-1)):=(E.mono (Nat.le_refl _) (by omega)).out (uH.one (a:=i-1) (b:=b) (by omega) (by omega) (by omega) (by omega) (by omega)) (.inr (Nat.le_refl _));have R:=t.trans D;have B:=A.trans ac;generalize sw e i (i-1)=G at D ac Z R B;have bc:=B.len;have ap:Qk wC a b G:=ao.keep B (Nat.le_refl _) (Nat.le_refl _);refine HB (by omega) ?_;refine LF ?_;refine WB (λ_ d=>∃c,ED x fA sv v w d c/\uH a b k c/\QY wC a i c) (λae h=>?_) ?_
 ·refine dA (λI=>?_) (λI=>?_)
  ·refine HB (by omega) ?_;refine MB (λj:Nat=>[iv j]) (λj d=>a<=j/\j<=i-1/\ ∃c,ED x fA sv v w d c/\uH a b k c/\Qk wC a b c/\Pp wC a (i-1) j c) (λj=>j) (i-1) (by congr 2;omega) ⟨by omega,Nat.le_refl _,G,R,B,ap,Pp.init Z⟩ ?_;rintro j bh au ⟨ay,O,f,o,m,W,N⟩ ak;have aq:=m.len;intro _;simp only[gx];refine LF ?_;refine dA (λJ=>?_) (λJ=>?_)
   ·refine NC (j:=j) o.ow rfl (by omega) ?_;refine HB (by omega) ?_;refine NC (j:=j-1) o.ow (by omega) (by omega) ?_;refine eC (λd _=>fB _ _ d) ?_;refine TA ?_;intro bi ag;have y:=o.ext ag;refine kB (λg=>?_) (λg=>?_)
    ·have g:wC (gt f j) (gt f (j-1))=false:=by simpa using g
     refine h _ _ ⟨f,y,m,?_⟩;have:=N.done rI (by rcases Nat.lt_or_ge a j with q|q;exact .inr ⟨q,g⟩;exact .inl q) O
     rwa [show i-1+1=i by omega]at this
    ·have g:wC (gt f j) (gt f (j-1))=true:=by simpa using g
     have an:a<j:=by
      rcases Nat.lt_or_ge a j with q|q
      ·exact q
      ·have af:j=a:=by omega
       subst af;have:=W j (Nat.le_refl _) (by omega) (by omega);rw[g]at this;cases this
     refine HB (by omega) ?_;refine HB (by omega) ?_;refine NC (j:=j-1) y.ow (by omega) (by omega) ?_;refine NC (j:=j) y.ow rfl (by omega) ?_;refine HZ (i:=j) (j:=j-1) (λ_=>rfl) y.ow rfl (by omega) (by omega) (by omega) λbj ah=>?_;refine HB (by omega) ?_;rw[show(j:Int)-1=((j-1:Nat):Int)by omega];have p:uH a b f (sw f j (j-1)):=.one (by omega) (by omega) (by omega) (by omega) (by omega);exact ak (j-1) _ ⟨by omega,by omega,sw f j (j-1),y.trans ah,m.trans p,W.keep p (Nat.le_refl _) (Nat.le_refl _),N.swap rI an O (by omega) g⟩ (by omega)
   ·refine h _ _ ⟨f,o,m,?_⟩;have:=N.done rI (.inl (by omega)) O
    rwa [show i-1+1=i by omega]at this
  ·exact h _ _ ⟨G,R,B,QY.short (by omega)⟩
 rintro xs bg ⟨f,o,m,aa⟩;have aq:=m.len;intro _;refine HB (by omega) ?_;refine LF ?_;refine dA (λI=>?_) (λI=>?_)
 ·refine qA (by omega) ?_;refine MB (λj:Nat=>[iv j]) (λj d=>i+1<=j/\j<=b/\ ∃c,ED x fA sv v w d c/\uH a b k c/\QY wC a i c) (λj=>b-j) (i+1) rfl ⟨Nat.le_refl _,by omega,f,o,m,aa⟩ ?_;rintro j bk av ⟨az,ba,H,l,p,Q⟩ al;have bd:=p.len;intro _;simp only[gx];refine jB ?_;refine dA (λJ=>?_) (λJ=>?_)
  ·refine NC (j:=j) l.ow rfl (by omega) ?_;refine HB (by omega) ?_;refine NC (j:=j-1) l.ow (by omega) (by omega) ?_;refine eC (λd _=>fB _ _ d) ?_;refine TA ?_;intro bl ai;have z:=l.ext ai;refine kB (λg=>?_) (λg=>?_)
   ·refine qA (by omega) ?_;exact K (i,r+1) _ ⟨by show a+1<=i;omega,L,by show r+1<=5;omega,H,z,p,Q⟩ (by show 5-(r+1)<5-r;omega)
   ·refine HB (by omega) ?_;refine HB (by omega) ?_;refine NC (j:=j-1) z.ow (by omega) (by omega) ?_;refine NC (j:=j) z.ow rfl (by omega) ?_;refine HZ (i:=j) (j:=j-1) (λ_=>rfl) z.ow rfl (by omega) (by omega) (by omega) λbm aj=>?_;refine qA (by omega) ?_;exact al (j+1) _ ⟨by omega,by omega,sw H j (j-1),z.trans aj,.step p (by omega) (by omega) (by omega) (by omega) hb,Q.out (uH.one (a:=i) (b:=b) (by omega) (by omega) (by omega) (by omega) (by omega)) (.inr (Nat.le_refl _))⟩ (by omega)
  ·refine qA (by omega) ?_;exact K (i,r+1) _ ⟨by show a+1<=i;omega,L,by show r+1<=5;omega,H,l,p,Q⟩ (by show 5-(r+1)<5-r;omega)
 ·refine qA (by omega) ?_;exact K (i,r+1) _ ⟨by show a+1<=i;omega,L,by show r+1<=5;omega,f,o,m,aa⟩ (by show 5-(r+1)<5-r;omega)
theorem zJ:∀(ac:Nat) {w:World} {L:List jA} {a b:Nat} {lim:Int},b-a<=ac->Ow x fA w v (yA L)->a<=b->b<=L.length->L.length<=1152921504606846976->Qk wC a b L->0<=lim/\lim<=64->
  nA prog 234 #[v,iv a,iv b,iv lim] w λ_ g=>∃c,ED x fA sv v w g c/\uH a b L c/\QY wC a b c:=by
 intro ac
 induction ac using Nat.strongRecOn with
 |ind ac ih=>
 intro w L d h bh hn hs B hb hL bc o;apply aK;unfold nF;refine MB (λs:Nat×Nat×Int×Bool×Bool=>[iv (s.1:Int),iv (s.2.1:Int),iv s.2.2.1,.bool s.2.2.2.1,.bool s.2.2.2.2]) (λs g=>d<=s.1/\s.1<=s.2.1/\s.2.1<=h/\(0<=s.2.2.1/\s.2.2.1<=64)/\ ∃c,ED x fA sv v w g c/\uH d h L c/\Qk wC s.1 s.2.1 c/\Bg wC d h s.1 s.2.1 c) (λs=>s.2.1-s.1) (d,h,bh,true,true) rfl
  ⟨Nat.le_refl _,B,Nat.le_refl _,o,L,ED.refl hs,.refl,bc,Bg.all⟩ ?_
 rintro⟨a,b,lim,aw,par⟩ w2 Kn ⟨i,B,f,o,D,C,P,U,F⟩ ag;have i:d<=a:=i;have B:a<=b:=B;have f:b<=h:=f;have o:0<=lim/\lim<=64:=o;have U:Qk wC a b D:=U;have F:Bg wC d h a b D:=F;have bm:=P.len;intro _;simp only[gx]
 --a sorted window closes the work
 have ae:∀{c I:List jA} {g:World} {a b:Nat},ED x fA sv v w g I->uH d h L c->uH a b c I->d<=a->b<=h->Bg wC d h a b c->QY wC a b I-> ∃c,ED x fA sv v w g c/\uH d h L c/\QY wC d h c:=
  λ{c I g a b} h1 h2 n h4 E h6 h7=>⟨I,h1,h2.trans (n.mono h4 E (by rw[h2.len];exact hb)),h6.done n h4 E h7⟩
 refine HB (by omega) ?_;refine LF ?_;refine dA (λax=>?_) (λax=>?_)
 ·refine aA ?_;refine(bH C.ow B (by omega) (by omega)).mono λ_ w3 n=>?_;obtain⟨J,y,u,ai⟩:=n;exact ae (C.trans y) P u i f F ai
 refine BA ?_;refine dA (λh0=>?_) (λh0=>?_)
 ·refine aA ?_;refine(jJ C.ow (by omega) (by omega) (by omega)).mono λ_ w3 n=>?_;obtain⟨J,y,u,ai⟩:=n;exact ae (C.trans y) P u i f F ai
 refine TA ?_;refine WB (λz g=>∃l2:Int,∃c,z=[iv l2]/\(0<=l2/\l2<=64)/\ED x fA sv v w g c/\uH a b D c) (λS e=>?_) ?_
 ·refine kB (λ_=>?_) (λ_=>?_)
  ·refine aA ?_;refine(aH C.ow B (by omega) (by omega)).mono λ_ w3 n=>?_;obtain⟨J,y,u⟩:=n;refine HB (by omega) ?_;exact e _ _ ⟨lim-1,J,rfl,by omega,C.trans y,u⟩
  ·exact e _ _ ⟨lim,D,rfl,o,C,.refl⟩
 rintro z w6 ⟨lim,J,rfl,o,y,u⟩;have be:=u.len;intro _;simp only[gx];refine aA ?_;refine(DH y.ow (by omega) (by omega) (by omega)).mono λal w8 h8=>?_;obtain⟨h8,t,ad,rfl,M,O⟩:=h8;have Z:=y.ext h8;refine lD ?_;refine mD ?_;refine BA ?_;refine WB (λz g=>∃t:Nat,∃ad:Int,∃c,z=[iv t,iv ad]/\a<=t/\t<b/\ED x fA sv v w g c/\uH a b D c) (λS e=>?_) ?_
 ·refine dA (λ_=>?_) (λ_=>?_)
  ·refine aA ?_;refine(pH Z.ow B (by omega) (by omega)).mono λ_ w3 n=>?_;obtain⟨k,A,l⟩:=n;refine HB (by omega) ?_;refine HB (by omega) ?_;refine HB (by omega) ?_;exact e _ _ ⟨b-1-(t-a),1,k,by congr 2;omega,by omega,by omega,Z.trans A,u.trans l⟩
  ·exact e _ _ ⟨t,ad,J,rfl,M,O,Z,u⟩
 clear M O
 rintro z bi ⟨t,ad,k,rfl,M,O,A,l⟩;intro _;simp only[gx];refine WB (λz g=>∃av:Bool,z=[.bool av]/\bA bi g) (λS e=>?_) ?_
 ·refine kB (λ_=>?_) (λ_=>?_)
  ·refine kB (λ_=>?_) (λ_=>?_)
   ·refine BA ?_;exact e _ _ ⟨_,rfl,bA.refl _⟩
   ·exact e _ _ ⟨false,rfl,bA.refl _⟩
  ·exact e _ _ ⟨false,rfl,bA.refl _⟩
 rintro z bo ⟨av,rfl,ay⟩;intro _;simp only[gx];have N:=A.ext ay;have ar:=l.len;refine WB (λ_ g=>∃c,ED x fA sv v w g c/\uH a b D c) (λS e=>?_) ?_
 ·refine kB (λ_=>?_) (λ_=>?_)
  ·refine aA ?_;refine(CF N.ow (by omega) (by omega) (by omega) (U.keep l (Nat.le_refl _) (Nat.le_refl _))).mono λal w3 n=>?_;obtain⟨y',r,rfl,G,q,bg⟩:=n;refine kB (λhy=>?_) (λhy=>?_)
   ·exact ae (N.trans G) P (l.trans q) i f F (bg hy)
   ·exact e _ _ ⟨r,N.trans G,l.trans q⟩
  ·exact e _ _ ⟨k,N,l⟩
 clear A l N Z y u be ar
 rintro z bj ⟨k,A,l⟩;have ar:=l.len;have aa:uH d h L k:=P.trans (l.mono i f (by omega));have am:Qk wC a b k:=U.keep l (Nat.le_refl _) (Nat.le_refl _);have ao:Bg wC d h a b k:=F.keep l i f;intro _;refine sB (decide (0<a)&& !wC (gt k (a-1)) (gt k t)) bj (λS e=>?_) (λbp az=>?_)
 ·refine jB ?_;refine dA (λE=>?_) (λE=>?_)
  ·rw[decide_eq_true (show 0<a by omega),Bool.true_and]at e;refine HB (by omega) ?_;refine NC (j:=a-1) A.ow (by omega) (by omega) ?_;refine NC (j:=t) A.ow rfl (by omega) ?_;exact eC (λg _=>fB _ _ g) (TA e)
  ·rw[decide_eq_false (show¬0<a by omega),Bool.false_and]at e;exact e
 intro _;simp only[gx];have X:=A.ext az;cases hc:decide (0<a)&& !wC (gt k (a-1)) (gt k t)
 rotate_left
 ·rw[Bool.and_eq_true,decide_eq_true_eq,Bool.not_eq_true']at hc;refine iA rfl ?_;refine aA ?_;refine(RG X.ow M O (by omega) (by omega)).mono λal bq ba=>?_;obtain⟨r,m,rfl,G,q,T,V,au⟩:=ba;have aq:∀R,a<=R->R<b->wC (gt r R) (gt k t)=false:=q.all (p:=λbl=>wC bl (gt k t)=false) λR hk bd=>rI.tr hc.2 (am R hk bd (by omega));refine ag (m,b,lim,aw,par) _ ⟨by show d<=m;omega,V,f,o,r,X.trans G,aa.trans (q.mono i f (by rw[aa.len];omega)),io rI aq au T,Aq rI (ao.keep q i f) aq au V⟩ (by show b-m<b-a;omega)
 refine cA rfl ?_;refine aA ?_;refine(yI X.ow M O (by omega) (by omega)).mono λal br bb=>?_;obtain⟨r,m,y',rfl,G,q,T,V,ah⟩:=bb;have bn:=q.len;have Y:=X.trans G;have ab:uH d h L r:=aa.trans (q.mono i f (by rw[aa.len];omega));have an:Qk wC a b r:=am.keep q (Nat.le_refl _) (Nat.le_refl _);have ap:Bg wC d h a b r:=ao.keep q i f;refine lD ?_;refine mD ?_;refine HB (by omega) ?_;refine HB (by omega) ?_;refine d9 (by omega) ?_;refine jB ?_;refine dA (λE=>?_) (λE=>?_)
 ·refine LF ?_;refine aA ?_;refine(ih (m-a) (by omega) (Nat.le_refl _) Y.ow T (by omega) (by omega) (an.low (by omega)) o).mono λ_ bk af=>?_;obtain⟨K,ak,Q,aj⟩:=af;have H:uH a b r K:=Q.mono (Nat.le_refl _) (by omega) (by omega);have W:=ah.lowS Q;refine qA (by omega) ?_;exact ag (m+1,b,lim,_,y') _ ⟨by show d<=m+1;omega,by show m+1<=b;omega,f,o,K,Y.trans ak,ab.trans (H.mono i f (by rw[ab.len];omega)),W.blw,W.up rI (ap.keep H i f) aj⟩ (by show b-(m+1)<b-a;omega)
 ·refine LF ?_;refine qA (by omega) ?_;refine aA ?_;refine(ih (b-(m+1)) (by omega) (a:=m+1) (Nat.le_refl _) Y.ow (by omega) (by omega) (by omega) ah.blw o).mono λ_ bk af=>?_;obtain⟨K,ak,Q,aj⟩:=af;have H:uH a b r K:=Q.mono (by omega) (Nat.le_refl _) (by omega);have W:=ah.highS Q;exact ag (a,m,lim,_,y') _ ⟨i,T,by show m<=h;omega,o,K,Y.trans ak,ab.trans (H.mono i f (by rw[ab.len];omega)),(an.keep H (Nat.le_refl _) (Nat.le_refl _)).low (Nat.le_of_lt V),W.down rI (ap.keep H i f) aj⟩ (by show m-a<b-a;omega)
theorem NF(f:Ow x fA w v (yA k))(hL:k.length<=1152921504606846976):
  nA prog 138 #[v] w λ_ l=>∃c:List jA,Ow x fA l v (yA c)/\Ch (λe=>v.ownBlock=some e) w l/\List.Perm c k/\c.Pairwise λo y=>wC y o=false:=by
 apply sL;unfold iG;refine ZA f.sl ?_;refine ZO (by omega) ?_;refine aA ?_;refine(GO (by omega) w).mono λr s d=>?_;obtain⟨d,j,rfl,-,-,q⟩:=d;refine aA ?_;refine(zJ (a:=0) (b:=k.length) (lim:=(j:Int)) k.length (by omega) (f.ext d) (Nat.zero_le _) (Nat.le_refl _) hL (λj _ _ p=>by omega) (by omega)).mono λ_ t n=>?_;obtain⟨c,h,i,g⟩:=n;rw[<-i.len]at g;exact⟨c,h.ow,(d.ch (S:=λe=>v.ownBlock=some e)).trans h.ch λ_ m=>.inl m,i.perm,g.pairwise⟩
abbrev Ds(L:List jA):Prop:=L.Pairwise λx y=>wC x y=true
theorem Fj:Ds (s::k)↔(∀y∈k,wC s y=true)/\Ds k:=List.pairwise_cons
theorem Bh:∀{A B:List jA},Ds A->Ds B->(∀x,x∈A↔x∈B)->A=B
 |[],[],_,_,_=>rfl
 |[],y::B,_,_,h=>by have:=(h y).2 List.mem_cons_self;cases this
 |x::A,[],_,_,h=>by have:=(h x).1 List.mem_cons_self;cases this
 |x::A,y::B,hA,hB,h=>by
  rw[Fj]at hA hB;have e:x=y:=by
   rcases List.mem_cons.1 ((h x).1 List.mem_cons_self)with e|e
   ·exact e
   ·rcases List.mem_cons.1 ((h y).2 List.mem_cons_self)with b|b
    ·exact b.symm
    ·have f:=hB.1 x e;have d:=hA.1 y b;rw[pQ f]at d;cases d
  subst e;rw[Bh hA.2 hB.2 λz=>?_];have c:=h z;simp only[List.mem_cons]at c;constructor
  ·intro a;rcases c.1 (.inr a)with e|e
   ·subst e;have:=hA.1 z a;rw[YC]at this;cases this
   ·exact e
  ·intro a;rcases c.2 (.inr a)with e|e
   ·subst e;have:=hB.1 z a;rw[YC]at this;cases this
   ·exact e
def nH(t:jA):List jA->List jA
 |[]=>[t]
 |x::l=>if wC x t then x::nH t l else if x=t then x::l else t::x::l
theorem Mc:∀{l:List jA},Y∈nH s l↔Y=s∨Y∈l
 |[]=>by simp[nH]
 |y::l=>by
  unfold nH;split
  ·rw[List.mem_cons,Mc,List.mem_cons];constructor
   ·rintro(h|h|h)
    ·exact .inr (.inl h)
    ·exact .inl h
    ·exact .inr (.inr h)
   ·rintro(h|h|h)
    ·exact .inr (.inl h)
    ·exact .inl h
    ·exact .inr (.inr h)
  ·split
   ·rename_i h;subst h;simp
   ·simp
theorem Gj:∀{l:List jA},Ds l->Ds (nH s l)
 |[],_=>by simp[nH]
 |y::l,h=>by
  unfold nH;rw[Fj]at h;split
  ·rename_i a;refine List.pairwise_cons.2 ⟨λz b=>?_,Gj h.2⟩;rcases Mc.1 b with e|e
   ·subst e;exact a
   ·exact h.1 z e
  ·rename_i a;split
   ·exact List.pairwise_cons.2 h
   ·rename_i d;have c:wC s y=true:=by
     rcases qQ s y with e|e|e
     ·exact e
     ·exact absurd e.symm d
     ·exact absurd e a
    refine List.pairwise_cons.2 ⟨λz b=>?_,List.pairwise_cons.2 h⟩;rcases List.mem_cons.1 b with e|e
    ·subst e;exact c
    ·exact CM c (h.1 z e)
theorem Fc{t:jA}:∀{l:List jA} {k:Nat},k<=l.length->(∀i,i<k->wC (gt l i) t=true)->nH t l=l.take k++nH t (l.drop k)
 |_,0,_,_=>rfl
 |[],k+1,hk,_=>by simp at hk
 |x::l,k+1,hk,h=>by
  have a:wC x t=true:=h 0 (by omega);have:=Fc (t:=t) (l:=l) (k:=k) (by simpa using hk) λi b=>h (i+1) (by omega);rw[nH,if_pos a,this];rfl
def qG(l:List jA):List jA:=l.foldl (λa x=>nH x a) []
theorem mg(l:List jA)(x:jA):qG (l++[x])=nH x (qG l):=by simp[qG]
theorem F2(l:List jA):Ds (qG l):=by
 unfold qG
 suffices h:∀(l a:List jA),Ds a->Ds (l.foldl (λa x=>nH x a) a)from h l [] List.Pairwise.nil
 intro l
 induction l with
 |nil=>intro a h;exact h
 |cons x l ih=>intro a h;exact ih _ (Gj h)
theorem xF:s∈qG k↔s∈k:=by
 unfold qG
 suffices h:∀(k a:List jA),s∈k.foldl (λa s=>nH s a) a↔s∈k∨s∈a by simpa using h k []
 intro k
 induction k with
 |nil=>intro a;simp
 |cons y k ih=>
  intro a;rw[List.foldl_cons,ih,Mc,List.mem_cons];constructor
  ·rintro(h|h|h)
   ·exact .inl (.inr h)
   ·exact .inl (.inl h)
   ·exact .inr h
  ·rintro((h|h)|h)
   ·exact .inr (.inl h)
   ·exact .inl h
   ·exact .inr (.inr h)
theorem Ec(t:jA):∀l:List jA,(nH t l).length<=l.length+1
 |[]=>by simp[nH]
 |x::l=>by
  have:=Ec t l;unfold nH;split<;>(try split)<;>simp[List.length_cons]<;>omega
theorem IW(l:List jA):(qG l).length<=l.length:=by
 suffices h:∀(l a:List jA),(l.foldl (λa x=>nH x a) a).length<=a.length+l.length by simpa[qG]using h l []
 intro l
 induction l with
 |nil=>intro a;simp
 |cons y l ih=>
  intro a;have:=ih (nH y a);have:=Ec y a;rw[List.foldl_cons,List.length_cons];omega
def W8:List jA->List jA
 |[]=>[]
 |[x]=>[x]
 |x::y::l=>if y=x then W8 (y::l)else x::W8 (y::l)
theorem X9:∀{l:List jA},s∈W8 l↔s∈l
 |[]=>Iff.rfl
 |[_]=>Iff.rfl
 |x::y::l=>by
  rw[W8];split
  ·rename_i h;subst h;rw[X9];simp
  ·rw[List.mem_cons,X9,List.mem_cons (l:=y::l)]
theorem Ah:∀{l:List jA},l.Pairwise (λx y=>wC y x=false)->Ds (W8 l)
 |[],_=>List.Pairwise.nil
 |[_],_=>by simp[W8]
 |x::y::l,h=>by
  rw[List.pairwise_cons]at h;rw[W8];split
  ·exact Ah h.2
  ·rename_i b;refine List.pairwise_cons.2 ⟨λz c=>?_,Ah h.2⟩;have a:wC x y=true:=by
    rcases qQ x y with e|e|e
    ·exact e
    ·exact absurd e.symm b
    ·have:=h.1 y List.mem_cons_self;rw[e]at this;cases this
   rcases List.mem_cons.1 (X9.1 c)with e|e
   ·subst e;exact a
   ·exact rI.lt_le a ((List.pairwise_cons.1 h.2).1 z e)
theorem f7{m:List jA}(h:k.Pairwise λx y=>wC y x=false)(a:List.Perm k m):W8 k=qG m:=
 Bh (Ah h) (F2 m) λx=>by rw[X9,xF];exact a.mem_iff
theorem kj:∀(l:List jA) (x y:jA),W8 (l++[x]++[y])=if y=x then W8 (l++[x])else W8 (l++[x])++[y]
 |[],x,y=>by simp only[List.nil_append,List.singleton_append,W8];split<;>simp_all
 |[a],x,y=>by
  simp only[List.cons_append,W8,List.nil_append];by_cases d:y=x
  ·subst d;by_cases c:y=a
   ·subst c;simp
   ·simp[c]
  ·by_cases c:x=a
   ·subst c;simp[d]
   ·simp[c,d]
 |a::b::l,x,y=>by
  have:=kj (b::l) x y;simp only[List.cons_append]at this⊢;rw[W8,W8,this];by_cases c:b=a<;>by_cases d:y=x<;>simp[c,d]
theorem Vb{l:List jA}{i:Nat}(d:1<=i)(b:i<l.length):W8 (l.take (i+1))=if gt l i=gt l (i-1)then W8 (l.take i)else W8 (l.take i)++[gt l i]:=by
 obtain⟨k,rfl⟩:∃k,i=k+1:=⟨i-1,by omega⟩
 have a:l.take (k+1)=l.take k++[gt l k]:=by rw[List.take_succ_eq_append_getElem (by omega),LA (by omega)]
 have c:l.take (k+1+1)=l.take k++[gt l k]++[gt l (k+1)]:=by rw[List.take_succ_eq_append_getElem b,a,LA b]
 rw[c,kj,a];rfl
theorem Dm{l:List jA}:∀k,k<=l.length->(∀i,1<=i->i<k-> ¬gt l i=gt l (i-1))->W8 (l.take k)=l.take k:=by
 intro k
 induction k with
 |zero=>intro _ _;rfl
 |succ k ih=>
  intro d h;rcases Nat.eq_zero_or_pos k with a|a
  ·subst a;cases l with
   |nil=>rfl
   |cons x l=>rfl
  ·rw[Vb a (by omega),if_neg (h k a (by omega)),ih (by omega) λi b c=>h i b (by omega),List.take_succ_eq_append_getElem (by omega),LA (by omega)]
theorem qq{l:List jA}(h:∀i,1<=i->i<l.length-> ¬gt l i=gt l (i-1)):W8 l=l:=by
 have:=Dm (l:=l) l.length (Nat.le_refl _) h
 rwa [List.take_length]at this
theorem Sl.toK(h:Sl w v y):rB 1 w v y.length y:=by
 obtain⟨a,c,j,d,e,f⟩:=h;refine⟨(Nat.mul_one _).symm,a,c,j,d,e,?_⟩;rcases f with rfl|⟨b,o,g,i⟩
 ·exact .inl rfl
 ·exact .inr ⟨b,o,g,λk l=>i k (by omega)⟩
theorem rB.cast(h:rB x w v n y)(e:n=f):rB x w v f y:=e▸h
theorem L6(L:List jA)(k:Nat):(yA L).take k=yA (L.take k):=by simp[yA,List.map_take]
theorem xp(L:List jA)(k:Nat):(yA L).drop k=yA (L.drop k):=by simp[yA,List.map_drop]
theorem O3(L M:List jA):yA L++yA M=yA (L++M):=by simp[yA]
theorem KW(L:List jA)(a:x<L.length):(yA L)[x]?=some (sv (gt L x)):=by rw[LA a];simp[yA,a]
theorem Vs(h:n<x):gt (k.take x) n=gt k n:=by unfold gt;simp[List.getD_eq_getElem?_getD,h]
theorem PE {lo:Nat} {w:World} {v:Value} {L:List jA} (hs:Ow lo fA w v (yA L)) (hL:L.length ≤ 1152921504606846976):
  nA Tryz.prog 139 #[v] w fun r w'=>Ow lo fA w' r (yA (W8 L)) ∧ Ch (fun c=>v.ownBlock = some c) w w' ∧ r.ownBlock = v.ownBlock:=by
 apply uJ;unfold bF
 refine ZA hs.sl ?_
 refine jB ?_
 refine dA (fun h=>?_) (fun h=>?_)
 ·rw [qq (fun i h1 h2=>by omega)]
  exact ⟨hs,(bA.refl w).ch,by first | trivial | rfl⟩
 obtain ⟨g,cap,hv,hcap,hcm⟩:=hs.open (by intro e;have:=AA L;rw [e] at this;simp at this;omega)
 rw [AA] at hv hcap
 refine MB (fun k:Nat=>[.int .i64 (k:Int)]) (fun k w'=>1 ≤ k ∧ k ≤ L.length ∧ bA w w' ∧ ∀ i,1 ≤ i → i < k → ¬ gt L i = gt L (i - 1)) (fun k=>L.length - k) 1 rfl ⟨Nat.le_refl _,by omega,bA.refl _,fun i h1 h2=>by omega⟩ ?_
 rintro k w2 Kn ⟨hk1,hkn,h2,hne⟩ hKn
 have hs2:=hs.ext h2
 intro _
 simp only [gx]
 refine ZA hs2.sl ?_
 refine jB ?_
 refine dA (fun h3=>?_) (fun h3=>?_)
 rotate_left
 ·rw [qq (fun i h1 h2=>hne i h1 (by omega))]
  exact ⟨hs2,h2.ch,by first | trivial | rfl⟩
 refine NC (j:=k) hs2 rfl (by omega) ?_
 refine HB (by omega) ?_
 refine NC (j:=k - 1) hs2 (by omega) (by omega) ?_
 refine yB ?_
 intro w3 h23
 have hs3:=hs2.ext h23
 refine dA (fun h4=>?_) (fun h4=>?_)
 rotate_left
 ·refine qA (by omega) ?_
  refine hKn (k + 1) _ ⟨by omega,by omega,h2.trans h23,fun i h1 h5=>?_⟩ (by omega)
  by_cases hi:i = k
  ·subst hi;exact h4
  ·exact hne i h1 (by omega)
 subst hv
 refine xh (k:=k) (by omega) hcap ?_
 refine MB (fun s:Nat × Nat=>[.int .i64 (s.1:Int),.int .i64 (s.2:Int)]) (fun s w'=>k ≤ s.1 ∧ s.1 + 1 ≤ k + s.2 ∧ k + s.2 ≤ L.length ∧ ∃ M,ED lo fA sv (.slice (some ⟨g,0,none⟩) L.length cap) w w' M ∧ M.length = L.length ∧ M.take s.1 = W8 (L.take (k + s.2)) ∧ ∀ j,k + s.2 ≤ j + 1 → gt M j = gt L j) (fun s=>L.length - s.2) (k,1) rfl
  ⟨Nat.le_refl _,Nat.le_refl _,by show k + 1 ≤ L.length;omega,L,⟨hs3,(h2.trans h23).ch⟩,rfl,by show L.take k = W8 (L.take (k + 1));rw [Vb hk1 (by omega),if_pos h4,Dm k (by omega) hne],fun _ _=>rfl⟩ ?_
 rintro ⟨kk,k2⟩ w5 Kn5 ⟨hkk,hkk2,hk2,M,ht,hM,hMt,hMe⟩ hKn5
 have hkk:k ≤ kk:=hkk
 have hkk2:kk + 1 ≤ k + k2:=hkk2
 have hk2:k + k2 ≤ L.length:=hk2
 have hMt:M.take kk = W8 (L.take (k + k2)):=hMt
 have hMe:∀ j,k + k2 ≤ j + 1 → gt M j = gt L j:=hMe
 intro _
 simp only [gx]
 refine VY ?_
 refine jB ?_
 refine dA (fun h5=>?_) (fun h5=>?_)
 ·refine Ke (j:=k2) (by omega) ?_
  refine DD (ht.ow.at (by rw [List.length_map];exact hM) (j:=k + k2) (by omega) |>.trans (KW M (by omega))) ?_
  refine HB (by omega) ?_
  rw [show (k2:Int) - 1 = ((k2 - 1:Nat):Int) by omega]
  refine Ke (j:=k2 - 1) (by omega) ?_
  refine DD (ht.ow.at (by rw [List.length_map];exact hM) (j:=k + (k2 - 1)) (by omega) |>.trans (KW M (by omega))) ?_
  refine j5 ?_
  intro w6 h56
  have ht6:=ht.ext h56
  have e1:=hMe (k + k2) (by omega)
  have e2:=hMe (k + (k2 - 1)) (by omega)
  have edd:=Vb (l:=L) (i:=k + k2) (by omega) (by omega)
  rw [← e1,show k + k2 - 1 = k + (k2 - 1) by omega,← e2] at edd
  refine dA (fun h6=>?_) (fun h6=>?_)
  ·rw [if_neg h6,← hMt] at edd
   refine Ke (j:=k2) (by omega) ?_
   refine DD (ht6.ow.at (by rw [List.length_map];exact hM) (j:=k + k2) (by omega) |>.trans (KW M (by omega))) ?_
   refine Aj ht6.ow (by omega) (by rw [List.length_map];omega) fun b o hb _ _ hc hf hset=>?_
   refine rt (hc.trans (List.getElem?_eq_getElem (by rw [List.length_map];omega))) hf rfl ?_
   have hset:=hset (sv (gt M (k + k2)))
   rw [Int.toNat_natCast,← List.map_set] at hset
   refine qA (by omega) ?_
   refine qA (by omega) ?_
   refine hKn5 (kk + 1,k2 + 1) _ ⟨by show k ≤ kk + 1;omega,by show kk + 1 + 1 ≤ k + (k2 + 1);omega,by show k + (k2 + 1) ≤ L.length;omega,M.set kk (gt M (k + k2)),⟨hset,ht6.ch.trans ((PI.setCell w6 b o _).ch (S:=fun c=>Value.ownBlock (.slice (some ⟨g,0,none⟩) L.length cap) = some c) hb) fun _ e=>.inl e⟩,by rw [List.length_set];exact hM,?_,fun j hj=>?_⟩ (by show L.length - (k2 + 1) < L.length - k2;omega)
   ·show (M.set kk (gt M (k + k2))).take (kk + 1) = W8 (L.take (k + (k2 + 1)))
    rw [show k + (k2 + 1) = k + k2 + 1 by omega,edd,List.take_succ_eq_append_getElem (by rw [List.length_set];omega),List.getElem_set_self,List.take_set_of_le (Nat.le_refl _)]
   ·have hj:k + (k2 + 1) ≤ j + 1:=hj
    rw [oh _ (by omega),if_neg (by omega)]
    exact hMe j (by omega)
  ·rw [if_pos (Classical.not_not.1 h6),← hMt] at edd
   refine qA (by omega) ?_
   exact hKn5 (kk,k2 + 1) _ ⟨hkk,by show kk + 1 ≤ k + (k2 + 1);omega,by show k + (k2 + 1) ≤ L.length;omega,M,ht6,hM,edd.symm,fun j hj=>hMe j (by have hj:k + (k2 + 1) ≤ j + 1:=hj;omega)⟩ (by show L.length - (k2 + 1) < L.length - k2;omega)
 ·have hend:k + k2 = L.length:=by omega
  rw [hend,List.take_length] at hMt
  refine xh (k:=kk) (by omega) hcap ?_
  refine Nw IB EB rfl ht.ow (by rw [List.length_map];exact hM) (by omega) fun w8 h8 hc8=>?_
  refine wh (k:=kk) (by omega) hcap ?_
  rw [show (List.map sv M).take kk = yA (M.take kk) from L6 M kk,hMt] at h8
  exact ⟨h8,ht.ch.trans hc8 fun c hc=>.inl (by rw [hc];rfl),rfl⟩
theorem FO{A B:List jA}(o:iM w v A)(p:iM w i B)(x:vA v=true)(y:vA i=true)(K:A.length+B.length<=1099511627776):
  nA prog 66 #[v,i] w λr k=>bA w k/\Ow w.heap.size fA k r (yA (qG (A++B))):=by
 apply nl;unfold pa;refine Z8 rfl x y λc G J a s=>?_;refine aA ((zH (vs:=[v,i]) (ps:=[(A.length,yA A),(B.length,yA B)]) (Sl.ofBlk (n:=2) s rfl (by decide)) rfl (λj m I=>?_) (λM f O h=>?_) (by simp;omega)).mono ?_)
 ·rcases j with _|_|j
  ·exact(Sl.toK (o.ext a)).cast (AA A)
  ·exact(Sl.toK (p.ext a)).cast (AA B)
  ·simp at m;omega
 ·simp only[List.mem_cons,List.not_mem_nil,or_false]at f;rcases f with rfl|rfl
  ·exact tI _ _ h
  ·exact tI _ _ h
 rintro r H ⟨q,D⟩;have t:=a.trans q;have d:Ow G.heap.size fA H r (yA (A++B)):=by
  have:=D.toOw;simpa[yA]using this
 refine aA ((NF d (by rw[List.length_append];omega)).mono ?_);rintro _ P ⟨l,E,z,g,F⟩;have L:l.length=A.length+B.length:=by rw[g.length_eq,List.length_append]
 refine aA ((PE E (by omega)).mono ?_);rintro N Q ⟨e,C,_⟩;rw[f7 F g]at e;have b:∀c,r.ownBlock=some c->w.heap.size<=c:=λc u=>Nat.le_trans a.size (d.blk c u).1;exact⟨(t.thenCh z b).thenCh C b,e.mono a.size⟩
theorem kJ(U:Ow x fA w v (yA k))(R:x<=w.heap.size)(hL:k.length<=1099511627776):
  nA prog 68 #[v,sv s] w λX l=>bA w l/\Ow x fA l X (yA (nH s k)):=by
 apply S4;unfold HP;refine MB (λa:Nat=>[iv a]) (λa l=>a<=k.length/\bA w l/\ ∀i,i<a->wC (gt k i) s=true) (λa=>k.length-a) 0 rfl ⟨Nat.zero_le _,bA.refl _,λi P=>by omega⟩ ?_;rintro a Y Kn ⟨p,u,C⟩ K;have r:=U.ext u;intro _;simp only[gx];refine sB (decide (a<k.length)&&wC (gt k a) s) Y (λJ b=>?_) (λZ y=>?_)
 ·refine ZA r.sl ?_;refine jB ?_;refine dA (λh=>?_) (λh=>?_)
  ·rw[decide_eq_true (show a<k.length by omega),Bool.true_and]at b;refine NC (j:=a) r rfl (by omega) ?_;exact Gv (b _ (bA.refl _))
  ·rw[decide_eq_false (show¬a<k.length by omega),Bool.false_and]at b;exact b _ (bA.refl _)
 intro _;simp only[gx];have t:=r.ext y;have z:=u.trans y;cases f:decide (a<k.length)&&wC (gt k a) s
 rotate_left
 ·rw[Bool.and_eq_true,decide_eq_true_eq]at f;refine iA rfl ?_;refine qA (by omega) ?_;refine K (a+1) _ ⟨by omega,z,λi P=>?_⟩ (by omega);by_cases Q:i=a
  ·subst Q;exact f.2
  ·exact C i (by omega)
 refine cA rfl ?_;have G:=Fc p C;refine sB (decide (a<k.length)&&decide (gt k a=s)) Z (λJ b=>?_) (λw6 A=>?_)
 ·refine ZA t.sl ?_;refine jB ?_;refine dA (λh=>?_) (λh=>?_)
  ·rw[decide_eq_true (show a<k.length by omega),Bool.true_and]at b;refine NC (j:=a) t rfl (by omega) ?_;exact yB (b _ (bA.refl _))
  ·rw[decide_eq_false (show¬a<k.length by omega),Bool.false_and]at b;exact b _ (bA.refl _)
 intro _;simp only[gx];have g:=t.ext A;have m:=z.trans A;cases c:decide (a<k.length)&&decide (gt k a=s)
 rotate_left
 ·rw[Bool.and_eq_true,decide_eq_true_eq,decide_eq_true_eq]at c;refine iA rfl ⟨m,?_⟩;have:nH s k=k:=by
   rw[G,List.drop_eq_getElem_cons c.1,<-LA c.1,c.2,nH,YC,if_neg (by decide),if_pos rfl];have:=List.take_append_drop a k;rw[List.drop_eq_getElem_cons c.1,<-LA c.1,c.2]at this;exact this
  rw[this];exact g
 ·refine cA rfl ?_;have T:nH s k=k.take a++[s]++k.drop a:=by
   rw[G];rcases Nat.lt_or_ge a k.length with h|h
   ·rw[decide_eq_true h,Bool.true_and]at f c;rw[List.drop_eq_getElem_cons h,<-LA h,nH,f,if_neg (by decide),if_neg (of_decide_eq_false c)];simp
   ·rw[List.drop_of_length_le h];simp[nH]
  have S:=Nat.le_trans R m.size;refine PH λv7 w7 ab B E=>?_;have W:=g.ext B;refine Ju W.sl (by rw[AA];exact p) λac H=>?_;rw[L6]at H;refine A2 IB EB rfl E H (tI _) (by rw[AA,List.length_take,List.length_nil];omega) (by rw[AA,List.length_take,List.length_nil];omega) (by omega) λv8 w8 F O _=>?_;have o:=B.grown O λd e=>(E.blk d e).1;have aa:=g.ext o;refine WE IB EB rfl F rfl (by rw[List.length_append,AA,List.length_take,List.length_nil];omega) (by rw[List.length_append,AA,List.length_take,List.length_nil];omega) (by have:=o.size;omega) λad af q M _=>?_;have n:=o.grown M λd e=>(F.blk d e).1;have V:=g.ext n;refine Qm V.sl (by rw[AA];exact p) λu' I=>?_;rw[xp]at I;rw[List.nil_append,show yA (k.take a)++[sv s]=yA (k.take a++[s])from uG _ _]at q;refine A2 IB EB rfl q I (tI _) (by rw[AA,AA,List.length_append,List.length_take,List.length_drop,List.length_singleton];omega) (by rw[AA,AA,List.length_append,List.length_take,List.length_drop,List.length_singleton];omega) (by have:=n.size;omega) λae ag D N _=>?_;have L:=n.grown N λd e=>(q.blk d e).1;rw[O3,<-T]at D;exact⟨m.trans L,D.mono S⟩
theorem jd(f:iM w v k)(hL:k.length<=1099511627776):
  nA prog 32 #[v] w λr c=>bA w c/\Ow w.heap.size fA c r (yA (qG k)):=by
 apply Ae;unfold OY;refine PH λo y t g m=>?_;refine MB (λs:Value×Nat=>[s.1,iv (s.2:Int)]) (λs c=>s.2<=k.length/\bA w c/\Ow w.heap.size fA c s.1 (yA (qG (k.take s.2)))) (λs=>k.length-s.2) (o,0) rfl ⟨Nat.zero_le _,g,m⟩ ?_;rintro⟨u,i⟩ p q ⟨d,a,b⟩ l;have d:i<=k.length:=d;have b:Ow w.heap.size fA p u (yA (qG (k.take i))):=b;intro _;simp only[gx];refine ZA (f.ext a) ?_;refine jB ?_;refine dA (λh=>?_) (λh=>?_)
 ·refine mQ (f.ext a) (by omega) λx n=>?_;refine DD n ?_;have:=IW (k.take i);rw[List.length_take]at this;refine aA ((kJ b a.size (by omega)).mono ?_);rintro r z ⟨j,e⟩;refine qA (by omega) ?_;rw[<-mg,<-List.take_succ_eq_append_getElem (by omega)]at e;exact l (r,i+1) _ ⟨by show i+1<=k.length;omega,a.trans j,e⟩ (by show k.length-(i+1)<k.length-i;omega)
 ·rw[List.take_of_length_le (by omega)]at b;exact⟨a,b⟩
theorem Lw{P:Program}{e:TypeId}{K:Value->World->Prop}(l:P.underlying u=some (.slice e))(j:P.underlying e=some (.int .u8))(i:P.underlying H=some .string)(n:o=(q.toNat:Int))(h:∀a,bA w a->K (sv [q]) a):
  xB e (Value.cells (.int .u8 0)) 1 1 [(0,.int .u8 o)] w λv c=>xR P c (convert u H v) λr=>K r c:=by
 subst n;refine fF rfl rfl λb t x d f=>?_;refine⟨sv [q],λa m=>?_,h t d⟩;have g:=f.ext m;rw[run_convert_bytes_string a u H e _ 1 1 l j i];have k:(loadCells ⟨b,0,none⟩ 1).run P a= .ok ([(q.toNat:Int)].map (Value.int .u8)).toArray a:=by
  simp only[loadCells];rw[AO (cs:=#[Value.int .u8 (q.toNat:Int)]) 1 0 #[] (λp _ y=>by
   have:p=0:=by omega
   subst this;exact g.cell 0) (by simp)]
  simp
 rw[run_bytesToString a ⟨b,0,none⟩ 1 1 _ k];have e:[(q.toNat:Int)].foldl (λ(r:ByteArray) (s:Int)=>r.push (UInt8.ofNat s.toNat)) ByteArray.empty=⟨[q].toArray⟩:=by
  simp only[List.foldl_cons,List.foldl_nil,Int.toNat_natCast,UInt8.ofNat_toNat];rfl
 rw[e]
def xr(b:Nat):tm prog ND (.func (.func 65) #[] #[.pointer (some ⟨b,0,none⟩)]) (λ_=>[112]) (λ_=>True) where
 J:=λS o w=>∃u,GA M6 w b [u]/\Ow (b+1) fA w u (yA o)/\ ∀k,S k↔(k=b∨u.ownBlock=some k)
 below:=λ⟨u,d,f,a⟩ k c=>by
  rcases(a k).1 c with rfl|g
  ·exact d.lt
  ·exact(f.blk k g).2
 keep:=λ⟨u,d,f,a⟩ _ c=>⟨u,(c b ((a b).2 (.inl rfl))).trans d,f.same λh e=>c h ((a h).2 (.inr e)),a⟩
 no8:=λ⟨u,d,f,a⟩ k c=>by
  rintro⟨x,z,e⟩
  rcases(a k).1 c with rfl|g
  ·have:=d.symm.trans e
   simp only[Option.some.injEq,Obj.cells.injEq]at this
   exact absurd this.2.1 (by decide)
  ·obtain⟨y,s⟩:=f.ty g
   have:=s.symm.trans e
   simp only[Option.some.injEq,Obj.cells.injEq]at this
   exact absurd this.2.1 (by decide)
 call:=λ{S o w n} ⟨u,d,f,a⟩ _ _ A=>by
  refine lQ rfl ?_
  show nA prog 65 #[sv n,.pointer (some ⟨b,0,none⟩)] w _
  apply zX;unfold UL
  have B:=d.lt
  refine mA d rfl ?_
  refine WE IB EB rfl f rfl (by rw[AA];omega) (by rw[AA];omega) (by omega) λi p j m r=>?_
  have t:u.ownBlock≠some b:=f.ne_blk d (by decide)
  have l:=d.grown m t
  refine QH l (by simp) j.cell λq=>?_
  have v:i.ownBlock≠some b:=j.ne_blk l (by decide)
  rw[uG]at j
  refine⟨rfl,λk=>k=b∨i.ownBlock=some k,⟨i,q,j.upd (PI.setCell p b 0 i) v,λk=>Iff.rfl⟩,?_,λk c=>?_⟩
  ·refine(sE (S:=S) m λh e=>(a h).2 (.inr e)).trans ((PI.setCell p b 0 i).ch (S:=S) ((a b).2 (.inl rfl))) λh e=>.inl e
  ·rcases c with rfl|c
   ·exact .inl ((a _).2 (.inl rfl))
   ·rcases r with g|⟨h,g,e⟩
    ·exact .inl ((a k).2 (.inr (g▸c)))
    ·rw[g]at c;cases c;exact .inr e
theorem SH(E:s.length<=262144)(t:(QA (CA s)).all KD=true)(w:World):nA prog 30 #[sv s] w λr e=>bA w e/\Ow w.heap.size fA e r (yA (qG (QA (CA s)))):=by
 apply D1;unfold fO;refine xC λb u y j n=>?_;have p:(xr b).J (λk=>k=b) [] u:=⟨.slice none 0 0,n,Ow.nil _ _ _,λk=>⟨.inl,λi=>i.elim id λh=>by cases h⟩⟩
 have C:=Y1 (g:=λ_=>[112]) (B:=1) s (λG _=>by simp);refine aA ((kK (xr b) (by omega) (λ_ _=>trivial) (by omega) p).mono ?_);rintro _ f ⟨S,F,⟨H,o,c,x⟩,q,-,l,-⟩;obtain⟨-,rfl⟩:=l t;have a:bA w f:=j.thenCh q λv z=>by omega
 refine mA o rfl ?_;have D:(QA (CA s)).length<=s.length:=by rw[show(QA (CA s)).length=(CA s).2.length from List.length_map _];exact mN s
 refine aA ((FO (A:=QA (CA s)) (B:=[]) c.sl (Sl.nil f) c.cell rfl (by simp;omega)).mono ?_);rintro r I ⟨m,d⟩;rw[List.append_nil]at d;exact⟨a.trans m,d.mono a.size⟩
def zE(t:jA):List jA:=if sF t=0 then qG (QA (CA t))else[]
theorem jm(t:jA):(zE t).length<=t.length:=by
 unfold zE;split
 ·have:=IW (QA (CA t));have a:(QA (CA t)).length<=t.length:=by rw[show(QA (CA t)).length=(CA t).2.length from List.length_map _];exact mN t
  omega
 ·simp
theorem lc(h:sF s=0):s.length<=300/\AC s=true/\(QA (CA s)).all KD=true:=by
 unfold sF at h;split at h
 ·cases h
 ·split at h
  ·rename_i b a;refine⟨by omega,a,?_⟩;unfold AC at a;rw[Bool.and_eq_true]at a;exact a.1
  ·cases h
theorem aW(t:jA)(w:World):nA prog 9 #[sv t] w λr b=>bA w b/\ ∃u,r= .tuple #[u,iv (sF t)]/\Ow w.heap.size fA b u (yA (zE t)):=by
 apply pX;unfold LL;refine gA (cJ t w) λf a=>?_;refine ZF ?_;refine dA (λh=>?_) (λh=>?_)
 ·refine⟨a,_,rfl,?_⟩;unfold zE;rw[if_neg h];exact Ow.nil _ _ _
 ·have h:sF t=0:=Classical.not_not.1 h;obtain⟨g,-,d⟩:=lc h;refine aA ((SH (by omega) d f).mono ?_);rintro r i ⟨c,e⟩;refine⟨a.trans c,r,by rw[h],?_⟩;unfold zE;rw[if_pos h];exact e.mono a.size
theorem wW(t:jA)(w:World):nA prog 10 #[sv t] w λr d=>bA w d/\ ∃u,r= .tuple #[u,iv (sF t)]/\Ow w.heap.size fA d u (yA (zE t)):=by
 apply IX;unfold dM;refine HD ?_;refine jB ?_;refine dA (λh=>?_) (λh=>?_)
 ·have e:sF t=3:=by unfold sF;rw[if_pos (by omega)]
  refine⟨bA.refl _,_,by rw[e],?_⟩;unfold zE;rw[e,if_neg (by decide)];exact Ow.nil _ _ _
 ·refine gA (EL (by omega) w) λj a=>?_;refine TA ?_;cases c:AC t
  ·refine iA rfl ?_;have e:sF t=6:=by unfold sF;rw[if_neg (by omega),c];rfl
   refine⟨a,_,by rw[e],?_⟩;unfold zE;rw[e,if_neg (by decide)];exact Ow.nil _ _ _
  ·refine cA rfl ?_;have e:sF t=0:=by unfold sF;rw[if_neg (by omega),c];rfl
   refine aA ((oJ (by omega) j).mono ?_);rintro r n ⟨b,m,l,rfl,-,g⟩;refine lD ?_;refine mD ?_;have k:(QA (CA t)).length<=t.length:=by rw[show(QA (CA t)).length=(CA t).2.length from List.length_map _];exact mN t
   refine aA ((jd g.sl (by omega)).mono ?_);rintro r o ⟨f,i⟩;refine⟨(a.trans b).trans f,r,by rw[e],?_⟩;unfold zE;rw[if_pos e];exact i.mono (a.trans b).size
structure kF where
 nm:jA
 fm:jA
 cl:Int
instance:Inhabited kF:=⟨⟨[],[],0⟩⟩
def kF.cs(x:kF):List Value:=[sv x.nm,sv x.fm,iv x.cl]
abbrev kF.val(x:kF):Value:=.agg #[sv x.nm,sv x.fm,iv x.cl]
def eE(L:List kF):List Value:=L.flatMap kF.cs
theorem ul(L M:List kF):eE (L++M)=eE L++eE M:=by simp[eE]
theorem eQ:∀{L:List kF} {j:Nat},j<L.length->(eE L)[j*3+0]?=some (sv (gt L j).nm)/\(eE L)[j*3+1]?=some (sv (gt L j).fm)/\(eE L)[j*3+2]?=some (iv (gt L j).cl)
 |[],_,h=>by simp at h
 |x::L,0,_=>⟨rfl,rfl,rfl⟩
 |x::L,j+1,h=>by
  have:=eQ (L:=L) (j:=j) (by simpa using h);have e:∀f,(eE (x::L))[(j+1)*3+f]?=(eE L)[j*3+f]?:=λf=>by
   rw[show eE (x::L)=x.cs++eE L by simp[eE],List.getElem?_append_right (by simp[kF.cs];omega)]
   congr 1
   simp[kF.cs];omega
  rw[e,e,e];exact this
theorem Xi(L:List kF):∀u∈eE L,vA u=true:=by
 intro u b;obtain⟨x,_,a⟩:=List.mem_flatMap.1 b;simp only[kF.cs,List.mem_cons,List.not_mem_nil,or_false]at a;rcases a with rfl|rfl|rfl<;>rfl
abbrev m4(w:World)(v:Value)(L:List kF):Prop:=rB 3 w v L.length (eE L)
theorem Fv{d:List kF}(g:m4 w v d)(j:o=(x:Int))(c:x<d.length)(h:z (gt d x).val):wA 3 v (.int b o) λp=>HA w 3 p z:=by
 have a:=eQ c;subst j;refine Ys g c λk l e=>?_;refine⟨_,_,rfl,rfl,λi f=>?_,h⟩;rw[XD,e i f];rcases i with _|_|_|i
 ·exact a.1
 ·exact a.2.1
 ·exact a.2.2
 ·omega
theorem vw{d:List kF}{j:Nat}(c:m4 w v d)(e:o=(j:Int))(a:j<d.length)(h:z (sv (gt d j).nm)):wA 3 v (.int b o) λp=>FA 0 p λq=>kA w q z:=
 eB c e a (by decide) (eQ a).1 h
theorem yx{d:List kF}(c:m4 w v d)(e:o=(x:Int))(a:x<d.length)(h:z (sv (gt d x).fm)):wA 3 v (.int b o) λp=>FA 1 p λq=>kA w q z:=
 eB c e a (by decide) (eQ a).2.1 h
theorem Vx{d:List kF}(c:m4 w v d)(e:o=(x:Int))(a:x<d.length)(h:z (iv (gt d x).cl)):wA 3 v (.int b o) λp=>FA 2 p λq=>kA w q z:=
 eB c e a (by decide) (eQ a).2.2 h
theorem rN(h:∀q a,q=w.heap.size/\a.heap.size=q+1->bA w a->GA u a q [v,i,U]->t (.pointer (some ⟨q,0,none⟩)) a):PA (Value.cells (.agg #[v,i,U])) u w t:=
 xC λq a b c d=>h q a b c (by simpa[Value.cells]using d)
theorem Kq(a:GA u w x [v,i,U])(h:z (.agg #[v,i,U])):HA w 3 (.pointer (some ⟨x,0,none⟩)) z:=DB a rfl (by simpa using h)
theorem Uq{P:Program}(j:GA u w x y)(c:y.length=3)(k:vA v=true)(m:vA i=true)(n:vA U=true)
  (h:∀a,GA u a x [v,i,U]->Ch (λd=>d=x) w a->l a):sD P w 3 (.pointer (some ⟨x,0,none⟩)) (.agg #[v,i,U]) l:=by
 obtain⟨a,f,g,b⟩:=DF (P:=P) [v,i,U] 0 w y j (by simp[c]) (λo e=>by simp at e;rcases e with rfl|rfl|rfl<;>assumption);refine⟨_,a,rfl,rfl,?_,h a ?_ (g.ch rfl)⟩
 ·simpa[Value.cells]using f
 ·rw[List.take_zero,List.nil_append,List.drop_of_length_le (by simp[c]),List.append_nil]at b;exact b
theorem QX{i:Nat}(b:GA u w x y)(c:i<y.length)(d:vA v=true)(h:∀w',GA u w' x (y.set i v)->PI x w w'->l w'):KC w (.pointer (some ⟨x,i,none⟩)) v l:=
 QH b c d λa=>h _ a (PI.setCell w x i v)
def Io(x:kF):Bool:=KD x.nm&&YK x.fm&&decide (0<=x.cl/\x.cl<=1)
def sJ(L:List kF)(i:Nat):Bool:=Io (gt L i)&&(decide (i=0)||wC (gt L (i-1)).nm (gt L i).nm)
def vC(L:List kF):Bool:=decide (L.length<=12)&&(List.range L.length).all (sJ L)
theorem kE{d:List kF}:vC d=true↔d.length<=12/\ ∀i,i<d.length->sJ d i=true:=by
 simp[vC,List.all_eq_true,List.mem_range]
theorem lI{d:List kF}(h:vC d=true):∀i j,i<j->j<d.length->wC (gt d i).nm (gt d j).nm=true:=by
 intro i j
 induction j with
 |zero=>intro e _;omega
 |succ j ih=>
  intro e f;have a:=(kE.1 h).2 (j+1) f;simp only[sJ,Bool.and_eq_true,Bool.or_eq_true,decide_eq_true_eq,Nat.add_sub_cancel]at a;have b:wC (gt d j).nm (gt d (j+1)).nm=true:=a.2.resolve_left (by omega);rcases Nat.lt_or_ge i j with c|c
  ·exact CM (ih c (by omega)) b
  ·rw[show i=j by omega];exact b
def zu(L:List kF)(n:jA):Option kF:=L.find? λx=>decide (x.nm=n)
def sV(L:List kF):Prop:=∀x∈L,x.nm.length<=1048576/\x.fm.length<=1048576
theorem d7:∀{L:List kF} {j:Nat} (s:jA),j<L.length->(eE L).set (j*3+1) (sv s)=eE (L.set j {gt L j with fm:=s})
 |[],_,_,h=>by simp at h
 |x::L,0,s,_=>rfl
 |x::L,j+1,s,h=>by
  have:=d7 (L:=L) (j:=j) s (by simpa using h);rw[show eE (x::L)=x.cs++eE L by simp[eE],List.set_append_right _ _ (by simp[kF.cs];omega),show(j+1)*3+1-x.cs.length=j*3+1 by simp[kF.cs];omega,this];rfl
theorem Ko(a b:jA):(wC a b||a==b)= !wC b a:=by
 rcases qQ a b with h|h|h
 ·rw[h,pQ h];rfl
 ·subst h;rw[YC];simp
 ·rw[h,pQ h];have:¬a=b:=λe=>by subst e;rw[YC]at h;cases h
  simp[this]
def Np(L:List kF):Prop:=∀i j,i<j->j<L.length->wC (gt L i).nm (gt L j).nm=true
def zR(L:List kF)(n:jA):Bool:=L.any λx=>decide (x.nm=n)
theorem Lm{d:List kF}(a:x<d.length)(h:(gt d x).nm=s):zR d s=true:=by
 unfold zR;rw[List.any_eq_true];exact⟨d[x],List.getElem_mem _,by rw[<-LA a];exact decide_eq_true h⟩
theorem V9{d:List kF}(h:∀i,i<d.length-> ¬(gt d i).nm=s):zR d s=false:=by
 unfold zR;rw[List.any_eq_false];intro x b;obtain⟨i,a,rfl⟩:=List.getElem_of_mem b;rw[<-LA a];simpa using h i a
theorem Xg:∀a b:jA,(Lib.compareBytes a b<0↔wC a b=true)/\(Lib.compareBytes a b=0↔a=b)/\(-1<=Lib.compareBytes a b/\Lib.compareBytes a b<=1)
 |[],[]=>by simp[Lib.compareBytes,wC,Op.bytesLess]
 |[],_::_=>by simp[Lib.compareBytes,wC,Op.bytesLess]
 |_::_,[]=>by simp[Lib.compareBytes,wC,Op.bytesLess]
 |x::a,y::b=>by
  have f:=Xg a b;simp only[Lib.compareBytes,wC,Op.bytesLess,Bool.or_eq_true,decide_eq_true_eq,Bool.and_eq_true,beq_iff_eq,List.cons.injEq]at f⊢;by_cases c:x<y
  ·rw[if_pos c];refine⟨by simp[c],?_,by decide⟩;have:¬x=y:=λe=>by subst e;exact absurd c (UInt8.lt_irrefl _)
   simp[this]
  ·rw[if_neg c];by_cases d:y<x
   ·rw[if_pos d];have:¬x=y:=λe=>by subst e;exact absurd d (UInt8.lt_irrefl _)
    simp[c,this]
   ·rw[if_neg d];have:x=y:=by
     rcases Classical.em (x=y)with e|e
     ·exact e
     ·rcases UInt8.lt_or_lt_of_ne e with h|h
      ·exact absurd h c
      ·exact absurd h d
    subst this;simp only[c,false_or,true_and];exact f
theorem I5(x a b:Int)(w:World):CB prog 53 #[iv x,iv a,iv b] w (.bool (decide (a<=x/\x<=b))):=by
 apply CV;unfold OM;refine sB (decide (a<=x/\x<=b)) w (λJ c=>?_) (λf d=>λ_=>⟨by first|trivial|rfl,d⟩);refine LF ?_;refine dA (λh=>?_) (λh=>?_)
 ·refine LF ?_;rw[show decide (a<=x/\x<=b)=decide (x<=b)from decide_eq_decide.2 ⟨λe=>e.2,λe=>⟨h,e⟩⟩]at c;exact c _ (bA.refl _)
 ·rw[decide_eq_false (λe:a<=x/\x<=b=>h e.1)]at c;exact c _ (bA.refl _)
theorem jK{d:List kF}(f:m4 w v d)(G:sV d):CB prog 24 #[v] w (.bool (vC d)):=by
 apply L7;unfold YR;have M:=f.len;refine VB f ?_;refine MB (λi:Nat=>[iv i]) (λi b=>i<=d.length/\bA w b/\ ∀j,j<i->sJ d j=true) (λi=>d.length-i) 0 rfl ⟨Nat.zero_le _,bA.refl _,λj o=>by omega⟩ ?_;rintro i S H ⟨L,c,q⟩ D;intro _;simp only[gx];refine jB ?_;refine dA (λu=>?_) (λu=>?_)
 ·refine Fv (f.ext c) rfl (by omega) ?_;refine rN λP T N z C=>?_;refine Uq C rfl rfl rfl rfl λs g E=>?_;have l:bA w s:=(c.trans z).thenCh E λI K=>by have:=c.size;omega
  have O:=G (gt d i) (by rw[LA (show i<d.length by omega)];exact List.getElem_mem _);refine sB (!sJ d i) s (λJ a=>?_) (λU B=>?_)
  ·unfold sJ Io at a;refine pB ?_;refine mA g rfl ?_;refine eC (λb _=>dW (by omega) b) ?_;refine TA ?_;cases p:KD (gt d i).nm
   ·rw[p]at a;exact iA rfl λt e=>a _ e
   rw[p,Bool.true_and]at a;refine cA rfl ?_;refine pB ?_;refine mA g rfl ?_;refine eC (λb _=>gW _ b) ?_;refine TA ?_;cases n:YK (gt d i).fm
   ·rw[n]at a;exact iA rfl λt e=>a _ e
   rw[n,Bool.true_and]at a;refine cA rfl ?_;refine pB ?_;refine mA g rfl ?_;refine eC (λb _=>I5 _ _ _ b) ?_;refine TA ?_;by_cases k:0<=(gt d i).cl/\(gt d i).cl<=1
   ·rw[decide_eq_true k,Bool.true_and]at a;rw[decide_eq_true k];refine cA rfl ?_;refine jB ?_;refine dA (λA=>?_) (λA=>?_)
    ·rw[decide_eq_false (show¬i=0 by omega),Bool.false_or]at a;refine HB (by omega) ?_;refine vw (j:=i-1) (f.ext l) (by omega) (by omega) ?_;refine pB ?_;refine mA g rfl ?_;refine Gx ?_;exactλQ x=>a _ x
    ·rw[decide_eq_true (show i=0 by omega),Bool.true_or]at a;exactλR y=>a _ y
   ·rw[decide_eq_false k]at a⊢;exact iA rfl λt e=>a _ e
  ·intro _;simp only[gx];have m:=l.trans B;cases r:sJ d i
   ·refine iA rfl ?_;have:vC d=false:=by
     rw[Bool.eq_false_iff];intro h;have:=(kE.1 h).2 i (by omega);rw[r]at this;cases this
    rw[this];exact⟨by first|trivial|rfl,m⟩
   ·refine cA rfl ?_;refine qA (by omega) ?_;refine D (i+1) _ ⟨by omega,m,λj o=>?_⟩ (by omega);by_cases F:j=i
    ·subst F;exact r
    ·exact q j (by omega)
 ·refine VB (f.ext c) ?_;refine LF ?_;refine⟨?_,c⟩
  congr 1
  rw[Bool.eq_iff_iff,kE,decide_eq_true_eq];exact⟨λh=>⟨by omega,λj o=>q j (by omega)⟩,λh=>by omega⟩
theorem OQ{d:List kF}(b:m4 w v d)(G:sV d):CB prog 58 #[v] w (.bool (vC d)):=by
 apply M8;unfold SS;have N:=b.len;refine VB b ?_;refine jB ?_;refine dA (λu=>?_) (λu=>?_)
 ·have:vC d=false:=by
   rw[Bool.eq_false_iff];intro k;have:=(kE.1 k).1;omega
  rw[this];exact⟨by first|trivial|rfl,bA.refl _⟩
 refine MB (λi:Nat=>[iv i]) (λi H=>i<=d.length/\bA w H/\ ∀j,j<i->sJ d j=true) (λi=>d.length-i) 0 rfl ⟨Nat.zero_le _,bA.refl _,λj q=>by omega⟩ ?_;rintro i I L ⟨M,c,s⟩ E;intro _;simp only[gx];refine VB (b.ext c) ?_;refine jB ?_;refine dA (λz=>?_) (λz=>?_)
 ·have O:=G (gt d i) (by rw[LA (show i<d.length by omega)];exact List.getElem_mem _);refine yx (b.ext c) rfl (by omega) ?_;refine aA ((TD _ I).mono ?_);rintro P t ⟨y,Q,rfl,-⟩;have l:=c.trans y;refine lD ?_;refine mD ?_;have m:sJ d i=false->vC d=false:=λh=>by
   rw[Bool.eq_false_iff];intro k;have:=(kE.1 k).2 i (by omega);rw[h]at this;cases this
  refine sB (!Io (gt d i)) t (λJ a=>?_) (λK A=>?_)
  ·unfold Io at a;refine TA ?_;cases o:YK (gt d i).fm
   ·rw[o,Bool.and_false,Bool.false_and]at a;exact iA rfl (a _ (bA.refl _))
   rw[o,Bool.and_true]at a;refine cA rfl ?_;refine vw (b.ext l) rfl (by omega) ?_;refine gA (CT (by omega) t) λS e=>?_;refine TA ?_;cases r:KD (gt d i).nm
   ·rw[r]at a;exact iA rfl (a _ e)
   rw[r,Bool.true_and]at a;refine cA rfl ?_;have g:=l.trans e;refine Vx (b.ext g) rfl (by omega) ?_;refine ZF ?_;refine dA (λB=>?_) (λB=>?_)
   ·refine Vx (b.ext g) rfl (by omega) ?_;refine ZF ?_;rw[show(!decide (0<=(gt d i).cl/\(gt d i).cl<=1))=decide (¬(gt d i).cl=1)by rw[<-decide_not];exact decide_eq_decide.2 (by omega)]at a;exact a _ e
   ·rw[decide_eq_true (show 0<=(gt d i).cl/\(gt d i).cl<=1 by omega)]at a;exact a _ e
  ·intro _;simp only[gx];have f:=l.trans A;cases p:Io (gt d i)
   ·refine iA rfl ?_;rw[m (by unfold sJ;rw[p];rfl)];exact⟨by first|trivial|rfl,f⟩
   refine cA rfl ?_;refine sB (!sJ d i) K (λJ a=>?_) (λT C=>?_)
   ·unfold sJ at a;rw[p,Bool.true_and]at a;refine jB ?_;refine dA (λg=>?_) (λg=>?_)
    ·rw[decide_eq_false (show¬i=0 by omega),Bool.false_or]at a;refine vw (j:=i) (b.ext f) rfl (by omega) ?_;refine HB (by omega) ?_;refine vw (j:=i-1) (b.ext f) (by omega) (by omega) ?_;refine Hx ?_;rw[Ko];exactλU D=>a _ D
    ·rw[decide_eq_true (show i=0 by omega),Bool.true_or]at a;exactλR x=>a _ x
   ·intro _;simp only[gx];have n:=f.trans C;cases h:sJ d i
    ·refine iA rfl ?_;rw[m h];exact⟨by first|trivial|rfl,n⟩
    ·refine cA rfl ?_;refine qA (by omega) ?_;refine E (i+1) _ ⟨by omega,n,λj q=>?_⟩ (by omega);by_cases F:j=i
     ·subst F;exact h
     ·exact s j (by omega)
 ·have:vC d=true:=kE.2 ⟨by omega,λj q=>s j (by omega)⟩;rw[this];exact⟨by first|trivial|rfl,c⟩
theorem j0(a b:jA)(w:World):CB prog 112 #[sv a,sv b] w (iv (Lib.compareBytes a b)):=by
 apply R1;unfold sO;refine gA (v:=iv (Lib.compareBytes a b)) ?_ λf c=>⟨by first|trivial|rfl,c⟩
 refine⟨⟨_,Tryz.func218,by kernel_rfl,by kernel_rfl⟩,?_⟩;refine(Any.bytealg_CompareString Ft ⟨a.toArray⟩ ⟨b.toArray⟩ w).mono ?_;rintro e d ⟨rfl,rfl⟩;exact⟨_,rfl,rfl,bA.refl _⟩
theorem AQ(x:kF)(n:jA)(w:World):CB prog 111 #[x.val,sv n] w (iv (Lib.compareBytes x.nm n)):=by
 apply Q7;unfold eS;refine rN λq d e a c=>?_;refine pB ?_;refine mA c rfl ?_;exact gA (j0 _ _ d) λf b=>⟨by first|trivial|rfl,a.trans b⟩
def Lp(L:List kF)(n:jA)(i:Nat)(y:Bool):Prop:=(i<=L.length/\(Np L->(∀k,k<i->wC (gt L k).nm n=true)/\(i<L.length->wC (gt L i).nm n=false)))/\(y=true->i<L.length/\(gt L i).nm=n)/\(Np L->y=zR L n)
theorem e9{d:List kF}(I:m4 w v d)(hL:d.length<=1099511627776):nA prog 110 #[v,sv s,.func (.func 111) #[] #[]] w λT p=>bA w p/\ ∃i:Nat,∃y:Bool,T= .tuple #[iv i,.bool y]/\Lp d s i y:=by
 apply ZD;unfold nC;refine VB I ?_;refine MB (λf:Nat×Nat=>[iv (f.1:Int),iv (f.2:Int)]) (λf p=>f.1<=f.2/\f.2<=d.length/\bA w p/\(Np d->(∀k,k<f.1->wC (gt d k).nm s=true)/\ ∀k,f.2<=k->k<d.length->wC (gt d k).nm s=false)) (λf=>f.2-f.1) (0,d.length) rfl ⟨Nat.zero_le _,Nat.le_refl _,bA.refl _,λ_=>⟨λk n=>absurd n (Nat.not_lt_zero k),λk N o=>absurd o (Nat.not_lt.2 N)⟩⟩ ?_;rintro⟨a,b⟩ B W ⟨F,t,o,l⟩ E;have F:a<=b:=F;have t:b<=d.length:=t;have l:Np d->(∀k,k<a->wC (gt d k).nm s=true)/\ ∀k,b<=k->k<d.length->wC (gt d k).nm s=false:=l;have J:=I.ext o;intro _;simp only[gx];refine jB ?_;refine dA (λM=>?_) (λM=>?_)
 ·refine qA (by omega) ?_;refine ZO (by omega) ?_;rw[show(a:Int)+b=((a+b:Nat):Int)by omega];refine vh (j:=1) (by omega) ?_;refine BR (by omega) ?_;have G:a<=(a+b)/2^1:=by omega
  have R:(a+b)/2^1<b:=by omega
  generalize(a+b)/2^1=m at G R;refine Fv J rfl (by omega) ?_;refine gA (AQ _ _ B) λU q=>?_;refine jB ?_;have u:=Xg (gt d m).nm s;refine dA (λc=>?_) (λc=>?_)
  ·refine qA (by omega) ?_;refine E (m+1,b) _ ⟨by show m+1<=b;omega,t,o.trans q,λe=>⟨λk n=>?_,(l e).2⟩⟩ (by show b-(m+1)<b-a;omega);have n:k<m+1:=n;by_cases x:k=m
   ·subst x;exact u.1.1 c
   ·exact CM (e k m (by omega) (by omega)) (u.1.1 c)
  ·have H:wC (gt d m).nm s=false:=by
    rw[Bool.eq_false_iff];intro g;exact c (u.1.2 g)
   refine E (a,m) _ ⟨G,by show m<=d.length;omega,o.trans q,λe=>⟨(l e).1,λk n O=>?_⟩⟩ (by show m-a<b-a;omega);have n:m<=k:=n;by_cases x:k=m
   ·subst x;exact H
   ·exact rI.tr H (pQ (e m k (by omega) O))
 ·have Q:a=b:=by omega
  subst Q;refine WB (λK p=>bA B p/\ ∃y:Bool,K=[iv a,.bool y]/\y=(decide (a<d.length)&&decide ((gt d a).nm=s))) (λV D=>?_) ?_
  ·refine jB ?_;refine dA (λc=>?_) (λc=>?_)
   ·refine Fv J rfl (by omega) ?_;refine gA (AQ _ _ B) λU q=>?_;refine BA ?_;refine D _ _ ⟨q,_,rfl,?_⟩;rw[decide_eq_true (show a<d.length by omega),Bool.true_and];exact decide_eq_decide.2 (Xg (gt d a).nm s).2.1
   ·exact D _ _ ⟨bA.refl _,false,rfl,by rw[decide_eq_false (show¬a<d.length by omega),Bool.false_and]⟩
  ·rintro K X ⟨h,y,rfl,z⟩;intro _;refine⟨o.trans h,a,y,rfl,⟨t,λe=>⟨(l e).1,λP=>(l e).2 a (Nat.le_refl _) P⟩⟩,λg=>?_,λe=>?_⟩
   ·rw[g]at z;have:=z.symm;rw[Bool.and_eq_true,decide_eq_true_eq,decide_eq_true_eq]at this;exact this
   ·obtain⟨C,L⟩:=l e;rw[z];rcases Nat.lt_or_ge a d.length with c|c
    ·rw[decide_eq_true c,Bool.true_and];by_cases r:(gt d a).nm=s
     ·rw[decide_eq_true r,Lm c r]
     ·rw[decide_eq_false r,V9 λi b g=>?_];rcases Nat.lt_trichotomy i a with h|h|h
      ·have:=C i h;rw[g,YC]at this;cases this
      ·subst h;exact r g
      ·have S:=L a (Nat.le_refl _) c;have A:=e a i h b;rw[g]at A;rw[S]at A;cases A
    ·rw[decide_eq_false (Nat.not_lt.2 c),Bool.false_and,V9 λi b g=>?_];have:=C i (by omega);rw[g,YC]at this;cases this
theorem AN{d:List kF}(c:m4 w v d)(hL:d.length<=1099511627776):nA prog 39 #[v,sv s] w λr e=>bA w e/\ ∃i:Nat,∃y:Bool,r= .tuple #[iv i,.bool y]/\Lp d s i y:=by
 apply Vd;unfold sY;refine aA ((e9 c hL).mono ?_);rintro r f ⟨a,i,y,rfl,b⟩;refine lD ?_;refine mD ?_;exact⟨a,i,y,rfl,b⟩
def P9(T:List jA)(n:jA)(k:Nat):List Int:=((List.range k).filter λi=>decide (n∈QA (CA (gt T i)))).map Int.ofNat
theorem iX(T:List jA)(n:jA)(k:Nat):P9 T n (k+1)=if n∈QA (CA (gt T k))then P9 T n k++[(k:Int)]else P9 T n k:=by
 unfold P9;rw[List.range_succ,List.filter_append,List.map_append];by_cases h:n∈QA (CA (gt T k))<;>simp[h]
theorem Jk(T:List jA)(n:jA):∀k,(P9 T n k).length<=k
 |0=>by simp[P9]
 |k+1=>by
  have:=Jk T n k;rw[iX];split
  ·simp;omega
  ·omega
def tK(L:List kF)(T:List jA)(n:jA):Int:=
 if vC L=false then 1 else if T.any (λt=>decide (300<t.length))then 3 else if T.any (λt=>!AC t)then 6 else if zR L n=false then 4 else 0
def N6(L:List kF)(T:List jA)(n:jA):List Int:=if tK L T n=0 then P9 T n T.length else[]
theorem PV(h:AC s=true):(QA (CA s)).all KD=true:=by
 unfold AC at h;rw[Bool.and_eq_true]at h;exact h.1
theorem Wp{p:jA->Bool}(a:x<k.length)(h:p (gt k x)=true):k.any p=true:=List.any_eq_true.2 ⟨k[x],List.getElem_mem _,by rw[<-LA a];exact h⟩
theorem mv{p:jA->Bool}(h:∀i,i<k.length->p (gt k i)=false):k.any p=false:=by
 rw[List.any_eq_false];intro x b;obtain⟨i,a,rfl⟩:=List.getElem_of_mem b;rw[<-LA a,h i a];exact Bool.false_ne_true
theorem Xp{p:jA->Bool}(h:k.any p=false){i:Nat}(a:i<k.length):p (gt k i)=false:=by
 rw[Bool.eq_false_iff];intro e;rw[Wp a e]at h;cases h
theorem mH{L:List jA}{j:Nat}(d:iM w v L)(e:o=(j:Int))(a:j<L.length)(h:z (sv (gt L j))):wA 1 v (.int b o) λp=>kA w p z:=by
 subst e;exact mQ d a λp c=>DD c (by rw[<-LA a];exact h)
theorem rB.cellZ(h:rB x w v n y):vA v=true:=by
 obtain⟨_,_,_,e,_⟩:=h;rw[e];rfl
theorem Sl.cellZ(h:Sl w v y):vA v=true:=by
 obtain⟨_,_,e,_⟩:=h;rw[e];rfl
theorem OC{p:jA->Bool}(e:iM w v k)(o:∀x∈k,∀b,bA w b->TB prog i [sv x] b λu w''=>u= .bool (p x)/\bA b w''):CB prog 40 #[v,i] w (.bool (k.any p)):=by
 apply aE;unfold DC;have s:=e.len;rw[AA]at s;refine aA (nA.mono (R:=λr b=>bA w b/\ ∃z:Int,r=iv z/\(decide (0<=z)=k.any p)) ?_ ?_)
 ·apply QC;unfold lC;refine ZA e ?_;refine MB (λa:Nat=>[iv a]) (λa b=>a<=k.length/\bA w b/\ ∀j,j<a->p (gt k j)=false) (λa=>k.length-a) 0 rfl ⟨Nat.zero_le _,bA.refl _,λj g=>by omega⟩ ?_;rintro a y A ⟨B,c,h⟩ n;intro _;simp only[gx];refine jB ?_;refine dA (λl=>?_) (λl=>?_)
  ·refine mH (e.ext c) rfl (by omega) ?_;refine(o (gt k a) (by rw[LA (show a<k.length by omega)];exact List.getElem_mem _) y c).mono ?_;rintro u D ⟨rfl,f⟩;refine kB (λd=>?_) (λd=>?_)
   ·exact⟨c.trans f,_,rfl,by rw[Wp (by omega) d];simp⟩
   ·refine qA (by omega) ?_;refine n (a+1) _ ⟨by omega,c.trans f,λj g=>?_⟩ (by omega);by_cases q:j=a
    ·subst q;exact d
    ·exact h j (by omega)
  ·exact⟨c,-1,rfl,by rw[mv λj g=>h j (by omega)];rfl⟩
 ·rintro r C ⟨m,z,rfl,t⟩;refine LF ?_;rw[t];exact⟨by first|trivial|rfl,m⟩
theorem fD{t:jA}(d:iM w v k):CB prog 44 #[v,sv t] w (.bool (decide (t∈k))):=by
 apply RI;unfold ME;have o:=d.len;rw[AA]at o;refine aA (nA.mono (R:=λr e=>bA w e/\ ∃z:Int,r=iv z/\(decide (0<=z)=decide (t∈k))) ?_ ?_)
 ·apply RK;unfold GF;refine ZA d ?_;refine MB (λi:Nat=>[iv i]) (λi e=>i<=k.length/\bA w e/\ ∀j,j<i-> ¬t=gt k j) (λi=>k.length-i) 0 rfl ⟨Nat.zero_le _,bA.refl _,λj c=>by omega⟩ ?_;rintro i y s ⟨u,a,f⟩ m;intro _;simp only[gx];refine jB ?_;refine dA (λh=>?_) (λh=>?_)
  ·refine mH (d.ext a) rfl (by omega) ?_;refine yB ?_;refine dA (λb=>?_) (λb=>?_)
   ·refine⟨a,_,rfl,?_⟩;rw[decide_eq_true (show t∈k by rw[b,LA (show i<k.length by omega)];exact List.getElem_mem _)];simp
   ·refine qA (by omega) ?_;refine m (i+1) _ ⟨by omega,a,λj c=>?_⟩ (by omega);by_cases n:j=i
    ·subst n;exact b
    ·exact f j (by omega)
  ·refine⟨a,-1,rfl,?_⟩;rw[decide_eq_false (show¬t∈k fromλp=>by
    obtain⟨j,c,g⟩:=List.getElem_of_mem p;exact f j (by omega) (by rw[LA c];exact g.symm))]
   rfl
 ·rintro r x ⟨l,z,rfl,q⟩;refine LF ?_;rw[q];exact⟨by first|trivial|rfl,l⟩
theorem G9{L:List jA}(d:iM w v L):CB prog 329 #[v,sv s] w (.bool (decide (s∈L))):=by
 apply Xa;unfold NU;have l:=d.len;rw[AA]at l;refine MB (λi:Nat=>[iv i]) (λi n=>i<=L.length/\bA w n/\ ∀j,j<i-> ¬gt L j=s) (λi=>L.length-i) 0 rfl ⟨Nat.zero_le _,bA.refl _,λj c=>by omega⟩ ?_;rintro i q o ⟨p,a,e⟩ g;intro _;simp only[gx];refine ZA (d.ext a) ?_;refine jB ?_;refine dA (λh=>?_) (λh=>?_)
 ·refine mH (d.ext a) rfl (by omega) ?_;refine yB ?_;refine dA (λb=>?_) (λb=>?_)
  ·rw[decide_eq_true (show s∈L by rw[<-b,LA (show i<L.length by omega)];exact List.getElem_mem _)];exact⟨by first|trivial|rfl,a⟩
  ·refine qA (by omega) ?_;refine g (i+1) _ ⟨by omega,a,λj c=>?_⟩ (by omega);by_cases k:j=i
   ·subst k;exact b
   ·exact e j (by omega)
 ·rw[decide_eq_false (show¬s∈L fromλm=>by
   obtain⟨j,c,f⟩:=List.getElem_of_mem m;exact e j (by omega) (by rw[LA c];exact f))]
  exact⟨by first|trivial|rfl,a⟩
theorem NQ{d:List kF}{n:jA}(t:m4 w v d):nA prog 62 #[v,sv n] w λH g=>bA w g/\ ∃i:Nat,∃y:Bool,H= .tuple #[iv i,.bool y]/\Lp d n i y:=by
 apply L8;unfold RS;have M:=t.len;refine MB (λi:Nat=>[iv i]) (λi g=>i<=d.length/\bA w g/\ ∀j,j<i->wC (gt d j).nm n=true) (λi=>d.length-i) 0 rfl ⟨Nat.zero_le _,bA.refl _,λj k=>by omega⟩ ?_;rintro i I L ⟨E,q,l⟩ D;have m:=t.ext q;intro _;simp only[gx];refine sB (decide (i<d.length)&&wC (gt d i).nm n) I (λJ b=>?_) (λK r=>?_)
 ·refine VB m ?_;refine jB ?_;refine dA (λz=>?_) (λz=>?_)
  ·rw[decide_eq_true (show i<d.length by omega),Bool.true_and]at b;refine vw m rfl (by omega) ?_;exact Gv (b _ (bA.refl _))
  ·rw[decide_eq_false (show¬i<d.length by omega),Bool.false_and]at b;exact b _ (bA.refl _)
 intro _;simp only[gx];have u:=m.ext r;have s:=q.trans r;cases f:decide (i<d.length)&&wC (gt d i).nm n
 rotate_left
 ·rw[Bool.and_eq_true,decide_eq_true_eq]at f;refine iA rfl ?_;refine qA (by omega) ?_;refine D (i+1) _ ⟨by omega,s,λj k=>?_⟩ (by omega);by_cases F:j=i
  ·subst F;exact f.2
  ·exact l j (by omega)
 refine cA rfl ?_;refine WB (λx g=>bA K g/\ ∃y:Bool,x=[iv i,.bool y]/\y=(decide (i<d.length)&&decide ((gt d i).nm=n))) (λJ b=>?_) ?_
 ·refine VB u ?_;refine jB ?_;refine dA (λc=>?_) (λc=>?_)
  ·refine vw u rfl (by omega) ?_;refine yB ?_;exactλO a=>b _ _ ⟨a,_,rfl,by rw[decide_eq_true (show i<d.length by omega),Bool.true_and]⟩
  ·exactλP B=>b _ _ ⟨B,false,rfl,by rw[decide_eq_false (show¬i<d.length by omega),Bool.false_and]⟩
 ·rintro x N ⟨A,y,rfl,o⟩;intro _;refine⟨s.trans A,i,y,rfl,⟨E,λ_=>⟨l,λG=>by rw[decide_eq_true G,Bool.true_and]at f;exact f⟩⟩,λe=>?_,λC=>?_⟩
  ·rw[e]at o;have:=o.symm;rw[Bool.and_eq_true,decide_eq_true_eq,decide_eq_true_eq]at this;exact this
  ·rw[o];rcases Nat.lt_or_ge i d.length with c|c
   ·rw[decide_eq_true c,Bool.true_and]at f⊢;by_cases h:(gt d i).nm=n
    ·rw[decide_eq_true h,Lm c h]
    ·rw[decide_eq_false h,V9 λj k e=>?_];rcases Nat.lt_trichotomy j i with a|a|a
     ·have:=l j a;rw[e,YC]at this;cases this
     ·subst a;exact h e
     ·have p:=C i j a k;rw[e]at p;rw[f]at p;cases p
   ·rw[decide_eq_false (Nat.not_lt.2 c),Bool.false_and,V9 λj k e=>?_];have:=l j (by omega);rw[e,YC]at this;cases this
theorem Pe{d:List kF}{T:List jA}{n:jA}(G:m4 w v d)(aa:sV d)(hL:d.length<=1048576)(o:iM w U T)(hT:T.length<=1048576):
  nA prog 17 #[v,U,sv n] w λE a=>bA w a/\ ∃u,E= .tuple #[u,iv (tK d T n)]/\Ow w.heap.size KA a u (JA (N6 d T n)):=by
 apply Lg;unfold J0;have m:∀{l:Int} {a:World},tK d T n=l-> ¬l=0->bA w a->bA w a/\ ∃u,Value.tuple #[.slice none 0 0,iv l]= .tuple #[u,iv (tK d T n)]/\Ow w.heap.size KA a u (JA (N6 d T n)):=λ{l a} F V D=>by
  refine⟨D,_,by rw[F],?_⟩;unfold N6;rw[F,if_neg V];exact Ow.nil _ _ _
 refine aA ((AN G (by omega)).mono ?_);rintro E w1 ⟨O,ac,af,rfl,R⟩;refine lD ?_;refine mD ?_;refine gA (jK (G.ext O) aa) λw2 g=>?_;have g:=O.trans g;refine TA ?_;cases b:vC d
 ·refine iA rfl ?_;exact m (by unfold tK;rw[if_pos b]) (by decide) g
 refine cA rfl ?_;refine gA (OC (p:=λt=>decide (300<t.length)) (o.ext g) λz _ a _=>aA (by
  show nA prog 41 #[sv z] a _;apply Da;unfold uU;refine HD (jB ⟨?_,bA.refl _⟩)
  congr 1
  exact decide_eq_decide.2 (by omega))) λw3 h=>?_
 have h:=g.trans h;cases f:T.any λt=>decide (300<t.length)
 rotate_left
 ·refine iA rfl ?_;exact m (by unfold tK;rw[if_neg (by rw[b];decide),if_pos f]) (by decide) h
 refine cA rfl ?_;have K:∀t∈T,t.length<=300:=λt ht=>by
  have:=List.any_eq_false.1 f t ht;simpa using this
 refine gA (OC (p:=λt=>!AC t) (o.ext h) λz D a _=>aA (by
  show nA prog 42 #[sv z] a _;apply Ea;unfold vU;exact gA (PG (by have:=K z D;omega) a) λae hw=>TA ⟨by first|trivial|rfl,hw⟩)) λw4 c=>?_
 have c:=h.trans c;cases q:T.any λt=>!AC t
 rotate_left
 ·refine iA rfl ?_;exact m (by unfold tK;rw[if_neg (by rw[b];decide),if_neg (by rw[f];decide),if_pos q]) (by decide) c
 refine cA rfl ?_;refine TA ?_;have L:=R.2.2 (lI b);cases r:zR d n
 ·rw[L,r];refine iA rfl ?_;exact m (by unfold tK;rw[if_neg (by rw[b];decide),if_neg (by rw[f];decide),if_neg (by rw[q];decide),if_pos r]) (by decide) c
 rw[L,r];refine cA rfl ?_;have I:tK d T n=0:=by unfold tK;rw[if_neg (by rw[b];decide),if_neg (by rw[f];decide),if_neg (by rw[q];decide),if_neg (by rw[r];decide)]
 refine ZA (o.ext c) ?_;refine MB (λs:Value×Nat=>[s.1,iv (s.2:Int)]) (λs a=>s.2<=T.length/\bA w a/\Ow w.heap.size KA a s.1 (JA (P9 T n s.2))) (λs=>T.length-s.2) (.slice none 0 0,0) rfl ⟨Nat.zero_le _,c,Ow.nil _ _ _⟩ ?_;rintro⟨u,k⟩ N Kn ⟨J,j,x⟩ H;have J:k<=T.length:=J;have x:Ow w.heap.size KA N u (JA (P9 T n k)):=x;intro _;simp only[gx];refine jB ?_;refine dA (λQ=>?_) (λQ=>?_)
 ·refine mH (o.ext j) rfl (by omega) ?_;have Y:gt T k∈T:=by rw[LA (show k<T.length by omega)];exact List.getElem_mem _
  have W:AC (gt T k)=true:=by have:=Xp q (i:=k) (by omega);simpa using this
  refine aA ((SH (by have:=K _ Y;omega) (PV W) N).mono ?_);rintro E w7 ⟨x7,Z⟩;refine gA (fD (t:=n) Z.sl) λw8 x8=>?_;have A:=x7.trans x8;have C:=x.ext A;have ad:=Jk T n k;have y:=iX T n k;refine dA (λe=>?_) (λe=>?_)
  ·rw[xF]at e;rw[if_pos e]at y;refine nT TH RH rfl C rfl (by rw[SA];omega) (by rw[SA];omega) (by have:=(j.trans A).size;omega) λM ab B X=>?_;refine qA (by omega) ?_;have B:Ow w.heap.size KA ab M (JA (P9 T n (k+1))):=by rw[y];simpa[JA]using B
   exact H (M,k+1) _ ⟨by show k+1<=T.length;omega,(j.trans A).grown X λP S=>(C.blk P S).1,B⟩ (by show T.length-(k+1)<T.length-k;omega)
  ·rw[xF]at e;rw[if_neg e]at y;refine qA (by omega) ?_;exact H (u,k+1) _ ⟨by show k+1<=T.length;omega,j.trans A,by show Ow _ _ _ _ (JA (P9 T n (k+1)));rw[y];exact C⟩ (by show T.length-(k+1)<T.length-k;omega)
 ·have:k=T.length:=by omega
  subst this;refine⟨j,u,by rw[I],?_⟩;unfold N6;rw[if_pos I];exact x
theorem bR(a:r.good)(c:r.size<=40):PF r.body=0:=by
 have b:=oD r;have e:=OO a;unfold PF;rw[if_neg (by omega),if_pos (by unfold pK;rw[e];rfl)];rw[show(rd r.body).1=r by rw[e],if_neg (by omega)]
theorem Jq{a:List (Nat×Value)}(L:List jA)(c:Instr.fill (λi=>some (i*1,1)) ((Array.range (x*1)).map (λi=>(Value.cells v)[i%(Value.cells v).size]!)) a=some (yA L).toArray)
  (h:∀b w',b=w.heap.size->bA w w'->GA u w' b (yA L)->t (.slice (some ⟨b,0,none⟩) x x) w'):xB u (Value.cells v) 1 x a w t:=
 ⟨_,c,h _ _ rfl (bA.alloc w _) (GA.new w (yA L).toArray u)⟩
abbrev SO(w:World)(v:Value)(N:List RN):Prop:=rB 2 w v N.length (OH N)
theorem vj(a:x<T.length)(o:Nat):f4 (T.drop x) (o+1)=f4 (T.drop (x+1)) (o+Gs T[x].1):=by
 rw[List.drop_eq_getElem_cons a];rfl
def nj(N:List RN)(i:Nat):Int:=match f4 (N.drop i) 1 with
 |some R=>((N.length-R.length:Nat):Int)
 |none=>-1
theorem Jm:∀(N:List RN) (o:Nat) (R:List RN),f4 N o=some R->R.length<=N.length
 |N,0,R,h=>by rw[o2]at h;cases h;exact Nat.le_refl _
 |[],_+1,_,h=>by cases h
 |q::N,o+1,R,h=>by
  rw[uj]at h;have:=Jm N _ R h;rw[List.length_cons];omega
theorem zf(h:T.all cP=true)(c:0<T.length):decide (nj T 0=(T.length:Int))=MW T:=by
 unfold MW nj;rw[h,Bool.true_and,List.drop_zero];cases a:f4 T 1 with
 |none=>
  refine decide_eq_decide.2 ⟨λe=>?_,λe=>by cases e⟩;have e:(-1:Int)=(T.length:Int):=e;omega
 |some R=>
  have b:=Jm T 1 R a;refine decide_eq_decide.2 ⟨λe=>?_,λe=>?_⟩
  ·have e:((T.length-R.length:Nat):Int)=(T.length:Int):=e;have:R=[]:=List.length_eq_zero_iff.1 (by omega);rw[this]
  ·cases e;show((T.length-0:Nat):Int)=_;rw[Nat.sub_zero]
theorem un{q:RN}(h:cP q=true):∃k s:Nat,q=((k:Int),(s:Int))/\k<=6/\s<=5:=by
 obtain⟨⟨c,e⟩,⟨d,f⟩,_⟩:=bX.1 h;obtain⟨a,b⟩:=q;have c:0<=a:=c;have e:a<=6:=e;have d:0<=b:=d;have f:b<=5:=f;refine⟨a.toNat,b.toNat,?_,by omega,by omega⟩;rw[Int.toNat_of_nonneg c,Int.toNat_of_nonneg d]
theorem oC.raw(h:oC w v r):SO w v (cB r):=by
 show rB 2 w v (cB r).length (OH (cB r));rw[ZC,uD];exact h
theorem f6{i:Nat}(l:SO w v T)(t:T.all cP=true)(r:i<=T.length)(D:T.length<=1099511627776):CB prog 373 #[v,iv i] w (iv (nj T i)):=by
 apply IV;unfold eN;refine MB (λs:Nat×Nat=>[iv (s.1:Int),iv (s.2:Int)]) (λs x=>bA w x/\s.1<=T.length/\s.2<=1+2*s.1/\f4 (T.drop s.1) s.2=f4 (T.drop i) 1) (λs=>T.length-s.1) (i,1) rfl ⟨bA.refl _,r,by show 1<=1+2*i;omega,rfl⟩ ?_;rintro⟨j,o⟩ y A ⟨c,g,h,a⟩ p;have g:j<=T.length:=g;have h:o<=1+2*j:=h;have a:f4 (T.drop j) o=f4 (T.drop i) 1:=a;intro _;simp only[gx];refine jB (dA (λm=>?_) (λm=>?_))
 ·obtain⟨b,rfl⟩:∃b,o=b+1:=⟨o-1,by omega⟩
  refine VB (rB.ext l c) ?_;refine LF (dA (λn=>?_) (λn=>?_))
  ·obtain rfl:j=T.length:=by omega
   rw[List.drop_length]at a;refine⟨?_,c⟩;unfold nj;rw[<-a];rfl
  ·have d:j<T.length:=by omega
   have q:=tG d;obtain⟨k,s,u,C,_⟩:=un (List.all_eq_true.1 t _ (List.getElem_mem d));refine HB (by omega) ?_;refine eB (f:=0) (rB.ext l c) rfl d (by decide) q.1 ?_;have e:T[j].1=(k:Int):=by rw[u]
   rw[e];refine gA (HQ k y) λE z=>?_;have B:YD k<=2:=by unfold YD;split;omega;split<;>omega
   refine qA (by omega) (qA (by omega) ?_);rw[show((b+1:Nat):Int)-1+(YD k:Int)=((b+YD k:Nat):Int)by omega];refine p (j+1,b+YD k) _ ⟨c.trans z,by show j+1<=T.length;omega,by show b+YD k<=1+2*(j+1);omega,?_⟩ (by show T.length-(j+1)<T.length-j;omega);show f4 (T.drop (j+1)) (b+YD k)=_;rw[<-a,vj d,e,zm]
 ·obtain rfl:o=0:=by omega
  rw[o2]at a;refine⟨?_,c⟩;unfold nj;rw[<-a];show iv j=iv ((T.length-(T.drop j).length:Nat):Int);rw[List.length_drop,show T.length-(T.length-j)=j by omega]
theorem H9(B:SO w v T)(z:T.length<=1099511627776):CB prog 217 #[v] w (.bool (MW T)):=by
 apply sb;unfold VU;refine MB (λi:Nat=>[iv i]) (λi C=>i<=T.length/\bA w C/\(T.take i).all cP=true) (λi=>T.length-i) 0 rfl ⟨Nat.zero_le _,bA.refl _,by simp⟩ ?_;rintro i o F ⟨G,m,j⟩ y;have c:=rB.ext B m;intro _;simp only[gx];refine VB c ?_;refine jB (dA (λu=>?_) (λu=>?_))
 ·have b:i<T.length:=by omega
  have k:=tG b;refine sB (!cP T[i]) o (λJ a=>?_) (λH r=>?_)
  ·refine eB (f:=0) c rfl b (by decide) k.1 ?_;refine gA (ok_spec_l01In _ _ _ o) λD h=>?_;refine TA ?_;have p:=rB.ext c h;by_cases d:0<=T[i].1/\T[i].1<=6
   ·rw[decide_eq_true d];refine cA rfl ?_;refine eB (f:=1) p rfl b (by decide) k.2 ?_;refine gA (ok_spec_l01In _ _ _ D) λI n=>?_;have q:=rB.ext p n;refine TA ?_;by_cases e:0<=T[i].2/\T[i].2<=5
    ·rw[decide_eq_true e];refine cA rfl ?_;refine eB (f:=0) q rfl b (by decide) k.1 ?_;refine ZF (dA (λg=>?_) (λg=>?_))
     ·refine eB (f:=1) q rfl b (by decide) k.2 ?_;refine ZF ?_;have:(!cP T[i])=decide (¬T[i].2=0):=by
       unfold cP;rw[decide_eq_true d,decide_eq_true e,decide_eq_false g,Bool.true_and,Bool.true_and,Bool.false_or,<-decide_not]
      rw[this]at a;exact a _ (h.trans n)
     ·have g:T[i].1=0:=Classical.not_not.1 g;have:(!cP T[i])=false:=by
       unfold cP;rw[decide_eq_true d,decide_eq_true e,decide_eq_true g];rfl
      rw[this]at a;exact a _ (h.trans n)
    ·rw[decide_eq_false e];refine iA rfl ?_;have:(!cP T[i])=true:=by
      unfold cP;rw[decide_eq_false e,Bool.false_and,Bool.and_false];rfl
     rw[this]at a;exact a _ (h.trans n)
   ·rw[decide_eq_false d];refine iA rfl ?_;have:(!cP T[i])=true:=by
     unfold cP;rw[decide_eq_false d,Bool.false_and];rfl
    rw[this]at a;exact a _ h
  ·intro _;cases l:cP T[i]with
   |false=>
    refine iA (by first|rfl|exact congrArg not l) ?_;refine⟨?_,m.trans r⟩;have:MW T=false:=by
     unfold MW;have:T.all cP=false:=by
      rw[List.all_eq_false];exact⟨T[i],List.getElem_mem b,by rw[l];decide⟩
     rw[this,Bool.false_and]
    rw[this]
   |true=>
    refine cA (by first|rfl|exact congrArg not l) ?_;refine qA (by omega) ?_;refine y (i+1) _ ⟨by omega,m.trans r,?_⟩ (by omega);rw[List.take_succ_eq_append_getElem b,List.all_append,j];simp[l]
 ·obtain rfl:i=T.length:=by omega
  rw[List.take_length]at j;refine sB (MW T) o (λJ a=>?_) (λK E=>λ_=>⟨rfl,m.trans E⟩);refine VB c ?_;refine jB (dA (λx=>?_) (λx=>?_))
  ·have A:0<T.length:=by omega
   refine gA (f6 (i:=0) c j (Nat.zero_le _) z) λL s=>?_;refine VB (rB.ext c s) ?_;refine BA ?_;rw[zf j A];exact a _ s
  ·have t:T=[]:=List.length_eq_zero_iff.1 (by omega);subst t;exact a _ (bA.refl _)
theorem XY(b:SO w v T)(c:T.length<=1099511627776):CB prog 109 #[v] w (.bool (Jj T)):=by
 apply Qg;unfold O0;refine sB (Jj T) w (λJ a=>?_) (λf d=>λ_=>⟨rfl,d⟩);refine VB b ?_;unfold Jj at a;refine LF (dA (λh=>?_) (λh=>?_))
 ·rw[decide_eq_true (by omega),Bool.true_and]at a;refine gA (H9 b c) λg e=>a _ e
 ·rw[decide_eq_false (by omega),Bool.false_and]at a;exact a _ (bA.refl _)
theorem dB.ne_src(h:dB x n H a i f y)(d:Src u w v C a)(j:H≠u):i.ownBlock≠some C:=by
 intro e;obtain⟨k,c⟩:=h.ty e;obtain⟨_,_,_,_,b,_⟩:=d;unfold GA at b;rw[c]at b;injection b with b
 injection b with _ g _
 exact j g
theorem dB.src{b:World}(h:dB x n H a i f y)(d:Src u w v C a)(k:H≠u)(j:Ch (λc=>c=C) a b):dB x n H b i f y:=
 h.ch j λc g e=>h.ne_src d k (by rw[g,e])
def Wl(y:Nat)(a:Fm):Fm:=if y=0 then .box a else .dia a
theorem Xl(b:x<2)(a:Fm):(Wl x a).cells=nd (5+x) 0++a.cells:=by
 have:x=0∨x=1:=by omega
 rcases this with rfl|rfl<;>rfl
theorem F6(y:Nat)(a:Fm):(Wl y a).size=1+a.size:=by unfold Wl;split<;>rfl
theorem Wo(y:Nat)(h:r.good):(Wl y r).good:=by unfold Wl;split<;>exact h
def Xk(z:Nat)(a b:Fm):Fm:=if z=0 then .and a b else if z=1 then .or a b else .imp a b
theorem Yk(c:x<3)(a b:Fm):(Xk x a b).cells=nd (2+x) 0++a.cells++b.cells:=by
 have:x=0∨x=1∨x=2:=by omega
 rcases this with rfl|rfl|rfl<;>rfl
theorem o4(z:Nat)(a b:Fm):(Xk z a b).size=1+a.size+b.size:=by unfold Xk;split;rfl;split<;>rfl
theorem Vn(z:Nat)(h:r.good)(k:P.good):(Xk z r P).good:=by unfold Xk;split;exact⟨h,k⟩;split<;>exact⟨h,k⟩
theorem LE(U:NA≠u)(b:qf w v m){k:Nat}(hk:1<=k/\k<=6)(X:Bool):∀(n:Nat) {d:World},Src u w v x d->1<=n->n<=1000->
  Yu prog 45 #[.pointer (some ⟨x,0,none⟩),iv n,iv k,.bool X] u w v x d λr e=>∃s:Fm,s.good/\s.size<=n/\iL d.heap.size e r s:=by
 intro n
 induction n using Nat.strongRecOn with
 |_ n o=>
 intro d L T bh;apply Ya;unfold OU;refine WB (λE e=>(∃t,E=[.bool t]/\(t=false->3<=n))/\Src u w v x e/\Ch (λc=>c=x) d e) (λad g=>?_) ?_
 ·refine LF (dA (λA=>?_) (λA=>?_))
  ·exact g _ _ ⟨⟨true,rfl,λA=>by cases A⟩,L,(bA.refl d).ch⟩
  ·refine aA ((uA b L 9).mono ?_);rintro _ w3 ⟨⟨Z,rfl,_,_⟩,ap,bd⟩;refine BA ?_;exact g _ _ ⟨⟨_,rfl,λ_=>by omega⟩,ap,bd⟩
 rintro _ w2 ⟨⟨t,rfl,ht⟩,D,B⟩;intro _;cases t with
 |true=>
  refine iA rfl ?_;refine aA ((uA b D 8).mono ?_);rintro _ w4 ⟨⟨Z,rfl,_,_⟩,P,be⟩;have C:=tA B be;refine BA (dA (λ_=>?_) (λ_=>?_))
  ·refine aA ((mE w4).mono ?_);rintro p w5 ⟨x5,h5⟩;exact⟨⟨.fls,trivial,T,dB.mono h5 C.size⟩,P.later x5,oB C x5⟩
  ·refine aA ((uA b P k).mono ?_);rintro _ w6 ⟨⟨y,rfl,j,_⟩,aq,bg⟩;have j:=j (by omega);refine aA ((TG y w6).mono ?_);rintro p w7 ⟨x7,h7⟩;have J:=tA C bg;exact⟨⟨.var y,show y<6 by omega,T,dB.mono h7 J.size⟩,aq.later x7,oB J x7⟩
 |false=>
  refine cA rfl ?_;have h3:=ht rfl;refine WB (λE e=>(∃t,E=[.bool t])/\Src u w v x e/\Ch (λc=>c=x) d e) (λad g=>?_) ?_
  ·cases X with
   |true=>
    refine iA rfl ?_;refine aA ((uA b D 3).mono ?_);rintro _ bj ⟨⟨Z,rfl,_,_⟩,aj,aw⟩;refine BA ?_;exact g _ _ ⟨⟨_,rfl⟩,aj,tA B aw⟩
   |false=>exact cA rfl (g _ _ ⟨⟨_,rfl⟩,D,B⟩)
  rintro _ w9 ⟨⟨t,rfl⟩,Q,K⟩;intro _;cases t with
  |true=>
   refine iA rfl ?_;refine aA ((uA b Q 2).mono ?_);rintro _ bk ⟨⟨y,rfl,j,_⟩,ak,ax⟩;have j:=j (by omega);have af:=tA K ax;refine qA (by omega) (HB (by omega) ?_);rw[show(5:Int)+(y:Int)=((5+y:Nat):Int)by omega,show(n:Int)-1=((n-1:Nat):Int)by omega];refine aA ((o (n-1) (by omega) ak (by omega) (by omega)).mono ?_);rintro p bl ⟨⟨a,f,Y,h⟩,al,ay⟩;have F:=tA af ay;refine aA ((EN (c:=Wl y a) (Xl (by omega) a) (F6 y a) h.sl (by rw[F6];omega)).mono ?_);rintro r bm ⟨aa,i⟩;exact⟨⟨Wl y a,Wo y f,by rw[F6];omega,dB.mono i F.size⟩,al.later aa,oB F aa⟩
  |false=>
   refine cA rfl ?_;refine aA ((uA b Q 6).mono ?_);rintro _ bn ⟨⟨y,rfl,_,_⟩,M,az⟩;have G:=tA K az;refine BA (dA (λ_=>?_) (λ_=>?_))
   ·refine HB (by omega) ?_;rw[show(n:Int)-2=((n-2:Nat):Int)by omega];refine aA ((o (n-2) (by omega) M (by omega) (by omega)).mono ?_);rintro p bo ⟨⟨a,f,Y,h⟩,am,ba⟩;have H:=tA G ba;refine aA ((mJ h.sl (by omega)).mono ?_);rintro r bp ⟨ab,i⟩;exact⟨⟨.imp a .fls,⟨f,trivial⟩,by show 1+a.size+1<=n;omega,dB.mono i H.size⟩,am.later ab,oB H ab⟩
   ·refine HB (by omega) ?_;refine aA ((uA b M _).mono ?_);rintro _ bq ⟨⟨z,rfl,W,_⟩,an,bb⟩;have W:=W (by omega);have ag:=tA G bb;refine qA (by omega) ?_;rw[show(1:Int)+(z:Int)=((1+z:Nat):Int)by omega];refine aA ((o (1+z) (by omega) an (by omega) (by omega)).mono ?_);rintro p br ⟨⟨a,f,Y,h⟩,N,bc⟩;have ah:=tA ag bc;refine aA ((uA b N 3).mono ?_);rintro _ bt ⟨⟨q,rfl,V,_⟩,O,R⟩;have V:=V (by omega);have ai:=tA ah R;have ar:=dB.src h N U R;refine qA (by omega) (HB (by omega) (HB (by omega) ?_));rw[show(2:Int)+(q:Int)=((2+q:Nat):Int)by omega,show(n:Int)-1-((1+z:Nat):Int)=((n-1-(1+z):Nat):Int)by omega];refine aA ((o (n-1-(1+z)) (by omega) O (by omega) (by omega)).mono ?_);rintro u2 bu ⟨⟨l,ae,bi,au⟩,ao,S⟩;have I:=tA ai S;have av:=dB.src ar O U S;refine aA ((jC (c:=Xk q a l) (Yk (by omega) a l) (o4 q a l) av.sl au.sl (by rw[o4];omega)).mono ?_);rintro r bv ⟨ac,i⟩;exact⟨⟨Xk q a l,Vn q f ae,by rw[o4];omega,dB.mono i I.size⟩,ao.later ac,oB I ac⟩
theorem xt(t:Ow x u w v y)(B:o=(n:Int))(F:n<y.length)(A:vA i=true)
  (h:∀a,Ow x u a v (y.set n i)->Ch (λc=>v.ownBlock=some c) w a->l a):wA 1 v (.int b o) λC=>KC w C i l:=by
 subst B;obtain⟨_,⟨_,D⟩|⟨g,e,d,rfl,r,s,j,k,f,m⟩⟩:=t
 ·omega
 have p:GA u w g d.toList:=by unfold GA;rw[Array.toArray_toList];exact s
 refine⟨_,_,_,_,_,rfl,rfl,by omega,by omega,?_⟩;rw[Int.toNat_natCast,XD,Nat.zero_add,Nat.mul_one];have E:d.toList.length=e:=by simpa using f
 refine QX p (by omega) A λa q z=>?_;refine h a ⟨by rw[Nat.mul_one],.inr ⟨g,e,(d.toList.set n i).toArray,by rw[List.length_set],r,q,by rw[List.length_set];exact j,k,by simpa using f,?_⟩⟩ (z.ch (S:=λc=>_=some c) rfl);rw[List.length_set,List.take_set,m]
theorem oC.rawS(h:rB 2 w v r.size r.cells):SO w v (cB r):=by
 unfold SO;rw[ZC,uD];exact h
theorem Ue{M:List RN}(d:SO w i T)(k:SO w U M):CB prog 453 #[i,U] w (.bool (decide (T=M))):=by
 have A:=d.len;apply Ti;unfold U6;refine gA (v:=.bool (decide (T=M))) ?_ λB u=>⟨rfl,u⟩
 apply wH;unfold iE;refine VB d (VB k (ZF (dA (λh=>?_) (λh=>?_))))
 ·rw[decide_eq_false (show¬T=M fromλe=>h (by rw[e]))];exact⟨by first|trivial|rfl,bA.refl _⟩
 have z:T.length=M.length:=by omega
 refine VB d ?_;refine MB (λa:Nat=>[iv a]) (λa t=>a<=T.length/\bA w t/\ ∀j,j<a->T[j]?=M[j]?) (λa=>T.length-a) 0 rfl ⟨Nat.zero_le _,bA.refl _,λj b=>absurd b (Nat.not_lt_zero j)⟩ ?_;rintro a C x ⟨y,c,l⟩ r;intro _;simp only[gx];refine jB (dA (λs=>?_) (λs=>?_))
 ·have f:a<T.length:=by omega
  have g:a<M.length:=by omega
  obtain⟨n,o⟩:=tG f;obtain⟨p,q⟩:=tG g;refine b9 (cs:=#[iv T[a].1,iv T[a].2]) (rB.ext d c) rfl f rfl (λj b=>by rcases j with _|_|j;exact n;exact o;omega) ?_;refine b9 (cs:=#[iv M[a].1,iv M[a].2]) (rB.ext k c) rfl g rfl (λj b=>by rcases j with _|_|j;exact p;exact q;omega) ?_;refine uh (t0:=2) (t1:=2) (by kernel_rfl) (by kernel_rfl) (by kernel_rfl) (by kernel_rfl) (by kernel_rfl) (by kernel_rfl) ?_;intro D m;refine dA (λh=>?_) (λh=>?_)
  ·rw[decide_eq_false (show¬T=M fromλe=>h (by subst e;exact⟨rfl,rfl⟩))];exact⟨by first|trivial|rfl,c.trans m⟩
  ·refine qA (by omega) ?_;refine r (a+1) _ ⟨f,c.trans m,λj b=>?_⟩ (by omega);by_cases e:j=a
   ·subst e;have h:=Classical.not_not.1 h;rw[List.getElem?_eq_getElem f,List.getElem?_eq_getElem g]
    congr 1
    exact Prod.ext h.1 h.2
   ·exact l j (by omega)
 ·have:T=M:=List.ext_getElem? λj=>by
   by_cases b:j<a
   ·exact l j b
   ·rw[List.getElem?_eq_none (by omega),List.getElem?_eq_none (by omega)]
  rw[decide_eq_true this];exact⟨by first|trivial|rfl,c⟩
inductive Md:jA->jA->Prop
 |nil:Md [] []
 |cons (c:UInt8) {s s':jA}:Md s s'->Md (c::s) (c::s')
 |seg {a:Fm} (ha:a.good) {s s':jA}:Md s s'->Md (40::112::41::s) (40::(a.body++41::s'))
theorem Md.refl:∀s:jA,Md s s
 |[]=>.nil
 |c::s=>.cons c (Md.refl s)
theorem Md.app:∀(a:jA) {s b:jA},Md s b->Md (a++s) (a++b)
 |[],_,_,h=>h
 |c::a,_,_,h=>.cons c (Md.app a h)
theorem yk{g:jA->jA}:∀(l:List (jA×jA)) (p:jA),(∀x∈l,∃a:Fm,a.good/\g x.1=a.body)->Md (SB (λ_=>[112]) (p,l)) (SB g (p,l))
 |[],p,_=>by rw[nN,nN];exact Md.refl p
 |(n,b)::l,p,h=>by
  rw[iQ,iQ];obtain⟨a,c,e⟩:=h (n,b) (by simp);refine Md.app p ?_;have e:g n=a.body:=e;rw[e];exact .seg c (yk l b λx d=>h x (by simp[d]))
abbrev Mi(s a:FG):Prop:=s.2=a.2/\Md s.1 a.1
abbrev Ax(x y:Fm×FG):Prop:=Mi x.2 y.2
theorem Mr(h:Md s Y):s.head?=Y.head?:=by cases h<;>rfl
theorem li{a:FG}(h:Mi B a)(c:UInt8):tk c a=tk c B:=by
 unfold tk;rw[h.1,Mr h.2]
theorem ji{a:FG}(h:Mi B a)(b:tk q B=true)(e:q≠40):Mi (nx B) (nx a):=by
 refine⟨rfl,?_⟩;obtain⟨x,f⟩:=B;obtain⟨c,g⟩:=a;have d:Md x c:=h.2
 clear h
 show Md x.tail c.tail;cases d with
 |nil=>exact .nil
 |cons q h=>exact h
 |seg ha h=>
  simp only[tk,List.head?_cons,Bool.and_eq_true,decide_eq_true_eq,Option.some.injEq]at b;exact absurd b.2.symm e
theorem ii{a:FG}(h:Mi B a)(b:q≠40):Mi (ndd q B) (ndd q a):=by
 unfold ndd;rw[li h];split
 ·rename_i c;exact ji h c b
 ·exact⟨rfl,h.2⟩
theorem nk(b:Fm)(s:jA):iB 3 b (s,true)=(.fls,(s,true)):=by
 have a:∀c,tk c (s,true)=false:=λc=>by simp[tk]
 exact OR (Q:=λx=>x=_) (λh=>by rw[a]at h;cases h) (λh=>by rw[a]at h;cases h) (λh=>by rw[a]at h;cases h) (λh=>by rw[a]at h;cases h) (λh=>by rw[a]at h;cases h) (λh=>by rw[a]at h;cases h) (λ_ _ h=>by rw[a]at h;cases h) (λ_ _ _ _ _ _ _=>rfl)
theorem eX(b:Fm)(h:∀c,(c=126∨c=91∨c=60∨c=70∨c=84∨c=40∨ ∃v,v<6/\c=vl v)->s.head?≠some c):iB 3 b (s,false)=(.fls,(s,true)):=by
 have a:∀c,(c=126∨c=91∨c=60∨c=70∨c=84∨c=40∨ ∃v,v<6/\c=vl v)->tk c (s,false)=false:=λc d=>by simp[tk,h c d]
 exact OR (Q:=λx=>x=_) (λh=>by rw[a _ (.inl rfl)]at h;cases h) (λh=>by rw[a _ (.inr (.inl rfl))]at h;cases h) (λh=>by rw[a _ (.inr (.inr (.inl rfl)))]at h;cases h) (λh=>by rw[a _ (.inr (.inr (.inr (.inl rfl))))]at h;cases h) (λh=>by rw[a _ (.inr (.inr (.inr (.inr (.inl rfl)))))]at h;cases h) (λh=>by rw[a _ (.inr (.inr (.inr (.inr (.inr (.inl rfl))))))]at h;cases h) (λv e h=>by rw[a _ (.inr (.inr (.inr (.inr (.inr (.inr ⟨v,e,rfl⟩))))))]at h;cases h) (λ_ _ _ _ _ _ _=>rfl)
theorem Xv:∀(m g:Nat) (d i:Fm) (s h:FG),g<=5->8*s.1.length+fl g<=m->Mi s h->Ax (iB g d s) (iB g i h):=by
 intro m
 induction m with
 |zero=>
  intro g d i s h _ p _;have:1<=fl g:=by unfold fl;split<;>omega
  omega
 |succ m ih=>
  intro g d i s h Q a b;have t:∀(g:Nat) (d:Fm) (s:FG),(iB g d s).2.1.length<=s.1.length:=λg d s=>(FC _ g d s).length_le;rcases g with _|_|_|_|_|_|g
  · --implications
   have a:8*s.1.length+4<=m+1:=a;have n:=ih 1 .fls .fls s h (by decide) (by show _+3<=m;omega) b;rw[Yo d s,Yo i h,li n];split
   ·rename_i j;have u:=t 1 .fls s;have:=pC j;exact ih 0 .fls .fls _ _ (by decide) (by show _+4<=m;omega) (ji n j (by decide))
   ·exact n
  ·have a:8*s.1.length+3<=m+1:=a;have n:=ih 2 .fls .fls s h (by decide) (by show _+2<=m;omega) b;rw[Hr d s,Hr i h];have u:=t 2 .fls s;exact ih 4 _ _ _ _ (by decide) (by show _+1<=m;omega) n
  ·have a:8*s.1.length+2<=m+1:=a;have n:=ih 3 .fls .fls s h (by decide) (by show _+1<=m;omega) b;rw[Ir d s,Ir i h];have u:=t 3 .fls s;exact ih 5 _ _ _ _ (by decide) (by show _+1<=m;omega) n
  ·have a:8*s.1.length+1<=m+1:=a;obtain⟨K,z⟩:=s;obtain⟨P,M⟩:=h;obtain⟨x,b⟩:=b;have x:z=M:=x;have b:Md K P:=b;have a:8*K.length+1<=m+1:=a;subst x;cases z
   rotate_left
   ·rw[nk,nk];exact⟨rfl,b⟩
   cases b with
   |nil=>
    rw[eX d (by simp),eX i (by simp)];exact⟨rfl,.nil⟩
   |seg ha p=>
    rw[(aD _ _).2.2.2.2.2.1,(aD _ _).2.2.2.2.2.1];have L:∀(o:Fm) (H:o.good) (r:jA),iB 0 .fls (o.body++41::r,false)=(o,(41::r,false)):=λo H r=>by
     have:=(pd o H).zero (41::r) (R3 (by decide)) (R3 (by decide)) (R3 (by decide))
     rwa [CE (Nat.zero_le _)]at this
    have y:=L (.var 0) (by show 0<6;decide);have y:=λr=>y r;rw[L _ ha];rw[show∀r:jA,(112::41::r:jA)=(Fm.var 0).body++41::r fromλr=>rfl,y,Oc,Oc];exact⟨rfl,p⟩
   | @cons c l l' p=>
    have a:8*l.length+8<=m:=by rw[List.length_cons]at a;omega
    have k:Mi (l,false) (l',false):=⟨rfl,p⟩
    have O:=ih 3 .fls .fls _ _ (by decide) (by show 8*l.length+1<=m;omega) k;by_cases A:c=126
    ·subst A;rw[(aD _ _).1,(aD _ _).1];exact O
    by_cases B:c=91
    ·subst B;rw[(aD _ _).2.1,(aD _ _).2.1];have:(ndd 93 (l,false)).1.length<=l.length:=aJ 93 (l,false);exact ih 3 .fls .fls _ _ (by decide) (by show _+1<=m;omega) (ii k (by decide))
    by_cases C:c=60
    ·subst C;rw[(aD _ _).2.2.1,(aD _ _).2.2.1];have:(ndd 62 (l,false)).1.length<=l.length:=aJ 62 (l,false);exact ih 3 .fls .fls _ _ (by decide) (by show _+1<=m;omega) (ii k (by decide))
    by_cases D:c=70
    ·subst D;rw[(aD _ _).2.2.2.1,(aD _ _).2.2.2.1];exact k
    by_cases E:c=84
    ·subst E;rw[(aD _ _).2.2.2.2.1,(aD _ _).2.2.2.2.1];exact k
    by_cases F:c=40
    ·subst F;rw[(aD _ _).2.2.2.2.2.1,(aD _ _).2.2.2.2.2.1];have N:=ih 0 .fls .fls _ _ (by decide) (by show 8*l.length+4<=m;omega) k;exact ii N (by decide)
    by_cases G:∃v,v<6/\c=vl v
    ·obtain⟨v,I,rfl⟩:=G;rw[(aD _ _).2.2.2.2.2.2 v I,(aD _ _).2.2.2.2.2.2 v I];exact k
    ·have J:∀f,(f=126∨f=91∨f=60∨f=70∨f=84∨f=40∨ ∃v,v<6/\f=vl v)->c≠f:=λf q e=>by
      subst e;rcases q with e|e|e|e|e|e|e
      ·exact A e
      ·exact B e
      ·exact C e
      ·exact D e
      ·exact E e
      ·exact F e
      ·exact G e
     rw[eX d (λf q=>by simpa using J f q),eX i (λf q=>by simpa using J f q)];exact⟨rfl,.cons c p⟩
  ·have a:8*s.1.length+1<=m+1:=a;rw[pk d s,pk i h,li b];split
   ·rename_i j;have:=pC j;have w:=ih 2 .fls .fls _ _ (by decide) (by show _+2<=m;omega) (ji b j (by decide));have u:=t 2 .fls (nx s);exact ih 4 _ _ _ _ (by decide) (by show _+1<=m;omega) w
   ·exact b
  ·have a:8*s.1.length+1<=m+1:=a;rw[qk d s,qk i h,li b];split
   ·rename_i j;have:=pC j;have w:=ih 3 .fls .fls _ _ (by decide) (by show _+1<=m;omega) (ji b j (by decide));have u:=t 3 .fls (nx s);exact ih 5 _ _ _ _ (by decide) (by show _+1<=m;omega) w
   ·exact b
  ·omega
theorem Gl{g:jA->jA}(d:AC s=true)(h:∀n∈QA (CA s),∃a:Fm,a.good/\g n=a.body):(rd (SB g (CA s))).2.2=false/\(rd (SB g (CA s))).2.1=[]:=by
 unfold AC at d;simp only[Bool.and_eq_true,Bool.not_eq_true',decide_eq_true_eq]at d;obtain⟨-,e,f⟩:=d;have i:Md (SB (λ_=>[112]) (CA s)) (SB g (CA s)):=yk (CA s).2 (CA s).1 λx j=>h x.1 (List.mem_map.2 ⟨x,j,rfl⟩);obtain⟨c,b⟩:=Xv _ 0 .fls .fls (SB (λ_=>[112]) (CA s),false) (SB g (CA s),false) (by decide) (Nat.le_refl _) ⟨rfl,i⟩;have c:(rd (SB (λ_=>[112]) (CA s))).2.2=(rd (SB g (CA s))).2.2:=c;have b:Md (rd (SB (λ_=>[112]) (CA s))).2.1 (rd (SB g (CA s))).2.1:=b;rw[e]at c;rw[f]at b;refine⟨c.symm,?_⟩;generalize(rd (SB g (CA s))).2.1=r at b;cases b;rfl
def XK(L:List kF)(n:jA):jA:=((zu L n).map kF.fm).getD []
theorem T9{d:List kF}(e:Np d)(f:x<d.length)(h:(gt d x).nm=s):XK d s=(gt d x).fm:=by
 unfold XK zu;cases c:d.find? λi=>decide (i.nm=s)with
 |none=>
  have:=List.find?_eq_none.1 c d[x] (List.getElem_mem _);rw[<-LA f]at this;simp[h]at this
 |some i=>
  have b:=List.find?_some c;have k:=List.mem_of_find?_eq_some c;obtain⟨j,g,rfl⟩:=List.getElem_of_mem k;rw[<-LA g]at b⊢;have b:(gt d j).nm=s:=of_decide_eq_true b;have:j=x:=by
   rcases Nat.lt_trichotomy j x with a|a|a
   ·have:=e j x a f;rw[b,h,YC]at this;cases this
   ·exact a
   ·have:=e x j a g;rw[b,h,YC]at this;cases this
  rw[this];rfl
theorem Ws{d:List kF}(h:zR d s=true):∃i,i<d.length/\(gt d i).nm=s:=by
 unfold zR at h;obtain⟨x,c,b⟩:=List.any_eq_true.1 h;obtain⟨i,a,rfl⟩:=List.getElem_of_mem c;exact⟨i,a,by rw[LA a];exact of_decide_eq_true b⟩
theorem Bf{d:List kF}(b:vC d=true)(h:zR d s=true):YK (XK d s)=true:=by
 obtain⟨i,a,c⟩:=Ws h;rw[T9 (lI b) a c];have:=(kE.1 b).2 i a;simp only[sJ,Io,Bool.and_eq_true]at this;exact this.1.1.2
theorem sc(h:YK s=true):(∃a:Fm,a.good/\s=a.body)/\s.length<=200:=by
 unfold YK at h;rw[Bool.and_eq_true,decide_eq_true_eq,decide_eq_true_eq]at h;exact⟨⟨_,ia s,h.2.symm⟩,(n0 h.1).2.1⟩
theorem dB.same(h:dB x n u w v f y)(m:∀c,v.ownBlock=some c->a.heap[c]?=w.heap[c]?):dB x n u a v f y:=by
 obtain⟨b,h|⟨g,e,i,d,k,l,j⟩⟩:=h
 ·exact⟨b,.inl h⟩
 ·exact⟨b,.inr ⟨g,e,i,d,k,by rw[m g (by rw[d];rfl)];exact l,j⟩⟩
def Ee(L:List kF)(t:jA):jA:=SB (XK L) (CA t)
def fE(L:List kF)(t:jA):Bool:=(QA (CA t)).all (zR L)
theorem Im{d:List kF}(c:vC d=true)(e:AC s=true)(a:fE d s=true):pK (Ee d s)=true:=by
 have h:=Gl (g:=XK d) e λn b=>(sc (Bf c (List.all_eq_true.1 a n b))).1;unfold pK Ee;rw[h.1,h.2];rfl
theorem qc{d:List kF}(c:vC d=true)(a:fE d s=true):(Ee d s).length<=202*s.length:=
 Y1 (B:=200) s λn b=>(sc (Bf c (List.all_eq_true.1 a n b))).2
abbrev Js(a:Nat)(w:World)(v:Value)(L:List kF):Prop:=dB 3 a 86 w v L.length (eE L)
theorem iJ{t:jA}(f:t.length<=4194304)(w:World):nA prog 128 #[sv t] w λv c=>bA w c/\iL w.heap.size c v (rd t).1:=by
 apply ie;unfold yY;refine GD (cs:=#[sv t,iv 0,.bool false]) (by simp[Instr.fill,Value.cells]) ?_;refine xC λg k i a d=>?_;refine aA ((QG f (KN.new d)).mono ?_);rintro v l ⟨_,e,b⟩;rw[<-Xh]at b;exact⟨a.thenCh e λh j=>by omega,b.mono a.size⟩
theorem o9{d:List kF}(g:Js x w v d)(f:vC d=true)(r:s.length<=262144)(o:(QA (CA s)).all KD=true):CB prog 55 #[v,sv s] w (.bool (fE d s)):=by
 apply Ja;unfold AU;have hL:=(kE.1 f).1;refine xC λj u y c e=>?_;rw[sA g.cell]at e;refine aA ((SH r o u).mono ?_);rintro A C ⟨a,q⟩;refine gA (OC (p:=λn=>!zR d n) q.sl λn _ t i=>(lQ rfl ?_)) λD k=>?_
 ·show nA prog 126 #[sv n,.pointer (some ⟨j,0,none⟩)] t _;apply G4;unfold xP;refine mA (e.ext (a.trans i)) rfl ?_;refine aA ((AN (g.ext (c.trans (a.trans i))).sl (by omega)).mono ?_);rintro B E ⟨l,z,F,rfl,m⟩;refine lD ?_;refine mD ?_;refine TA ?_;rw[m.2.2 (lI f)];exact⟨by first|trivial|rfl,l⟩
 ·refine TA ?_;refine⟨?_,(c.trans a).trans k⟩
  congr 1
  unfold fE;rw[Bool.eq_iff_iff,Bool.not_eq_true',List.any_eq_false,List.all_eq_true];constructor
  ·intro h n b;have:=h n (xF.2 b);simpa using this
  ·intro h n b;have:=h n (xF.1 b);simp[this]
def Nt(f u:Nat)(v:Value)(L:List kF)(t:Nat->Option Obj)(q:vC L=true):tm prog ND (.func (.func 127) #[] #[.pointer (some ⟨f,0,none⟩)]) (XK L) (λn=>zR L n=true) where
 J:=λS _ w=>GA 24 w f [v]/\Js u w v L/\(∀k,S k↔(k=f∨v.ownBlock=some k))/\ ∀k,v.ownBlock=some k->w.heap[k]?=t k
 below:=λ⟨d,c,b,_⟩ k a=>by
  rcases(b k).1 a with rfl|e
  ·exact d.lt
  ·exact(c.blk k e).2
 keep:=λ⟨d,c,b,i⟩ _ a=>⟨(a f ((b f).2 (.inl rfl))).trans d,c.same λj h=>a j ((b j).2 (.inr h)),b,λk e=>(a k ((b k).2 (.inr e))).trans (i k e)⟩
 no8:=λ⟨d,c,b,_⟩ k a=>by
  rintro⟨x,z,h⟩
  rcases(b k).1 a with rfl|e
  ·have:=d.symm.trans h
   simp only[Option.some.injEq,Obj.cells.injEq]at this
   exact absurd this.2.1 (by decide)
  ·obtain⟨y,r⟩:=c.ty e
   have:=r.symm.trans h
   simp only[Option.some.injEq,Obj.cells.injEq]at this
   exact absurd this.2.1 (by decide)
 call:=λ{S l w n} ⟨d,c,b,i⟩ _ a _=>by
  refine lQ rfl ?_
  show nA prog 127 #[sv n,.pointer (some ⟨f,0,none⟩)] w _
  apply c1;unfold TN
  have hL:=(kE.1 q).1
  refine mA d rfl ?_
  refine aA ((AN c.sl (by omega)).mono ?_)
  rintro B C ⟨g,A,D,rfl,m⟩
  have o:=lI q
  obtain⟨p,s⟩:=m.2.1 ((m.2.2 o).trans a)
  refine lD ?_
  refine mD ?_
  refine mA (d.ext g) rfl ?_
  refine yx (c.ext g).sl rfl p ?_
  exact⟨by rw[T9 o p s],S,⟨d.ext g,c.ext g,b,λk e=>(Go.RowKit.Below.block g k (c.blk k e).2).trans (i k e)⟩,g.ch,λk a=>.inl a⟩
theorem G5{d:List kF}(f:Js x w v d)(l:vC d=true)(E:s.length<=20000)(t:AC s=true)(c:fE d s=true):nA prog 56 #[v,sv s] w λr n=>bA w n/\iL w.heap.size n r (rd (Ee d s)).1:=by
 apply N7;unfold bS;refine xC λg C D a h=>?_;rw[sA f.cell]at h;have j:=qc l c;refine aA ((kK (Nt g x v d (λk=>w.heap[k]?) l) (S0:=λk=>k=g∨v.ownBlock=some k) (by omega) (λB z=>List.all_eq_true.1 c B z) (by unfold Ee at j;omega) ⟨h,f.ext a,λk=>Iff.rfl,λk e=>Go.RowKit.Below.block a k (f.blk k e).2⟩).mono ?_);rintro r o ⟨S,F,⟨-,-,-,u⟩,b,-,p,-⟩;obtain⟨rfl,-⟩:=p (PV t);have i:bA w o:=⟨b.os.trans a.os,b.tape.trans a.tape,b.output.trans a.output,Nat.le_trans a.size b.size,λk c=>by
  by_cases m:v.ownBlock=some k
  ·exact u k m
  ·have y:k<C.heap.size:=by have:=a.size;omega
   rw[b.block k y λe=>e.elim (λe=>by omega) m];exact Go.RowKit.Below.block a k c⟩
 refine lD ?_;refine mD ?_;refine aA ((iJ (by unfold Ee at j;omega) o).mono ?_);rintro r G ⟨q,A⟩;exact⟨i.trans q,A.mono i.size⟩
def eF(w:World)(b:List Value)(a:List Fm):Prop:=b.length=a.length/\ ∀i,i<a.length-> ∃v,b[i]?=some v/\oC w v (a.getD i .fls)
theorem eF.ext(h:eF w y j)(x:bA w a):eF a y j:=⟨h.1,λi d=>by obtain⟨v,b,c⟩:=h.2 i d;exact⟨v,b,c.ext x⟩⟩
theorem RZ(k:Sl w v y)(e:eF w y j):nA prog 57 #[v] w λr b=>bA w b/\r=if j.any (λf=>decide (40<f.size))then .tuple #[.slice none 0 0,iv 3]else .tuple #[v,iv 0]:=by
 apply r1;unfold ZN;have G:=k.len;refine gA (v:=.bool (j.any λf=>decide (40<f.size))) ?_ λD d=>?_
 ·apply MC;unfold PB;refine aA (nA.mono (R:=λr b=>bA w b/\ ∃z:Int,r=iv z/\(decide (0<=z)=j.any λf=>decide (40<f.size))) ?_ ?_)
  ·apply gD;unfold fC;refine XC k ?_;refine MB (λi:Nat=>[iv i]) (λi b=>i<=y.length/\bA w b/\ ∀a,a<i->(j.getD a .fls).size<=40) (λi=>y.length-i) 0 rfl ⟨Nat.zero_le _,bA.refl _,λa g=>by omega⟩ ?_;rintro i p E ⟨F,c,n⟩ s;intro _;simp only[gx];refine jB ?_;refine dA (λh=>?_) (λh=>?_)
   ·have m:i<j.length:=by have:=e.1;omega
    obtain⟨C,A,u⟩:=e.2 i m;refine pP (k.ext c) (by omega) (by omega) λH o=>?_;rw[Int.toNat_natCast,A]at o;refine DD o ?_;refine aA (nA.mono (R:=λr b=>r= .bool (decide (40<(j.getD i .fls).size))/\b=p) ?_ ?_)
    ·show nA prog 130 #[C] p _;apply wX;unfold RL;refine VB (u.ext c) (jB ⟨?_,rfl⟩)
     congr 1
     exact decide_eq_decide.2 (by omega)
    ·rintro r I ⟨rfl,rfl⟩;refine dA (λl=>?_) (λl=>?_)
     ·refine⟨c,_,rfl,?_⟩;rw[List.any_eq_true.2 ⟨j[i],List.getElem_mem _,by
       have:j.getD i .fls=j[i]:=by simp[List.getD_eq_getElem?_getD,m]
       rw[<-this];exact decide_eq_true l⟩]
      simp
     ·refine qA (by omega) ?_;refine s (i+1) _ ⟨by omega,c,λa g=>?_⟩ (by omega);by_cases x:a=i
      ·subst x;omega
      ·exact n a (by omega)
   ·refine⟨c,-1,rfl,?_⟩;rw[show(j.any λf=>decide (40<f.size))=false from by
     rw[List.any_eq_false];intro f t;obtain⟨a,g,rfl⟩:=List.getElem_of_mem t;have:=n a (by have:=e.1;omega);have q:j.getD a .fls=j[a]:=by simp[List.getD_eq_getElem?_getD,g]
     rw[q]at this;simp;omega]
    rfl
  ·rintro r D ⟨d,z,rfl,B⟩;refine LF ?_;rw[B];exact⟨by first|trivial|rfl,d⟩
 ·refine kB (λh=>?_) (λh=>?_)
  ·rw[if_pos h];exact⟨d,rfl⟩
  ·rw[if_neg (by rw[h];decide)];exact⟨d,rfl⟩
theorem Hv(c:Ow x u w v y)(a:v= .slice none 0 0->z (.bool true))(b:z (.bool false)):zg true v (.slice none 0 0) z:=by
 obtain⟨_,h|⟨g,e,f,d,_⟩⟩:=c
 ·obtain⟨rfl,_⟩:=h;exact⟨trivial,rfl,a rfl⟩
 ·subst d;exact⟨trivial,rfl,b⟩
theorem sW{p:jA->Bool}(n:bA w a)(g:iM a v k)(q:∀x∈k,∀c,bA w c->TB prog i [sv x] c λu w''=>u= .bool (p x)/\bA c w''):
  nA prog 113 #[v,i] a λr c=>bA a c/\((r=iv (-1)/\ ∀j,j<k.length->p (gt k j)=false)∨ ∃b:Nat,r=iv b/\b<k.length/\p (gt k b)=true/\ ∀j,j<b->p (gt k j)=false):=by
 apply QC;unfold lC;have t:=g.len;rw[AA]at t;refine ZA g ?_;refine MB (λb:Nat=>[iv b]) (λb c=>b<=k.length/\bA a c/\ ∀j,j<b->p (gt k j)=false) (λb=>k.length-b) 0 rfl ⟨Nat.zero_le _,bA.refl _,λj l=>by omega⟩ ?_;rintro b y z ⟨A,d,f⟩ o;intro _;simp only[gx];refine jB ?_;refine dA (λm=>?_) (λm=>?_)
 ·refine mH (g.ext d) rfl (by omega) ?_;refine(q (gt k b) (by rw[LA (show b<k.length by omega)];exact List.getElem_mem _) y (n.trans d)).mono ?_;rintro u B ⟨rfl,h⟩;refine kB (λe=>?_) (λe=>?_)
  ·exact⟨d.trans h,.inr ⟨b,rfl,by omega,e,f⟩⟩
  ·refine qA (by omega) ?_;refine o (b+1) _ ⟨by omega,d.trans h,λj l=>?_⟩ (by omega);by_cases s:j=b
   ·subst s;exact e
   ·exact f j (by omega)
 ·exact⟨d,.inl ⟨by first|trivial|rfl,λj l=>f j (by omega)⟩⟩
theorem Y5(a:Ow x fA w v (yA k))(hL:k.length<=1099511627776):
  nA prog 266 #[v] w λr d=>bA w d/\Ow w.heap.size fA d r (yA k):=by
 apply QK;unfold FF;refine Hv a (λg=>?_) ?_
 ·refine iA rfl ⟨bA.refl _,?_⟩;have:yA k=[]:=by
   obtain⟨_,h|⟨o,m,n,c,_⟩⟩:=a
   ·exact List.length_eq_zero_iff.1 h.2
   ·rw[g]at c;cases c
  rw[this];exact Ow.nil _ _ _
 ·refine cA rfl ?_;refine PH λu t q e b=>?_;have p:=AA k;refine wo IB EB rfl b (a.ext e).sl (tI k) (by simp only[List.length_nil];omega) (by simp only[List.length_nil];omega) (by omega) λs y l j=>?_;refine⟨e.grown j λf i=>(b.blk f i).1,by simpa using l⟩
theorem j7{p:jA->Bool}(h:∀j,j<k.length->p (gt k j)=false):k.filter (λx=>!p x)=k:=by
 rw[List.filter_eq_self];intro x b;obtain⟨j,a,rfl⟩:=List.getElem_of_mem b;rw[<-LA a,h j a];rfl
theorem SJ{L:List jA}{p:jA->Bool}{w0:World}(z:bA w0 w)(E:Ow w0.heap.size fA w v (yA L))(hL:L.length<=1099511627776)(P:∀x∈L,∀c,bA w0 c->TB prog i [sv x] c λX w''=>X= .bool (p x)/\bA c w''):
  nA prog 169 #[v,i] w λW c=>bA w0 c/\Ow w0.heap.size fA c W (yA (L.filter λx=>!p x)):=by
 apply KH;unfold pE;refine aA ((sW z E.sl P).mono ?_);rintro W w1 ⟨t,⟨rfl,D⟩|⟨b,rfl,ad,af,D⟩⟩
 ·refine BA (iA (by decide) ⟨z.trans t,?_⟩);rw[j7 D];exact E.ext t
 refine BA (cA (by simp) ?_);refine qA (by omega) ?_;have F:=E.ext t;have Y:=z.trans t;obtain⟨J,ai,r,C,aj⟩:=F.open (by intro y;have:=AA L;rw[y]at this;simp at this;omega);rw[AA]at r C;have R:v.ownBlock=some J:=by rw[r];rfl
 have T:=(F.blk J R).1;have Q:∀j,L.take (j+1)=L.take j++(if j<L.length then[gt L j]else[]):=λj=>by
  split
  ·rename_i h;rw[List.take_succ_eq_append_getElem h,LA h]
  ·rename_i h;rw[List.append_nil,List.take_of_length_le (by omega),List.take_of_length_le (by omega)]
 refine MB (λs:Nat×Nat=>[iv (s.1:Int),iv (s.2:Int)]) (λs c=>s.1<s.2/\s.2<=L.length/\ ∃M,ED w0.heap.size fA sv v w1 c M/\M.length=L.length/\M.take s.1=(L.take s.2).filter (λx=>!p x)/\ ∀j,s.2<=j->gt M j=gt L j) (λs=>L.length-s.2) (b,b+1) rfl
  ⟨by show b<b+1;omega,by show b+1<=_;omega,L,ED.refl F,rfl,?_,λ_ _=>rfl⟩ ?_
 ·show L.take b=(L.take (b+1)).filter λx=>!p x;rw[Q,if_pos ad,List.filter_append,List.filter_cons,af];have:(L.take b).filter (λx=>!p x)=L.take b:=j7 λj m=>by
   rw[List.length_take]at m;rw[Vs (by omega)];exact D j (by omega)
  rw[this];simp
 rintro⟨a,j⟩ H Kn ⟨U,m,M,q,B,d,f⟩ O;have U:a<j:=U;have m:j<=L.length:=m;have d:M.take a=(L.take j).filter (λx=>!p x):=d;have f:∀k,j<=k->gt M k=gt L k:=f;have I:bA w0 H:=Y.thenCh q.ch λu e=>by rw[R]at e;cases e;exact T
 intro _;simp only[gx];have ae:∀{K:Value->Prop},K (iv (L.length:Nat))->lA v K:=λh=>by rw[r];exact VY h
 refine ae ?_;refine jB ?_;refine dA (λh3=>?_) (λh3=>?_)
 ·have n:j<L.length:=by omega
  have ag:iM H v M:=q.ow.sl;refine mH ag rfl (by omega) ?_;rw[f j (Nat.le_refl _)];refine(P (gt L j) (by rw[LA n];exact List.getElem_mem _) H I).mono ?_;rintro X w4 ⟨rfl,x4⟩;have G:=q.ext x4;refine TA ?_;have l:(L.take (j+1)).filter (λx=>!p x)=(L.take j).filter (λx=>!p x)++if p (gt L j)then[]else[gt L j]:=by
   rw[Q,if_pos n,List.filter_append,List.filter_cons];cases p (gt L j)<;>simp
  refine kB (λA=>?_) (λA=>?_)
  ·rw[show p (gt L j)=false by simpa using A]at l;refine Aj G.ow (by omega) (by rw[List.length_map];omega) λu ah e _ _ hc ac o=>?_;refine rt (hc.trans (List.getElem?_eq_getElem (by rw[List.length_map];omega))) ac rfl ?_;have o:=o (sv (gt L j));rw[Int.toNat_natCast,<-List.map_set]at o;refine qA (by omega) ?_;refine qA (by omega) ?_;refine O (a+1,j+1) _ ⟨by show a+1<j+1;omega,n,M.set a (gt L j),⟨o,G.ch.trans ((PI.setCell w4 u ah _).ch (S:=λZ=>v.ownBlock=some Z) e) λ_ y=>.inl y⟩,by rw[List.length_set];exact B,?_,λk g=>?_⟩ (by show L.length-(j+1)<L.length-j;omega)
   ·show(M.set a (gt L j)).take (a+1)=(L.take (j+1)).filter λx=>!p x;rw[l,List.take_succ_eq_append_getElem (by rw[List.length_set];omega),List.getElem_set_self,List.take_set_of_le (Nat.le_refl _),d];rfl
   ·have g:j+1<=k:=g;rw[oh _ (by omega),if_neg (by omega)];exact f k (by omega)
  ·rw[show p (gt L j)=true by simpa using A]at l;refine qA (by omega) ?_;refine O (a,j+1) _ ⟨by show a<j+1;omega,n,M,G,B,?_,λk g=>f k (by have g:j+1<=k:=g;omega)⟩ (by show L.length-(j+1)<L.length-j;omega);show M.take a=_;rw[l,d];simp
 ·have ab:j=L.length:=by omega
  subst ab;rw[List.take_length]at d;have V:=q.ow;rw[r]at V⊢;refine xh (k:=a) (by omega) C ?_;refine Nw IB EB rfl V (by rw[List.length_map];exact B) (by omega) λw8 N aa=>?_;refine wh (k:=a) (by omega) C ?_;rw[show(List.map sv M).take a=yA (M.take a)from L6 M a,d]at N;exact⟨I.thenCh aa λu e=>by rw[e];exact T,N⟩
def Fm.w2(a:Fm):Nat:=2^a.wt
theorem Fm.w2_ge(a:Fm):2<=a.w2:=by
 have:=Nat.pow_le_pow_right (n:=2) (by omega) a.wt_pos;simpa[Fm.w2]using this
theorem R2(a:2<=x)(b:2<=n):x+n<=x*n:=by
 obtain⟨c,rfl⟩:=Nat.exists_eq_add_of_le a;obtain⟨d,rfl⟩:=Nat.exists_eq_add_of_le b;rw[Nat.add_mul,Nat.mul_add,Nat.mul_add];omega
theorem qs(a b:Fm):(Fm.and a b).w2=4*(a.w2*b.w2):=by
 simp only[Fm.w2,Fm.wt,Nat.pow_add];omega
theorem Wu(a b:Fm):(Fm.or a b).w2=2*(a.w2*b.w2):=by
 simp only[Fm.w2,Fm.wt,Nat.pow_add];omega
theorem JN(a b:Fm):(Fm.imp a b).w2=2*(a.w2*b.w2):=by
 simp only[Fm.w2,Fm.wt,Nat.pow_add];omega
theorem Hh(a b:Fm):a.w2+b.w2<(Fm.and a b).w2:=by
 rw[qs];have:=R2 a.w2_ge b.w2_ge;have:=a.w2_ge;omega
theorem Zm(a b:Fm):a.w2+b.w2<(Fm.or a b).w2:=by
 rw[Wu];have:=R2 a.w2_ge b.w2_ge;have:=a.w2_ge;omega
theorem LZ(a b:Fm):a.w2+b.w2<(Fm.imp a b).w2:=by
 rw[JN];have:=R2 a.w2_ge b.w2_ge;have:=a.w2_ge;omega
theorem Lc(a b y:Fm):(Fm.imp a (.imp b y)).w2<(Fm.imp (.and a b) y).w2:=by
 rw[JN,JN,JN,qs];have e:2*(4*(a.w2*b.w2)*y.w2)=8*(a.w2*(b.w2*y.w2)):=by rw[Nat.mul_assoc 4,Nat.mul_assoc a.w2];omega
 have c:2*(a.w2*(2*(b.w2*y.w2)))=4*(a.w2*(b.w2*y.w2)):=by rw[Nat.mul_left_comm a.w2];omega
 rw[e,c];have:0<a.w2*(b.w2*y.w2):=Nat.mul_pos (by have:=a.w2_ge;omega) (Nat.mul_pos (by have:=b.w2_ge;omega) (by have:=y.w2_ge;omega));omega
theorem Pf(a b y:Fm):(Fm.imp a y).w2+(Fm.imp b y).w2<(Fm.imp (.or a b) y).w2:=by
 rw[JN,JN,JN,Wu];have c:=R2 a.w2_ge b.w2_ge;have d:(a.w2+b.w2)*y.w2<=a.w2*b.w2*y.w2:=Nat.mul_le_mul_right _ c;rw[Nat.add_mul]at d;have e:2*(2*(a.w2*b.w2)*y.w2)=4*(a.w2*b.w2*y.w2):=by rw[Nat.mul_assoc 2];omega
 rw[e];have:0<a.w2*y.w2:=Nat.mul_pos (by have:=a.w2_ge;omega) (by have:=y.w2_ge;omega);omega
theorem Ym(x y z:Fm):(Fm.imp y z).w2+(Fm.imp x y).w2<(Fm.imp (.imp x y) z).w2:=by
 rw[JN,JN,JN,JN];have a:=R2 x.w2_ge z.w2_ge;have b:(x.w2+z.w2)*y.w2<=x.w2*z.w2*y.w2:=Nat.mul_le_mul_right _ a;rw[Nat.add_mul]at b;have e:2*(2*(x.w2*y.w2)*z.w2)=4*(x.w2*z.w2*y.w2):=by rw[Nat.mul_assoc 2,Nat.mul_right_comm x.w2];omega
 have c:z.w2*y.w2=y.w2*z.w2:=Nat.mul_comm _ _;rw[e];have:0<x.w2*y.w2:=Nat.mul_pos (by have:=x.w2_ge;omega) (by have:=y.w2_ge;omega);omega
theorem Fm.wt_size:∀{a:Fm},a.plain=true->a.size<=a.wt/\a.wt<=2*a.size
 | .var _,_=>by simp[Fm.size,Fm.wt]
 | .fls,_=>by simp[Fm.size,Fm.wt]
 | .and a b,h=>by
  simp only[Fm.plain,Bool.and_eq_true]at h;have c:=Fm.wt_size h.1;have d:=Fm.wt_size h.2;simp only[Fm.size,Fm.wt];omega
 | .or a b,h=>by
  simp only[Fm.plain,Bool.and_eq_true]at h;have c:=Fm.wt_size h.1;have d:=Fm.wt_size h.2;simp only[Fm.size,Fm.wt];omega
 | .imp a b,h=>by
  simp only[Fm.plain,Bool.and_eq_true]at h;have c:=Fm.wt_size h.1;have d:=Fm.wt_size h.2;simp only[Fm.size,Fm.wt];omega
theorem dX(b:Bool)(s:jA):(par b s).length<=s.length+2:=by cases b<;>simp[par]
theorem Fm.body_len:∀{a:Fm},a.plain=true->a.body.length<=5*a.wt
 | .var _,_=>by simp[Fm.body,Fm.wt]
 | .fls,_=>by simp[Fm.body,Fm.wt]
 | .and a b,h=>by
  simp only[Fm.plain,Bool.and_eq_true]at h;have c:=Fm.body_len h.1;have d:=Fm.body_len h.2;have e:=dX (decide (a.own<2)) a.body;have f:=dX (decide (b.own<3)) b.body;simp only[Fm.body,Fm.wt,List.length_append,List.length_cons];omega
 | .or a b,h=>by
  simp only[Fm.plain,Bool.and_eq_true]at h;have c:=Fm.body_len h.1;have d:=Fm.body_len h.2;have e:=dX (decide (a.own<1)) a.body;have f:=dX (decide (b.own<2)) b.body;simp only[Fm.body,Fm.wt,List.length_append,List.length_cons];omega
 | .imp a b,h=>by
  simp only[Fm.plain,Bool.and_eq_true]at h;have c:=Fm.body_len h.1;have d:=Fm.body_len h.2;have e:=dX (decide (a.own<1)) a.body;have g:=dX (decide (a.own<3)) a.body;have:=b.wt_pos;simp only[Fm.body,Fm.wt];split
  ·split
   ·simp only[List.length_cons,List.length_nil];omega
   ·simp only[List.length_cons];omega
  ·simp only[List.length_append,List.length_cons];omega
theorem Pj(n:Nat):n<2^n:=Nat.lt_two_pow_self
theorem KO(h:q∈par K s):q=40∨q=41∨q∈s:=by
 cases K
 ·exact .inr (.inr h)
 ·simp only[par,if_true,List.mem_cons,List.mem_append,List.not_mem_nil,or_false]at h;rcases h with h|h|h
  ·exact .inl h
  ·exact .inr (.inr h)
  ·exact .inr (.inl h)
theorem Fm.body_mem:∀{a:Fm},a.good-> ∀d∈a.body,d≠47/\d≠59
 | .var v,h,d,c=>by
  simp only[Fm.body,List.mem_singleton]at c;subst c;have h:v<6:=h;exact⟨H7 h (by decide),H7 h (by decide)⟩
 | .fls,_,d,c=>by
  simp only[Fm.body,List.mem_singleton]at c;subst c;decide
 | .and a b,h,d,c=>by
  simp only[Fm.body,List.mem_append,List.mem_cons]at c;rcases c with c|rfl|c
  ·rcases KO c with rfl|rfl|c
   ·decide
   ·decide
   ·exact Fm.body_mem h.1 d c
  ·decide
  ·rcases KO c with rfl|rfl|c
   ·decide
   ·decide
   ·exact Fm.body_mem h.2 d c
 | .or a b,h,d,c=>by
  simp only[Fm.body,List.mem_append,List.mem_cons]at c;rcases c with c|rfl|c
  ·rcases KO c with rfl|rfl|c
   ·decide
   ·decide
   ·exact Fm.body_mem h.1 d c
  ·decide
  ·rcases KO c with rfl|rfl|c
   ·decide
   ·decide
   ·exact Fm.body_mem h.2 d c
 | .imp a b,h,d,c=>by
  simp only[Fm.body]at c;split at c
  ·split at c
   ·simp only[List.mem_singleton]at c;subst c;decide
   ·simp only[List.mem_cons]at c;rcases c with rfl|c
    ·decide
    ·rcases KO c with rfl|rfl|c
     ·decide
     ·decide
     ·exact Fm.body_mem h.1 d c
  ·simp only[List.mem_append,List.mem_cons]at c;rcases c with c|rfl|c
   ·rcases KO c with rfl|rfl|c
    ·decide
    ·decide
    ·exact Fm.body_mem h.1 d c
   ·decide
   ·exact Fm.body_mem h.2 d c
 | .box a,h,d,c=>by
  simp only[Fm.body,List.mem_cons]at c;rcases c with rfl|rfl|c
  ·decide
  ·decide
  ·rcases KO c with rfl|rfl|c
   ·decide
   ·decide
   ·exact Fm.body_mem (a:=a) h d c
 | .dia a,h,d,c=>by
  simp only[Fm.body,List.mem_cons]at c;rcases c with rfl|rfl|c
  ·decide
  ·decide
  ·rcases KO c with rfl|rfl|c
   ·decide
   ·decide
   ·exact Fm.body_mem (a:=a) h d c
def fT(t:jA):Fm:=(rd t).1
def GT(t:jA):Prop:=∃a:Fm,a.good/\a.plain=true/\t=a.body
theorem UB(h:r.good):fT r.body=r:=by rw[fT,OO h]
theorem GT.at(h:GT s):(fT s).good/\(fT s).plain=true/\(fT s).body=s:=by
 obtain⟨a,b,c,rfl⟩:=h;rw[UB b];exact⟨b,c,rfl⟩
theorem GT.inj(h:GT s)(k:GT Y)(e:fT s=fT Y):s=Y:=by rw[<-h.at.2.2,<-k.at.2.2,e]
theorem GT.of(h:r.good)(k:r.plain=true):GT r.body:=⟨r,h,k,rfl⟩
def wT(t:jA):Nat:=(fT t).w2
def mT(L:List jA):Nat:=(L.map wT).sum
theorem Rn(t:jA):2<=wT t:=(fT t).w2_ge
theorem mr(A B:List jA):mT (A++B)=mT A+mT B:=by simp[mT]
theorem aG(t:jA)(B:List jA):mT (t::B)=wT t+mT B:=by simp[mT]
theorem nr(L:List jA):2*L.length<=mT L:=by
 induction L with
 |nil=>simp
 |cons t L ih=>rw[aG,List.length_cons];have:=Rn t;omega
theorem pr:∀{L:List jA},s∈L->wT s<=mT L
 |[],h=>by simp at h
 |u::L,h=>by
  rw[aG];rcases List.mem_cons.1 h with rfl|h
  ·omega
  ·have:=pr h;omega
theorem O2(p:jA->Bool):∀L:List jA,mT (L.filter p)<=mT L
 |[]=>Nat.le_refl _
 |u::L=>by
  have:=O2 p L;rw[List.filter_cons];split
  ·rw[aG,aG];omega
  ·rw[aG];omega
theorem kn:∀{L:List jA},s∈L->mT (L.filter λu=>!decide (u=s))+wT s<=mT L
 |[],h=>by simp at h
 |u::L,h=>by
  rw[aG,List.filter_cons];by_cases e:u=s
  ·subst e;rw[if_neg (by simp)];have:=O2 (λx=>!decide (x=u)) L;omega
  ·rcases List.mem_cons.1 h with h|h
   ·exact absurd h.symm e
   ·rw[if_pos (by simp[e]),aG];have:=kn h;omega
theorem mn(x:jA):∀l:List jA,mT (nH x l)<=mT l+wT x
 |[]=>by rw[nH,aG];omega
 |y::l=>by
  rw[nH];split
  ·rw[aG,aG];have:=mn x l;omega
  ·split
   ·rw[aG];omega
   ·rw[aG,aG];omega
theorem pn(l:List jA):mT (qG l)<=mT l:=by
 have:∀(l a:List jA),mT (l.foldl (λa x=>nH x a) a)<=mT a+mT l:=by
  intro l
  induction l with
  |nil=>intro a;simp[mT]
  |cons x l ih=>intro a;rw[List.foldl_cons,aG];have:=ih (nH x a);have:=mn x a;omega
 have:=this l [];simpa[qG,mT]using this
theorem Di(h:GT s):s.length<=5*(fT s).wt:=by
 have:=Fm.body_len h.at.2.1
 rwa [h.at.2.2]at this
theorem Sn(h:GT s):s.length<=5*wT s:=by
 have:=Di h;have:(fT s).wt<wT s:=Pj _;omega
theorem Z3{a:Fm}(h:a.w2<=2^n):a.wt<=n:=by
 rcases Nat.lt_or_ge n a.wt with b|b
 ·have:=Nat.pow_lt_pow_right (a:=2) (by omega) b;unfold Fm.w2 at h;omega
 ·exact b
structure c4(L:List jA)(r:jA):Prop where
 left:∀t∈L,GT t
 right:GT r
 small:mT L+wT r<=1099511627776
def VT(L:List jA)(r:jA):Prop:=dD (L.map fT) (fT r)
theorem c4.wt_left(h:c4 k s)(a:Y∈k):(fT Y).wt<=40:=by
 have:=pr a;have:=h.small;exact Z3 (n:=40) (by show wT Y<=_;omega)
theorem c4.wt_right(h:c4 k s):(fT s).wt<=40:=by
 have:=h.small;exact Z3 (n:=40) (by show wT s<=_;omega)
def Me(L:List jA)(r:jA):jA:=L.flatMap (λt=>t++[47])++59::(r++[47])
theorem pi:∀{a b r s:jA},(∀c∈a,c≠47)->(∀c∈b,c≠47)->a++47::r=b++47::s->a=b/\r=s
 |[],[],_,_,_,_,h=>by simp at h;exact⟨rfl,h⟩
 |[],x::b,_,_,_,hb,h=>by simp at h;exact absurd h.1.symm (hb x (by simp))
 |x::a,[],_,_,ha,_,h=>by simp at h;exact absurd h.1 (ha x (by simp))
 |x::a,y::b,_,_,ha,hb,h=>by
  simp only[List.cons_append,List.cons.injEq]at h;have:=pi (λc d=>ha c (by simp[d])) (λc d=>hb c (by simp[d])) h.2;exact⟨by rw[h.1,this.1],this.2⟩
theorem GT.mem(h:GT s):∀c∈s,c≠47/\c≠59:=by
 obtain⟨b,a,_,rfl⟩:=h;exact Fm.body_mem a
theorem Kj:∀{L b:List jA} {r d:jA},(∀t∈L,GT t)->(∀t∈b,GT t)->GT r->GT d->Me L r=Me b d->L=b/\r=d
 |[],[],r,d,_,_,h1,h2,h=>by
  simp only[Me,List.flatMap_nil,List.nil_append,List.cons.injEq,true_and]at h;exact⟨rfl,(pi (λc a=>(h1.mem c a).1) (λc a=>(h2.mem c a).1) h).1⟩
 |[],t::b,_,_,_,h2,_,_,h=>by
  simp only[Me,List.flatMap_nil,List.nil_append,List.flatMap_cons,List.append_assoc]at h;have e:=(h2 t (by simp)).mem;cases t with
  |nil=>simp at h
  |cons c t=>simp only[List.cons_append,List.cons.injEq]at h;exact absurd h.1.symm (e c (by simp)).2
 |t::L,[],_,_,h1,_,_,_,h=>by
  simp only[Me,List.flatMap_nil,List.nil_append,List.flatMap_cons,List.append_assoc]at h;have e:=(h1 t (by simp)).mem;cases t with
  |nil=>simp at h
  |cons c t=>simp only[List.cons_append,List.cons.injEq]at h;exact absurd h.1 (e c (by simp)).2
 |t::L,t'::b,r,d,h1,h2,h3,h4,h=>by
  simp only[Me,List.flatMap_cons,List.append_assoc,List.singleton_append]at h;obtain⟨g,i⟩:=pi (λc a=>((h1 t (by simp)).mem c a).1) (λc a=>((h2 t' (by simp)).mem c a).1) h;have:=Kj (λu f=>h1 u (by simp[f])) (λu f=>h2 u (by simp[f])) h3 h4 i;exact⟨by rw[g,this.1],this.2⟩
theorem Tm:∀{L:List jA},(∀t∈L,GT t)->(L.flatMap (λt=>t++[47])).length<=6*mT L
 |[],_=>by simp
 |t::L,h=>by
  have:=Tm (λu a=>h u (by simp[a]):∀u∈L,GT u);have:=Sn (h t (by simp));have:=Rn t;rw[List.flatMap_cons,aG,List.length_append,List.length_append,List.length_singleton];omega
abbrev Sq:=List jA×jA
def iT(t:jA)(L:List jA):List jA:=L.filter λu=>!decide (u=t)
def ins(L:List jA)(t:jA)(a:List jA):List jA:=qG (iT t L++a)
theorem AK{b:List jA}:r∈(ins k s b).map fT↔r∈b.map fT∨r∈(iT s k).map fT:=by
 simp only[ins,List.mem_map,xF,List.mem_append];constructor
 ·rintro⟨a,h|h,rfl⟩
  ·exact .inr ⟨a,h,rfl⟩
  ·exact .inl ⟨a,h,rfl⟩
 ·rintro(⟨a,h,rfl⟩|⟨a,h,rfl⟩)
  ·exact⟨a,.inr h,rfl⟩
  ·exact⟨a,.inl h,rfl⟩
theorem Rf(b:s∈k)(u:Fm):u∈k.map fT↔u=fT s∨u∈(iT s k).map fT:=by
 simp only[iT,List.mem_map,List.mem_filter];constructor
 ·rintro⟨a,h,rfl⟩;by_cases e:a=s
  ·exact .inl (by rw[e])
  ·exact .inr ⟨a,⟨h,by simp[e]⟩,rfl⟩
 ·rintro(rfl|⟨a,⟨h,_⟩,rfl⟩)
  ·exact⟨s,b,rfl⟩
  ·exact⟨a,h,rfl⟩
theorem c4.ins{c:jA}{a:List jA}(h:c4 k s)(i:Y∈k)(f:∀u∈a,GT u)(g:GT c)(m:mT a+wT c<wT Y+wT s):c4 (ins k Y a) c/\mT (ins k Y a)+wT c<mT k+wT s:=by
 have d:=pn (iT Y k++a);have j:mT (iT Y k)+wT Y<=mT k:=kn i;rw[mr]at d;have l:=h.small;have e:mT (Go.Proofs.YtoojmhgpadkhmaaGreatDoor.ins k Y a)+wT c<mT k+wT s:=by unfold Go.Proofs.YtoojmhgpadkhmaaGreatDoor.ins;omega
 refine⟨⟨λu b=>?_,g,by omega⟩,e⟩;rcases List.mem_append.1 (xF.1 b)with b|b
 ·exact h.left u (List.mem_filter.1 b).1
 ·exact f u b
structure jX(L:List jA)(r:jA)(ps:List Sq):Prop where
 iff:VT L r↔ ∀p∈ps,VT p.1 p.2
 sq:∀p∈ps,c4 p.1 p.2
 lt:∀p∈ps,mT p.1+wT p.2<mT L+wT r
def cC(L:List jA)(r t:jA):List Sq×Bool:=
 match fT t with
 | .and a b=>([(ins L t [a.body,b.body],r)],true)
 | .or a b=>([(ins L t [a.body],r),(ins L t [b.body],r)],true)
 | .imp .fls _=>([(ins L t [],r)],true)
 | .imp (.var p) b=>([(ins L t [b.body],r)],decide ((Fm.var p).body∈L))
 | .imp (.and x y) b=>([(ins L t [(Fm.imp x (.imp y b)).body],r)],true)
 | .imp (.or x y) b=>([(ins L t [(Fm.imp x b).body,(Fm.imp y b).body],r)],true)
 |_=>([],false)
theorem Xu(h:fT s=r):wT s=r.w2:=by rw[wT,h]
theorem DE(h:r.good):wT r.body=r.w2:=Xu (UB h)
theorem MZ(t:jA):mT [t]=wT t:=by simp[mT]
theorem qr(t u:jA):mT [t,u]=wT t+wT u:=by simp[mT]
theorem On(h:GT s)(k:GT Y):∀u∈[s,Y],GT u:=λu a=>by
 simp only[List.mem_cons,List.not_mem_nil,or_false]at a;rcases a with rfl|rfl
 ·exact h
 ·exact k
theorem cX(h:GT s):∀u∈[s],GT u:=λu a=>by rw[List.mem_singleton.1 a];exact h
theorem jX.one{A:List jA}(h:VT k s↔VT A Y)(a:c4 A Y/\mT A+wT Y<mT k+wT s):jX k s [(A,Y)]:=
 ⟨by simpa using h,by simpa using a.1,by simpa using a.2⟩
theorem jX.two{A B:List jA}{q:jA}(h:VT k s↔VT A q/\VT B Y)(a:c4 A q/\mT A+wT q<mT k+wT s)(b:c4 B Y/\mT B+wT Y<mT k+wT s):jX k s [(A,q),(B,Y)]:=
 ⟨by simpa using h,by simpa using⟨a.1,b.1⟩,by simpa using⟨a.2,b.2⟩⟩
theorem RD(h:(Fm.imp r P).plain=true):r.plain=true/\P.plain=true:=by simpa[Fm.plain]using h
theorem RQ(h:(Fm.and r P).plain=true):r.plain=true/\P.plain=true:=by simpa[Fm.plain]using h
theorem I3(h:(Fm.or r P).plain=true):r.plain=true/\P.plain=true:=by simpa[Fm.plain]using h
theorem nQ(h:r.plain=true)(k:P.plain=true):(Fm.imp r P).plain=true:=by simp[Fm.plain,h,k]
theorem Tr(h:c4 k s)(j:Y∈k)(l:(cC k s Y).2=true):jX k s (cC k s Y).1:=by
 obtain⟨a,b,-⟩:=(h.left Y j).at;have g:=Rf j;have A:=Rn s;have f:wT Y=(fT Y).w2:=rfl;unfold cC at l⊢;split at l
 ·rename_i o d e;rw[e]at a b g f;have m:=GT.of a.1 (RQ b).1;have i:=GT.of a.2 (RQ b).2;refine jX.one (Pu g (λu=>?_)).symm (h.ins j (On m i) h.right ?_)
  ·rw[AK];simp only[List.map_cons,List.map_nil,UB a.1,UB a.2,List.mem_cons,List.not_mem_nil,or_false,or_assoc]
  ·rw[qr,DE a.1,DE a.2,f];have:=Hh o d;omega
 ·rename_i o d e;rw[e]at a b g f;have m:=GT.of a.1 (I3 b).1;have i:=GT.of a.2 (I3 b).2;have:=Zm o d;have:=o.w2_ge;have:=d.w2_ge;refine jX.two (lx g (λu=>?_) (λu=>?_)) (h.ins j (cX m) h.right ?_) (h.ins j (cX i) h.right ?_)
  ·rw[AK];simp only[List.map_cons,List.map_nil,UB a.1,List.mem_cons,List.not_mem_nil,or_false]
  ·rw[AK];simp only[List.map_cons,List.map_nil,UB a.2,List.mem_cons,List.not_mem_nil,or_false]
  ·rw[MZ,DE a.1,f];omega
  ·rw[MZ,DE a.2,f];omega
 ·rename_i d e;rw[e]at a b g f;refine jX.one ?_ (h.ins j (by simp) h.right ?_)
  ·have:=ZY (c:=fT s) g;have q:dD ((iT Y k).map fT) (fT s)↔VT (ins k Y []) s:=dD.congr λM B=>by
    constructor
    ·intro w u p;rw[AK]at p;exact w u (by simpa using p)
    ·intro w u p;exact w u (AK.2 (.inr p))
   exact this.symm.trans q
  ·rw[show mT []=0 from rfl,f];have:=(Fm.imp .fls d).w2_ge;omega
 ·rename_i z d e;rw[e]at a b g f;have l:=of_decide_eq_true l;have i:=GT.of a.2 (RD b).2;refine jX.one (jk (x:=.var z) g (λu=>?_) ?_).symm (h.ins j (cX i) h.right ?_)
  ·rw[AK];simp only[List.map_cons,List.map_nil,UB a.2,List.mem_cons,List.not_mem_nil,or_false]
  ·refine List.mem_map.2 ⟨_,List.mem_filter.2 ⟨l,?_⟩,UB a.1⟩;have:¬(Fm.var z).body=Y:=λq=>by rw[<-q,UB a.1]at e;cases e
   simp[this]
  ·rw[MZ,DE a.2,f];have:=LZ (.var z) d;omega
 ·rename_i x y d e;rw[e]at a b g f;have n:=RQ (RD b).1;have v:(Fm.imp x (.imp y d)).good:=⟨a.1.1,a.1.2,a.2⟩
  have i:=GT.of v (nQ n.1 (nQ n.2 (RD b).2));refine jX.one (jg g (λu=>?_)).symm (h.ins j (cX i) h.right ?_)
  ·rw[AK];simp only[List.map_cons,List.map_nil,UB v,List.mem_cons,List.not_mem_nil,or_false]
  ·rw[MZ,DE v,f];have:=Lc x y d;omega
 ·rename_i x y d e;rw[e]at a b g f;have n:=I3 (RD b).1;have r:(Fm.imp x d).good:=⟨a.1.1,a.2⟩
  have t:(Fm.imp y d).good:=⟨a.1.2,a.2⟩
  have m:=GT.of r (nQ n.1 (RD b).2);have i:=GT.of t (nQ n.2 (RD b).2);refine jX.one (lk g (λu=>?_)).symm (h.ins j (On m i) h.right ?_)
  ·rw[AK];simp only[List.map_cons,List.map_nil,UB r,UB t,List.mem_cons,List.not_mem_nil,or_false,or_assoc]
  ·rw[qr,DE r,DE t,f];have:=Pf x y d;omega
 ·cases l
theorem ip{L:List jA}(h:c4 L s)(e:fT s= .and r P):jX L s [(L,r.body),(L,P.body)]:=by
 obtain⟨a,b,-⟩:=h.right.at;have c:wT s=(fT s).w2:=rfl;rw[e]at a b c;have:=Hh r P;have:=h.small;have:=r.w2_ge;have:=P.w2_ge;have d:=DE a.1;have f:=DE a.2;refine jX.two ?_ ⟨⟨h.left,GT.of a.1 (RQ b).1,by omega⟩,by omega⟩ ⟨⟨h.left,GT.of a.2 (RQ b).2,by omega⟩,by omega⟩;unfold VT;rw[e,UB a.1,UB a.2];exact dD.and
theorem jp{L:List jA}(h:c4 L s)(e:fT s= .imp r P):jX L s [(qG (L++[r.body]),P.body)]:=by
 obtain⟨a,c,-⟩:=h.right.at;have g:wT s=(fT s).w2:=rfl;rw[e]at a c g;have:=LZ r P;have:=h.small;have i:=DE a.1;have j:=DE a.2;have f:=pn (L++[r.body]);rw[mr,MZ]at f;refine jX.one ?_ ⟨⟨λu b=>?_,GT.of a.2 (RD c).2,by omega⟩,by omega⟩
 ·unfold VT;rw[e,UB a.2];refine dD.imp λx=>?_;simp only[List.mem_map,xF,List.mem_append,List.mem_singleton];constructor
  ·rintro⟨y,d|rfl,rfl⟩
   ·exact .inr ⟨y,d,rfl⟩
   ·exact .inl (UB a.1)
  ·rintro(rfl|⟨y,d,rfl⟩)
   ·exact⟨_,.inr rfl,UB a.1⟩
   ·exact⟨y,.inl d,rfl⟩
 ·rcases List.mem_append.1 (xF.1 b)with b|b
  ·exact h.left u b
  ·rw[List.mem_singleton.1 b];exact GT.of a.1 (RD c).1
def bP(L:List jA)(r t:jA):Option (Sq×Sq):=
 match fT t with
 | .imp (.imp x y) z=>some ((ins L t [(Fm.imp y z).body],(Fm.imp x y).body),(ins L t [z.body],r))
 |_=>none
theorem Z9(h:c4 k s)(e:Y∈k){p q:Sq}(c:bP k s Y=some (p,q)):
  (c4 p.1 p.2/\mT p.1+wT p.2<mT k+wT s)/\(c4 q.1 q.2/\mT q.1+wT q.2<mT k+wT s)/\(VT p.1 p.2->(VT q.1 q.2↔VT k s))/\ ∃x z,fT Y= .imp x z/\(VT p.1 p.2↔dD (k.map fT) x):=by
 obtain⟨b,d,-⟩:=(h.left Y e).at;have f:=Rf e;have w:=Rn s;have i:wT Y=(fT Y).w2:=rfl;unfold bP at c;split at c
 ·rename_i x y z j;rw[j]at b d f i;have u:=RD (RD d).1;have g:(Fm.imp y z).good:=⟨b.1.2,b.2⟩
  have m:=GT.of g (nQ u.2 (RD d).2);have n:=GT.of b.1 (RD d).1;have o:=GT.of b.2 (RD d).2;simp only[Option.some.injEq,Prod.mk.injEq]at c;obtain⟨rfl,rfl⟩:=c;have r:∀a,a∈(ins k Y [(Fm.imp y z).body]).map fT↔a= .imp y z∨a∈(iT Y k).map fT:=λa=>by
   rw[AK];simp only[List.map_cons,List.map_nil,UB g,List.mem_cons,List.not_mem_nil,or_false]
  have t:∀a,a∈(ins k Y [z.body]).map fT↔a=z∨a∈(iT Y k).map fT:=λa=>by
   rw[AK];simp only[List.map_cons,List.map_nil,UB b.2,List.mem_cons,List.not_mem_nil,or_false]
  have l:VT (ins k Y [(Fm.imp y z).body]) (Fm.imp x y).body↔dD (k.map fT) (.imp x y):=by
   unfold VT;rw[UB b.1];exact Vj f r
  refine⟨h.ins e (cX m) n ?_,h.ins e (cX o) h.right ?_,λv=>Pc f t (l.1 v),_,_,j,l⟩
  ·rw[MZ,DE g,DE b.1,i];have:=Ym x y z;omega
  ·show mT [z.body]+wT s<wT Y+wT s;rw[MZ,DE b.2,i];have:=LZ (.imp x y) z;omega
 ·cases c
theorem Zv(h:c4 k s)(H:¬s∈k)(D:¬Fm.fls.body∈k)(F:∀t∈k,(cC k s t).2=false)
  (B:∀a b,fT s≠ .and a b/\fT s≠ .imp a b)(G:∀a b,fT s= .or a b-> ¬VT k a.body/\ ¬VT k b.body)
  (E:∀t∈k,∀p q,bP k s t=some (p,q)-> ¬(VT p.1 p.2/\VT q.1 q.2)):¬VT k s:=by
 by_cases v:∃t∈k,∃p q,bP k s t=some (p,q)/\VT p.1 p.2
 ·obtain⟨t,f,p,q,e,A⟩:=v;obtain⟨-,-,o,-⟩:=Z9 h f e;exactλn=>E t f p q e ⟨A,(o A).2 n⟩
 refine Su (λa C=>?_) ?_
 ·obtain⟨t,f,rfl⟩:=List.mem_map.1 C;have d:=F t f;obtain⟨g,c,l⟩:=(h.left t f).at;unfold cC at d;split at d
  ·cases d
  ·cases d
  ·cases d
  ·rename_i p b e;refine .inr ⟨_,_,e,.inl ⟨p,rfl,λm=>?_⟩⟩;obtain⟨u,i,j⟩:=List.mem_map.1 m;have:=(h.left u i).at.2.2;rw[j]at this;rw[this]at d;exact absurd i (of_decide_eq_false d)
  ·cases d
  ·cases d
  ·rename_i I J K L M N;cases e:fT t with
   |var p=>exact .inl ⟨p,rfl⟩
   |fls=>rw[e]at l;rw[<-l]at f;exact absurd f D
   |and a b=>exact absurd e (I a b)
   |or a b=>exact absurd e (J a b)
   |box a=>rw[e]at c;cases c
   |dia a=>rw[e]at c;cases c
   |imp x z=>
    refine .inr ⟨x,z,rfl,.inr λn=>?_⟩;cases x with
    |var p=>exact L p z e
    |fls=>exact K z e
    |and a b=>exact M a b z e
    |or a b=>exact N a b z e
    |box a=>rw[e]at c;cases c
    |dia a=>rw[e]at c;cases c
    |imp x y=>
     have w:bP k s t=some ((ins k t [(Fm.imp y z).body],(Fm.imp x y).body),(ins k t [z.body],s)):=by unfold bP;rw[e]
     obtain⟨-,-,-,O,P,r,o⟩:=Z9 h f w;rw[e]at r;cases r;exact v ⟨t,f,_,_,w,o.2 n⟩
 ·obtain⟨g,c,l⟩:=h.right.at;cases e:fT s with
  |var p=>
   refine .inl ⟨p,rfl,λm=>H ?_⟩;obtain⟨u,i,j⟩:=List.mem_map.1 m;have:=(h.left u i).inj h.right (j.trans e.symm)
   rwa [<-this]
  |fls=>exact .inr (.inl rfl)
  |and a b=>exact absurd e (B a b).1
  |imp a b=>exact absurd e (B a b).2
  |box a=>rw[e]at c;cases c
  |dia a=>rw[e]at c;cases c
  |or a b=>
   rw[e]at g;have:=G a b e;unfold VT at this;rw[UB g.1,UB g.2]at this;exact .inr (.inr ⟨a,b,rfl,this.1,this.2⟩)
theorem VT.or(h:GT s)(e:fT s= .or r P)(a:VT k r.body∨VT k P.body):VT k s:=by
 have b:=h.at.1;rw[e]at b;unfold VT at a⊢;rw[UB b.1,UB b.2]at a;rw[e];exactλM w c=>a.imp (λa=>a M w c) (λa=>a M w c)
theorem VT.ax(a:s∈k∨Fm.fls.body∈k):VT k s:=by
 rcases a with a|a
 ·exact dD.mem (List.mem_map.2 ⟨s,a,rfl⟩)
 ·exact dD.fls (List.mem_map.2 ⟨_,a,UB trivial⟩)
open Classical in
noncomputable def vB(L:List jA)(r:jA):Bool:=decide (VT L r)
theorem DG:vB k s=true↔VT k s:=by unfold vB;exact @decide_eq_true_iff _ (Classical.propDecidable _)
theorem Fd:vB k s=false↔ ¬VT k s:=by unfold vB;exact @decide_eq_false_iff_not _ (Classical.propDecidable _)
theorem iw(h:sv s=sv Y):s=Y:=by
 simp only[sv,Value.string.injEq,ByteArray.mk.injEq]at h;exact Array.toList_inj.2 h|>λe=>by simpa using e
def AI(Q:jA->Value->Prop)(w:World)(b:Nat):Prop:=∃es a,w.heap[b]?=some (.map es a)/\ ∀x∈es.toList,∃t:jA,x.key=sv t/\Q t x.val
theorem AI.ext{b:Nat}(h:AI p w b)(x:bA w a):AI p a b:=by
 obtain⟨es,d,c,h⟩:=h;exact⟨es,d,by rw[Go.RowKit.Below.block x b (OE c)];exact c,h⟩
theorem AI.ne_ow(h:AI p w x)(e:dB f n u w v C y):∀c,v.ownBlock=some c-> ¬c=x:=by
 obtain⟨es,g,a,h⟩:=h;rintro c d rfl;obtain⟨i,b⟩:=e.ty d;rw[b]at a;cases a
theorem AI.ne_blk(h:AI p w x)(b:GA u w n y):¬n=x:=by
 obtain⟨es,c,a,h⟩:=h;rintro rfl;unfold GA at b;rw[b]at a;cases a
theorem AI.keys{es:Array MapEntry}(h:∀x∈es.toList,∃t:jA,x.key=sv t/\p t x.val):∀x∈es.toList,MapKept.IsKey .string x.key:=λx a=>by
 obtain⟨t,e,_⟩:=h x a;rw[e];trivial
section
variable{P:Program}{t k e:TypeId}{Q:jA->Value->Prop}
theorem Mq{K:Value->World->Prop}(h:∀b w',b=w.heap.size->bA w w'->AI Q w' b->K (.map (some b)) w'):nD P (Instr.makeMap t none) w K:=
 ⟨_,_,rfl,h _ _ rfl (bA.alloc w _) ⟨#[],0,heap_alloc_new w _,by simp⟩⟩
theorem Lq(r:AI Q w x)(n:P.underlying t=some (.map k e))(f:P.underlying k=some .string)(B:∀w,(zeroValue e).run P w= .ok i w)
  (u:z (.tuple #[i,.bool false]))(y:∀v,Q s v->z (.tuple #[v,.bool true])):xR P w (Instr.lookup t (.map (some x)) (sv s) true) z:=by
 obtain⟨es,o,j,m⟩:=r;have l:∀a,bA w a->a.heap[x]?=some (.map es o):=λa b=>by rw[Go.RowKit.Below.block b x (OE j)];exact j
 rcases MapKept.findNow_spec (k:=sv s) (d:=.string) trivial es.toList 0 (AI.keys m)with⟨g,h⟩|⟨C,p,g,h,q⟩
 ·refine⟨_,λa b=>?_,u⟩;simp[Instr.lookup,run_underlying n,MapKept.run_getObj_map (l a b),MapKept.run_checkKey (k:=sv s) f trivial,MapKept.run_findKey f g,B,Result.andThen]
 ·obtain⟨D,c,A⟩:=m p (List.mem_of_getElem? h);rw[q]at c;have c:=iw c;subst c;refine⟨_,λa b=>?_,y _ A⟩;simp[Instr.lookup,run_underlying n,MapKept.run_getObj_map (l a b),MapKept.run_checkKey (k:=sv s) f trivial,MapKept.run_findKey f g,Result.andThen]
theorem jt(C:AI Q w x)(r:P.underlying t=some (.map k e))(f:P.underlying k=some .string)(u:Q s v)
  (p:∀w',AI Q w' x->Ch (λh=>h=x) w w'->l w'):Bs P (Instr.mapUpdate t (.map (some x)) (sv s) v) w l:=by
 obtain⟨es,i,b,n⟩:=C;have g:∀o,({w with heap:=w.heap.setIfInBounds x o}:World).heap[x]?=some o/\Ch (λh=>h=x) w {w with heap:=w.heap.setIfInBounds x o}:=λo=>
  ⟨(MapKept.heap_set b).1,rfl,rfl,rfl,by simp,λy _ q=>(MapKept.heap_set b).2 y q⟩
 rcases MapKept.findNow_spec (k:=sv s) (d:=.string) trivial es.toList 0 (AI.keys n)with⟨c,m⟩|⟨j,A,c,m,B⟩
 ·refine⟨_,?_,p {w with heap:=w.heap.setIfInBounds x (.map (es.push ⟨sv s,v,i⟩) (i+1))} ⟨_,_,(g _).1,λz a=>?_⟩ (g _).2⟩
  ·simp[Instr.mapUpdate,run_underlying r,MapKept.run_getObj_map b,MapKept.run_checkKey (k:=sv s) f trivial,MapKept.run_findKey f c,MapKept.run_setObj_map _ b,Result.andThen]
  ·simp only[Array.toList_push,List.mem_append,List.mem_singleton]at a;rcases a with a|rfl
   ·exact n z a
   ·exact⟨s,rfl,u⟩
 ·have E:j<es.size:=by have:=(List.getElem?_eq_some_iff.1 m).1;simpa using this
  have D:((es[j]?).map (·.key)).getD (sv s)=sv s:=by
   have:es[j]?=some A:=by simpa using m
   rw[this];exact B
  refine⟨_,?_,p {w with heap:=w.heap.setIfInBounds x (.map (es.modify j λe=>{e with key:=sv s,val:=v}) i)} ⟨_,_,(g _).1,λz a=>?_⟩ (g _).2⟩
  ·simp only[Nat.zero_add]at c;simp[Instr.mapUpdate,run_underlying r,MapKept.run_getObj_map b,MapKept.run_checkKey (k:=sv s) f trivial,MapKept.run_findKey f c,MapKept.run_setObj_map _ b,Result.andThen,D,MapKept.run_keyThatStays (k:=sv s) (d:=.string) trivial]
  ·rw[Array.toList_modify]at a;obtain⟨y,q,rfl⟩:=List.getElem_of_mem a;rw[List.getElem_modify];split
   ·exact⟨s,rfl,u⟩
   ·exact n _ (List.getElem_mem _)
end
theorem Ph(f:Ow x fA w v (yA k))(hL:k.length<=1099511627776):
  nA prog 734 #[v,sv s] w λr a=>bA w a/\Ow w.heap.size fA a r (yA (iT s k)):=by
 apply Pi;unfold Q6;refine xC λq h m b c=>?_;refine aA ((Y5 (f.ext b) hL).mono ?_);rintro u o ⟨j,d⟩;refine aA ((SJ (w0:=h) (p:=λu=>decide (u=s)) j d hL λi n a g=>(lQ rfl ?_)).mono ?_)
 ·show nA prog 742 #[sv i,.pointer (some ⟨q,0,none⟩)] a _;apply Nd;unfold lY;refine mA (c.ext g) rfl ?_;exact yB ⟨rfl,bA.refl _⟩
 ·rintro r t ⟨l,e⟩;exact⟨b.trans l,e.mono b.size⟩
theorem rB.cellOk(h:rB x w v n y):vA v=true:=by
 obtain⟨_,a,c,rfl,_⟩:=h;rfl
theorem zv(h:x<j.length):j.getD x .fls=j[x]:=by simp[List.getD_eq_getElem?_getD,h]
theorem Nr:∀g∈r.kids,g.size<r.size:=λg c=>by
 have:=r.size_kids;have b:∀(l:List Fm),g∈l->g.size<=wB l:=by
  intro l
  induction l with
  |nil=>intro h;simp at h
  |cons a l ih=>
   intro h;simp only[wB,List.map_cons,List.sum_cons]at ih⊢;rcases List.mem_cons.1 h with rfl|h
   ·omega
   ·have:=ih h;omega
 have:=b _ c;omega
theorem Dq:∀{f:Fm},f.good-> ∀g∈f.kids,g.good
 | .and a b,h,g,hg=>by simp only[Fm.kids,List.mem_cons,List.not_mem_nil,or_false]at hg;rcases hg with rfl|rfl;exact h.1;exact h.2
 | .or a b,h,g,hg=>by simp only[Fm.kids,List.mem_cons,List.not_mem_nil,or_false]at hg;rcases hg with rfl|rfl;exact h.1;exact h.2
 | .imp a b,h,g,hg=>by simp only[Fm.kids,List.mem_cons,List.not_mem_nil,or_false]at hg;rcases hg with rfl|rfl;exact h.1;exact h.2
 | .box a,h,g,hg=>by simp only[Fm.kids,List.mem_cons,List.not_mem_nil,or_false]at hg;subst hg;exact h
 | .dia a,h,g,hg=>by simp only[Fm.kids,List.mem_cons,List.not_mem_nil,or_false]at hg;subst hg;exact h
abbrev oP(a:Nat)(w:World)(v:Value)(L:List jA):Prop:=Ow a fA w v (yA L)
theorem Te(d:oC w v r)(m:r.size<=1099511627776):nA prog 316 #[v] w λA o=>bA w o/\ ∃s,Sl o A s/\eF o s r.kids:=by
 apply Og;unfold M0;refine eB (j:=0) d rfl r.size_pos (by decide) (rA d).1 ?_;refine gA (xL r.kind w) λG c=>?_;have E:=r.arity_kids;refine BA ?_;refine dA (λx=>?_) (λx=>?_)
 ·obtain⟨g,a⟩:∃g,r.kids=[g]:=List.length_eq_one_iff.1 (by omega);refine aA ((OA (d.ext c) a m).mono ?_);rintro u C ⟨h,e⟩;refine fF rfl (rB.cellOk e) λt D z f l=>?_;refine⟨(c.trans h).trans f,_,Sl.ofBlk (n:=1) l rfl (by decide),by rw[a];rfl,λi b=>?_⟩;rw[a]at b⊢;have:i=0:=by simp at b;omega
  subst this;exact⟨u,rfl,e.ext f⟩
 ·refine BA ?_;refine dA (λy=>?_) (λy=>?_)
  ·obtain⟨g,k,a⟩:∃g k,r.kids=[g,k]:=by
    have:r.kids.length=2:=by omega
    match F:r.kids,this with
    |[g,k],_=>exact⟨g,k,rfl⟩
   refine aA ((OA (d.ext c) a m).mono ?_);rintro u C ⟨h,e⟩;refine aA ((gB ((d.ext c).ext h) a m).mono ?_);rintro B D ⟨f,q⟩;refine Z8 rfl (rB.cellOk e) (rB.cellOk q) λt H z p l=>?_;refine⟨((c.trans h).trans f).trans p,_,Sl.ofBlk (n:=2) l rfl (by decide),by rw[a];rfl,λi b=>?_⟩;rw[a]at b⊢;rcases i with _|_|i
   ·exact⟨u,rfl,(e.ext f).ext p⟩
   ·exact⟨B,rfl,q.ext p⟩
   ·simp at b;omega
  ·refine⟨c,[],Sl.nil _,?_,λi b=>?_⟩
   ·have:r.kids.length<=2:=by cases r<;>simp[Fm.kids]
    simp;omega
   ·have:r.kids.length<=2:=by cases r<;>simp[Fm.kids]
    omega
theorem fJ(G:oC w v r)(D:r.good)(F:r.size<=1099511627776):nA prog 569 #[v] w λf b=>bA w b/\oP w.heap.size b f (r.kids.map Fm.body):=by
 apply L4;unfold AP;refine aA ((Te G F).mono ?_);rintro M g ⟨u,N,q,l⟩;refine XC q ?_;have K:r.kids.length<=2:=by cases r<;>simp[Fm.kids]
 have L:=l.1;refine MB (λs:Value×Nat=>[s.1,iv (s.2:Int)]) (λs b=>s.2<=r.kids.length/\bA g b/\oP g.heap.size b s.1 ((r.kids.take s.2).map Fm.body)) (λs=>r.kids.length-s.2) (.slice none 0 0,0) rfl ⟨Nat.zero_le _,bA.refl _,Ow.nil _ _ _⟩ ?_;rintro⟨f,k⟩ t J ⟨m,c,a⟩ A;have m:k<=r.kids.length:=m;have a:oP g.heap.size t f ((r.kids.take k).map Fm.body):=a;intro _;simp only[gx];refine jB ?_;refine dA (λz=>?_) (λz=>?_)
 ·have d:k<r.kids.length:=by omega
  obtain⟨x,B,i⟩:=l.2 k d;rw[zv d]at i;refine pP (j:=(k:Int)) (q.ext c) (by omega) (by omega) λH e=>?_;have e:t.cell? H=some x:=e.trans (by rw[Int.toNat_natCast];exact B);refine DD e ?_;have n:r.kids[k]∈r.kids:=List.getElem_mem _;have:=Nr _ n;refine gA (aC (i.ext c) (Dq D _ n) (by omega)) λO h=>?_;have o:=a.ext h;refine nT IB EB rfl o rfl (by rw[AA,List.length_map,List.length_take];omega) (by rw[AA,List.length_map,List.length_take];omega) (c.trans h).size λI P p E=>?_;refine qA (by omega) ?_;refine A (I,k+1) _ ⟨d,(c.trans h).grown E λy C=>(o.blk y C).1,?_⟩ (by show r.kids.length-(k+1)<r.kids.length-k;omega);show oP _ _ _ _;rw[List.take_succ_eq_append_getElem d,List.map_append,List.map_singleton];rw[uG]at p;exact p
 ·have:k=r.kids.length:=by omega
  subst this;rw[List.take_length]at a;exact⟨u.trans c,a.mono u.size⟩
theorem wN{a b:Fm}(g:Sl w v [i,U])(o:oC w i a)(q:oC w U b)(t:(Fm.imp a b).size<=1099511627776):nA prog 714 #[v] w λr f=>bA w f/\iL w.heap.size f r (.imp a b):=by
 apply Z0;unfold YQ;refine XC g ?_;refine HB (by simp) ?_;refine pP (j:=1) g (by omega) (by simp) λp e=>?_;have e:w.cell? p=some U:=e;refine DD e ?_;refine XC g ?_;refine HB (by simp) ?_;refine MB (λs:Value×Nat=>[s.1,iv ((s.2:Int)-1)]) (λs f=>(s.2=1/\s.1=U/\f=w)∨(s.2=0/\bA w f/\iL w.heap.size f s.1 (.imp a b))) (λs=>s.2) (U,1) rfl (.inl ⟨rfl,rfl,rfl⟩) ?_;rintro⟨u,s⟩ x A (⟨d,h,m⟩|⟨d,y,l⟩) n
 ·have d:s=1:=d;have h:u=U:=h;subst d;subst h;subst m;intro _;simp only[gx];refine LF (iA (by decide) ?_);refine pP (j:=0) g (by omega) (by simp) λp e=>?_;have e:x.cell? p=some i:=e;refine DD e ?_;refine aA ((cG (k:=4) (c:=.imp a b) rfl rfl o q t).mono ?_);rintro r B ⟨z,l⟩;refine HB (by simp) ?_;exact n (r,0) _ (.inr ⟨rfl,z,l⟩) (by simp)
 ·have d:s=0:=d;subst d;intro _;simp only[gx];refine LF (cA (by decide) ?_);exact⟨y,l⟩
theorem Qc{e:Value}{c:Fm}(h:Sl w v [i,U,e])(x:oC w i r)(y:oC w U P)(z:oC w e c)(q:(Fm.imp r (.imp P c)).size<=1099511627776):nA prog 714 #[v] w λl d=>bA w d/\iL w.heap.size d l (.imp r (.imp P c)):=by
 apply Z0;unfold YQ;refine XC h ?_;refine HB (by simp) ?_;refine pP (j:=2) h (by omega) (by simp) λp b=>?_;have b:w.cell? p=some e:=b;refine DD b ?_;refine XC h ?_;refine HB (by simp) ?_;refine MB (λs:Value×Nat=>[s.1,iv ((s.2:Int)-1)]) (λs d=>(s.2=2/\s.1=e/\d=w)∨(s.2=1/\bA w d/\iL w.heap.size d s.1 (.imp P c))∨(s.2=0/\bA w d/\iL w.heap.size d s.1 (.imp r (.imp P c)))) (λs=>s.2) (e,2) rfl (.inl ⟨rfl,rfl,rfl⟩) ?_;have B:(Fm.imp P c).size<=1099511627776:=by simp only[Fm.size]at q⊢;omega
 rintro⟨C,s⟩ t E (⟨a,m,u⟩|⟨a,f,g⟩|⟨a,f,g⟩) o
 ·have a:s=2:=a;have m:C=e:=m;subst a;subst m;subst u;intro _;simp only[gx];refine LF (iA (by decide) ?_);refine pP (j:=1) h (by omega) (by simp) λp b=>?_;have b:t.cell? p=some U:=b;refine DD b ?_;refine aA ((cG (k:=4) (c:=.imp P c) rfl rfl y z B).mono ?_);rintro l D ⟨n,g⟩;refine HB (by simp) ?_;exact o (l,1) _ (.inr (.inl ⟨rfl,n,g⟩)) (by simp)
 ·have a:s=1:=a;subst a;intro _;simp only[gx];refine LF (iA (by decide) ?_);refine pP (j:=0) (h.ext f) (by omega) (by simp) λp b=>?_;have b:t.cell? p=some i:=b;refine DD b ?_;refine aA ((cG (k:=4) (c:=.imp r (.imp P c)) rfl rfl (x.ext f) g.sl q).mono ?_);rintro l D ⟨n,A⟩;refine HB (by simp) ?_;exact o (l,0) _ (.inr (.inr ⟨rfl,f.trans n,A.mono f.size⟩)) (by simp)
 ·have a:s=0:=a;subst a;intro _;simp only[gx];refine LF (cA (by decide) ?_);exact⟨f,g⟩
theorem iC(h:∀q a,q=w.heap.size/\a.heap.size=q+1->bA w a->GA u a q [v,i]->t (.pointer (some ⟨q,0,none⟩)) a):PA (Value.cells (.agg #[v,i])) u w t:=
 xC λq a b c d=>h q a b c (by simpa[Value.cells]using d)
theorem aP(a:GA u w x [v,i])(h:z (.agg #[v,i])):HA w 2 (.pointer (some ⟨x,0,none⟩)) z:=DB a rfl (by simpa using h)
theorem Lv{P:Program}(j:GA u w x y)(c:y.length=2)(k:vA v=true)(m:vA i=true)
  (h:∀a,GA u a x [v,i]->Ch (λd=>d=x) w a->l a):sD P w 2 (.pointer (some ⟨x,0,none⟩)) (.agg #[v,i]) l:=by
 obtain⟨a,f,g,b⟩:=DF (P:=P) [v,i] 0 w y j (by simp[c]) (λn e=>by simp at e;rcases e with rfl|rfl<;>assumption);refine⟨_,a,rfl,rfl,?_,h a ?_ (g.ch rfl)⟩
 ·simpa[Value.cells]using f
 ·rw[List.take_zero,List.nil_append,List.drop_of_length_le (by simp[c]),List.append_nil]at b;exact b
theorem Mm{y a c:Value}(h:∀b w',b=w.heap.size/\w'.heap.size=b+1->bA w w'->GA u w' b [U,y,a,c]->t (.slice (some ⟨b,0,none⟩) 2 2) w'):
  xB u (Value.cells (.agg #[v,i])) 2 2 [(0,.agg #[U,y]),(1,.agg #[a,c])] w t:=by
 refine⟨#[U,y,a,c],?_,h _ _ ⟨rfl,by simp⟩ (bA.alloc w _) (GA.new w #[U,y,a,c] u)⟩;simp[Instr.fill,Value.cells,show Array.range 4=#[0,1,2,3]from rfl]
theorem rB.ofBlk{k:Nat}(h:GA u w x y)(b:y.length=n*k)(a:n<=9223372036854775807):rB k w (.slice (some ⟨x,0,none⟩) n n) n y:=(dB.ofBlk (lo:=0) h (Nat.zero_le _) b a).sl
theorem ro(h:x<k.length)(f:jA->jA):(k.take (x+1)).flatMap f=(k.take x).flatMap f++f (gt k x):=by
 rw[List.take_succ_eq_append_getElem h,List.flatMap_append,LA h];simp
theorem Ss(L:List jA)(k:Nat)(f:jA->jA):((L.take k).flatMap f).length<=(L.flatMap f).length:=by
 have:L.flatMap f=(L.take k).flatMap f++(L.drop k).flatMap f:=by rw[<-List.flatMap_append,List.take_append_drop]
 rw[this,List.length_append];omega
theorem aB{lo':Nat}{ts:List jA}(M:oP x w v k)(q:oP lo' w i ts)(R:k.length+ts.length<=1099511627776):
  nA prog 710 #[.agg #[v,sv s],sv Y,i] w λu y=>bA w y/\ ∃t,u= .agg #[t,sv s]/\oP w.heap.size y t (ins k Y ts):=by
 apply rX;unfold NL;refine iC λU W S f c=>?_;refine iC λV X T g H=>?_;have c:=c.ext g;refine pB (mA c rfl ?_);refine pB (mA c rfl ?_);intro Z h;have e:=(f.trans g).trans h;have Q:(iT Y k).length<=k.length:=List.length_filter_le _ _;refine aA ((Ph (M.ext e) (by omega)).mono ?_);rintro u w4 ⟨a,p⟩;refine⟨a,λN b=>?_⟩;refine aA ((FO (A:=iT Y k) (B:=ts) (p.ext b).sl (q.ext ((e.trans a).trans b)).sl p.cell q.cell (by omega)).mono ?_);rintro r w6 ⟨C,d⟩;refine⟨C,?_⟩;refine ZG d.cell rfl ?_;intro w7 D;have l:=((h.trans a).trans (b.trans C)).trans D;have I:=H.ext l;refine Lv I rfl d.cell rfl λz J o=>?_;intro w9 j;refine aP (J.ext j) ?_;have L:oP N.heap.size z r (ins k Y ts):=(d.ext D).ch o λm n O=>by
  have P:=(d.blk m n).1;have E:=b.size;have F:=a.size;have G:=h.size;omega
 have K:bA w z:=((f.trans g).trans l).thenCh o λm n=>by have:=f.size;omega
 refine⟨K.trans j,r,rfl,(L.ext j).mono ?_⟩;have E:=b.size;have F:=a.size;have G:=e.size;omega
theorem Z2{ts:List jA}(p:oP x w v k)(o:oP n w i ts)(M:k.length+ts.length<=1099511627776):
  nA prog 425 #[.agg #[v,sv s],i] w λH t=>bA w t/\ ∃r,H= .agg #[r,sv s]/\oP w.heap.size t r (qG (k++ts)):=by
 apply E4;unfold uP;refine iC λP R N d a=>?_;refine iC λQ S O e C=>?_;have a:=a.ext e;refine pB (mA a rfl ?_);refine pB (mA a rfl ?_);intro I f;have c:=(d.trans e).trans f;refine aA ((FO (A:=k) (B:=ts) (p.ext c).sl (o.ext c).sl p.cell o.cell (by omega)).mono ?_);rintro q T ⟨y,b⟩;refine⟨y,?_⟩;refine ZG b.cell rfl ?_;intro U z;have h:=(f.trans y).trans z;have D:=C.ext h;refine Lv D rfl b.cell rfl λu E m=>?_;intro V g;refine aP (E.ext g) ?_;have G:oP I.heap.size u q (qG (k++ts)):=(b.ext z).ch m λj l J=>by
  have K:=(b.blk j l).1;have L:=f.size;omega
 have F:bA w u:=((d.trans e).trans h).thenCh m λj l=>by have:=d.size;omega
 exact⟨F.trans g,q,rfl,(G.ext g).mono c.size⟩
theorem LD{r':jA}(b:vA v=true):CB prog 424 #[.agg #[v,sv s],sv r'] w (.agg #[v,sv r']):=by
 apply sX;unfold OL;refine iC λk m i c a=>?_;refine iC λl n j d e=>?_;have a:=a.ext d;refine pB (mA a rfl ?_);refine ZG b rfl ?_;refine Lv e rfl b rfl λo f g=>?_;refine aP f ⟨rfl,(c.trans d).thenCh g λh b=>by have:=c.size;omega⟩
theorem UZ{r:jA}(f:iM w v k)(m:iM w i [r])(A:(k.flatMap (λt=>t++[47])).length+r.length<=1152921504606846976):
  CB prog 463 #[.agg #[v,i]] w (sv (Me k r)):=by
 apply F1;unfold iO;refine iC λC x B c l=>?_;refine pB (mA l rfl ?_);refine ZA (f.ext c) ?_;have u:=f.len;rw[AA]at u;refine MB (λa:Nat=>[sv ((k.take a).flatMap λt=>t++[47]),iv a]) (λa g=>a<=k.length/\g=x) (λa=>k.length-a) 0 rfl ⟨Nat.zero_le _,rfl⟩ ?_;rintro a y n ⟨o,rfl⟩ d;intro _;simp only[gx];refine jB ?_;refine dA (λh=>?_) (λh=>?_)
 ·have e:a<k.length:=by omega
  have j:=ro e λt=>t++[47];have s:=Ss k (a+1) λt=>t++[47];rw[j,List.length_append,List.length_append,List.length_singleton]at s;refine mH (f.ext c) rfl e ?_;refine vD (b:=[47]) (by simp only[List.length_singleton];omega) ?_;refine vD (by rw[List.length_append,List.length_singleton];omega) ?_;refine qA (by omega) ?_;rw[<-j];exact d (a+1) _ ⟨e,rfl⟩ (by omega)
 ·have:a=k.length:=by omega
  subst this;rw[List.take_length];refine vD (b:=[59]) (by simp only[List.length_singleton];omega) ?_;refine pB (mA l rfl ?_);refine ZA (m.ext c) ?_;refine MB (λa:Nat=>[sv (if a=0 then(k.flatMap λt=>t++[47])++[59]else Me k r),iv a]) (λa g=>a<=1/\g=y) (λa=>1-a) 0 rfl ⟨Nat.zero_le _,rfl⟩ ?_;rintro a z n ⟨o,rfl⟩ d;intro _;simp only[gx];refine jB ?_;refine dA (λh=>?_) (λh=>?_)
  ·have p:a=0:=by simp at h;omega
   subst p;rw[if_pos rfl];refine mH (m.ext c) rfl (by simp) ?_;refine vD (b:=[47]) (by show r.length+1<=_;omega) ?_;refine vD (by show((k.flatMap λt=>t++[47])++[59]).length+(r++[47]).length<=_;simp only[List.length_append,List.length_singleton];omega) ?_;refine qA (by omega) ?_;refine cast ?_ (d 1 z ⟨Nat.le_refl _,rfl⟩ (by omega));rw[if_neg (by omega)];simp[Me,gt]
  ·have q:a=1:=by simp at h;omega
   subst q;rw[if_neg (by omega)];exact⟨rfl,c⟩
def Eg(w:World)(x:Value)(b:List Sq):Prop:=∃a,rB 2 w x b.length a/\ ∀i p,b[i]?=some p-> ∃v,a[i*2+0]?=some v/\a[i*2+1]?=some (sv p.2)/\oP 0 w v p.1
theorem Eg.ext{c:List Sq}(h:Eg w U c)(k:bA w a):Eg a U c:=by
 obtain⟨l,f,g⟩:=h;exact⟨l,f.ext k,λi p j=>by obtain⟨v,d,b,e⟩:=g i p j;exact⟨v,d,b,e.ext k⟩⟩
theorem Eg.one{b:Nat}{p:Sq}(c:GA u w b [v,sv p.2])(d:oP x w v p.1):Eg w (.slice (some ⟨b,0,none⟩) 1 1) [p]:=
 ⟨_,rB.ofBlk (n:=1) c rfl (by decide),λi q a=>by
  rcases i with _|i
  ·simp only[List.getElem?_cons_zero,Option.some.injEq]at a;subst a;exact⟨v,rfl,rfl,d.mono (Nat.zero_le _)⟩
  ·simp at a⟩
theorem Eg.two{p q:Sq}(c:GA u w x [v,sv p.2,i,sv q.2])(e:oP f w v p.1)(d:oP C w i q.1):Eg w (.slice (some ⟨x,0,none⟩) 2 2) [p,q]:=
 ⟨_,rB.ofBlk (n:=2) c rfl (by decide),λb s a=>by
  rcases b with _|_|b
  ·simp only[List.getElem?_cons_zero,Option.some.injEq]at a;subst a;exact⟨v,rfl,rfl,e.mono (Nat.zero_le _)⟩
  ·simp only[Nat.zero_add,List.getElem?_cons_succ,List.getElem?_cons_zero,Option.some.injEq]at a;subst a;exact⟨i,rfl,rfl,d.mono (Nat.zero_le _)⟩
  ·simp at a⟩
theorem Pm{P:Program}{ys:List Value}(k:rB x w v n y)(g:f<n)(j:ys.length=x)(l:∀i,i<x->y[f*x+i]?=ys[i]?)(h:z (.agg ys.toArray)):wA x v (.int b (f:Int)) λp=>HA w x p z:=by
 have _:=P;refine Ys k g λa o d=>?_;refine⟨_,ys.toArray,rfl,by simpa using j,λi c=>?_,h⟩;have e:(⟨a,o,none⟩:Addr).add i=⟨a,o+i,none⟩:=by
  simp only[Addr.add];split
  ·simp
  ·rfl
 rw[e,d i c,l i c];simp
theorem Xw{a:Array Value}(l:h.size=x)(j:a.size=x)(k:∀v∈a.toList,vA v=true)
  (e:∀b w',w.heap.size<=b->bA w w'->GA u w' b a.toList->t (.pointer (some ⟨b,0,none⟩)) w'):PA h u w λv d=>sD Z d x v (.agg a) λc=>t v c:=by
 refine xC λb d n f g=>?_;refine Ac g (by simpa using l) j k λc m i=>?_;exact e b c (by omega) (f.upd m (by omega)) i
theorem VX(x:Int)(w:World):CB prog 315 #[iv x] w (.bool (decide (0<=x/\x<=5))):=by
 apply p1;unfold YN;exact gA (nG x 0 5 w) λb a=>⟨rfl,a⟩
theorem q9(q:RN)(w:World):CB prog 275 #[.agg #[iv q.1,iv q.2]] w (.bool (cP q)):=by
 obtain⟨k,s⟩:=q;show CB prog 275 #[.agg #[iv k,iv s]] w (.bool (cP (k,s)));have h:cP (k,s)=(decide (0<=k/\k<=6)&&(decide (0<=s/\s<=5)&&(decide (k=0)||decide (s=0)))):=rfl;apply Sd;unfold pY;refine xC λp d _ j c=>?_;have c:GA _ d p [iv k,iv s]:=c;refine pB (mA c (v:=iv k) rfl ?_);refine BA (dA (λe=>?_) (λe=>?_))
 ·refine pB (mA c (v:=iv s) rfl ?_);refine gA (VX _ d) λi b=>⟨?_,j.trans b⟩
  rw[h,decide_eq_true e,decide_eq_true (by omega:0<=k/\k<=6)];simp
 ·refine sB (cP (k,s)) d (λJ a=>?_) (λi b=>λ_=>⟨rfl,j.trans b⟩);refine pB (mA c (v:=iv k) rfl ?_);refine gA (nG _ _ _ d) λi b=>?_;rw[h,decide_eq_false e]at a;by_cases f:1<=k/\k<=6
  ·rw[decide_eq_true f];refine iA rfl ?_;refine pB (mA (c.ext b) (v:=iv s) rfl ?_);refine BA ?_;rw[decide_eq_true (by omega:0<=k/\k<=6),Bool.true_and,Bool.false_or]at a;by_cases g:s=0
   ·rw[decide_eq_true g]at a⊢;rw[decide_eq_true (by omega:0<=s/\s<=5)]at a;exact a _ b
   ·rw[decide_eq_false g]at a⊢;rw[Bool.and_false]at a;exact a _ b
  ·rw[decide_eq_false f];rw[decide_eq_false (by omega:¬(0<=k/\k<=6)),Bool.false_and]at a;exact cA rfl (a _ b)
theorem CO(k:SO w v T)(p:RN->Bool)(o:∀q∈T,∀e,bA w e->TB prog i [.agg #[iv q.1,iv q.2]] e λu w''=>u= .bool (p q)/\bA e w''):
  CB prog 273 #[v,i] w (.bool (T.any p)):=by
 have A:=k.len;apply VC;unfold YB;refine gA (v:=iv (match T.findIdx? p with|some a=>(a:Int)|none=>-1)) ?_ λB y=>LF ⟨?_,y⟩
 ·apply AD;unfold tC;refine VB k ?_;refine MB (λa:Nat=>[iv a]) (λa e=>a<=T.length/\bA w e/\ ∀x∈T.take a,p x=false) (λa=>T.length-a) 0 rfl ⟨Nat.zero_le _,bA.refl _,by simp⟩ ?_;rintro a t z ⟨r,b,g⟩ n;intro _;simp only[gx];refine jB (dA (λh=>?_) (λh=>?_))
  ·have f:a<T.length:=by omega
   have l:=tG f;refine Pm (P:=prog) (ys:=[iv T[a].1,iv T[a].2]) (k.ext b) (by omega) rfl (λj s=>?_) ?_
   ·rcases j with _|_|j
    ·exact l.1
    ·exact l.2
    ·omega
   refine(o _ (List.getElem_mem f) t b).mono ?_;rintro u C ⟨rfl,m⟩;cases d:p T[a]
   ·refine cA (by first|rfl|exact d) ?_;refine qA (by omega) ?_;refine n (a+1) _ ⟨by omega,b.trans m,?_⟩ (by omega);rw[List.take_succ_eq_append_getElem f];intro x c;rcases List.mem_append.1 c with c|c
    ·exact g x c
    ·simp at c;rw[c];exact d
   ·refine iA (by first|rfl|exact d) ⟨?_,b.trans m⟩;have:T.findIdx? p=some a:=List.findIdx?_eq_some_iff_getElem.2 ⟨f,d,λj s=>by
     have:=g (T[j]'(by omega)) (List.mem_take_iff_getElem.2 ⟨j,by omega,rfl⟩);simp[this]⟩
    rw[this]
  ·refine⟨?_,b⟩;rw[List.take_of_length_le (by omega)]at g;have:T.findIdx? p=none:=List.findIdx?_eq_none_iff.2 g;rw[this]
 ·cases h:T.findIdx? p with
  |none=>
   have:=List.findIdx?_eq_none_iff.1 h;have b:T.any p=false:=List.any_eq_false.2 λx c=>by simp[this x c]
   simp[b]
  |some a=>
   obtain⟨r,d,_⟩:=List.findIdx?_eq_some_iff_getElem.1 h;have b:T.any p=true:=List.any_eq_true.2 ⟨T[a],List.getElem_mem _,d⟩;simp[b]
theorem P5{i:Nat}(l:SO w v T)(t:T.all cP=true)(r:i<=T.length)(D:T.length<=1099511627776):CB prog 276 #[v,iv i] w (iv (nj T i)):=by
 apply EV;unfold SM;refine MB (λs:Nat×Nat=>[iv (s.1:Int),iv (s.2:Int)]) (λs x=>bA w x/\s.1<=T.length/\s.2<=1+2*s.1/\f4 (T.drop s.1) s.2=f4 (T.drop i) 1) (λs=>T.length-s.1) (i,1) rfl ⟨bA.refl _,r,by show 1<=1+2*i;omega,rfl⟩ ?_;rintro⟨j,o⟩ y A ⟨c,g,h,a⟩ p;have g:j<=T.length:=g;have h:o<=1+2*j:=h;have a:f4 (T.drop j) o=f4 (T.drop i) 1:=a;intro _;simp only[gx];refine jB (dA (λm=>?_) (λm=>?_))
 ·obtain⟨b,rfl⟩:∃b,o=b+1:=⟨o-1,by omega⟩
  refine VB (rB.ext l c) ?_;refine LF (dA (λn=>?_) (λn=>?_))
  ·obtain rfl:j=T.length:=by omega
   rw[List.drop_length]at a;refine⟨?_,c⟩;unfold nj;rw[<-a];rfl
  ·have d:j<T.length:=by omega
   have q:=tG d;obtain⟨k,s,u,C,_⟩:=un (List.all_eq_true.1 t _ (List.getElem_mem d));refine eB (f:=0) (rB.ext l c) rfl d (by decide) q.1 ?_;have e:T[j].1=(k:Int):=by rw[u]
   rw[e];refine gA (xL k y) λE z=>?_;have B:YD k<=2:=by unfold YD;split;omega;split<;>omega
   refine HB (by omega) (qA (by omega) (qA (by omega) ?_));rw[show((b+1:Nat):Int)+((YD k:Int)-1)=((b+YD k:Nat):Int)by omega];refine p (j+1,b+YD k) _ ⟨c.trans z,by show j+1<=T.length;omega,by show b+YD k<=1+2*(j+1);omega,?_⟩ (by show T.length-(j+1)<T.length-j;omega);show f4 (T.drop (j+1)) (b+YD k)=_;rw[<-a,vj d,e,zm]
 ·obtain rfl:o=0:=by omega
  rw[o2]at a;refine⟨?_,c⟩;unfold nj;rw[<-a];show iv j=iv ((T.length-(T.drop j).length:Nat):Int);rw[List.length_drop,show T.length-(T.length-j)=j by omega]
def C5(q:RN):Bool:=decide (q.1=5)||decide (q.1=6)
def MD(N:List RN):Bool:=!N.any C5
theorem yN(b:SO w v T)(k:T.length<=1099511627776):CB prog 161 #[v] w (.bool (Jj T)):=by
 apply F4;unfold wP;refine sB (Jj T) w (λJ a=>?_) (λu o=>λ_=>⟨rfl,o⟩);refine VB b ?_;refine LF (dA (λg=>?_) (λg=>?_))
 ·refine VB b ?_;refine LF (dA (λh=>?_) (λh=>?_))
  ·refine gA (CO b (λq=>!cP q) λq r t z=>?_) λx c=>?_
   ·refine gA (v:=.bool (!cP q)) ?_ λy p=>⟨rfl,p⟩
    apply lZ;unfold PM;refine xC λs l _ n j=>?_;refine DB j rfl ?_;refine gA (q9 q l) λm d=>?_;exact TA ⟨rfl,n.trans d⟩
   rw[show(T.any λq=>!cP q)= !T.all cP by rw[List.not_all_eq_any_not]];refine TA ?_;rw[Bool.not_not];unfold Jj at a;rw[decide_eq_true (by omega:T.length<=40),Bool.true_and]at a;cases e:T.all cP
   ·refine cA rfl ?_;unfold MW at a;rw[e,Bool.false_and]at a;exact a _ c
   ·refine iA rfl ?_;refine gA (P5 (i:=0) (rB.ext b c) e (Nat.zero_le _) k) λm d=>?_;refine VB ((rB.ext b c).ext d) ?_;refine BA ?_;rw[zf e (by omega)];exact a _ (c.trans d)
  ·unfold Jj at a;rw[decide_eq_false (by omega:¬T.length<=40),Bool.false_and]at a;exact a _ (bA.refl _)
 ·have f:T=[]:=List.length_eq_zero_iff.1 (by omega);subst f;exact a _ (bA.refl _)
theorem J5(k:Int)(w:World):CB prog 278 #[iv k] w (.bool (decide (k=5)||decide (k=6))):=by
 apply lN;unfold GI;refine sB (decide (k=5)||decide (k=6)) w (λJ a=>?_) (λc b=>λ_=>⟨rfl,b⟩);refine BA (dA (λh=>?_) (λh=>?_))
 ·rw[decide_eq_true h,Bool.true_or]at a;exact a _ (bA.refl _)
 ·rw[decide_eq_false h,Bool.false_or]at a;exact BA (a _ (bA.refl _))
theorem zQ(c:SO w v T):CB prog 162 #[v] w (.bool (MD T)):=by
 apply DV;unfold QM;refine gA (CO c C5 λq h i m=>?_) λj e=>TA ⟨rfl,e⟩;refine gA (v:=.bool (C5 q)) ?_ λl g=>⟨rfl,g⟩
 apply TP;unfold WJ;refine xC λp b _ d a=>?_;have a:GA _ b p [iv q.1,iv q.2]:=a;refine pB (mA a (v:=iv q.1) rfl ?_);exact gA (J5 _ b) λk f=>⟨rfl,d.trans f⟩
abbrev VN:=Value×List RN
structure P6(w:World)(v:Value)(L:List VN):Prop where
 row:Sl w v (L.map Prod.fst)
 raw:∀p∈L,SO w p.1 p.2
theorem P6.ext{L:List VN}(h:P6 w v L)(x:bA w a):P6 a v L:=⟨h.row.ext x,λp b=>rB.ext (h.raw p b) x⟩
theorem P6.len{L:List VN}(h:P6 w v L):L.length<=9223372036854775807:=by have:=h.row.len;rwa [List.length_map]at this
theorem P6.one(h:Sl w v [i])(k:SO w i T):P6 w v [(i,T)]:=⟨h,λp a=>by
 simp only[List.mem_singleton]at a;subst a;exact k⟩
theorem Tw{L:List VN}{j:Nat}(d:P6 w v L)(a:j<L.length)(h:z L[j].1):wA 1 v (.int b (j:Int)) λp=>kA w p z:=
 pP (j:=(j:Int)) d.row (by omega) (by rw[List.length_map];omega) λp c=>DD (by rw[c];simp[a]) h
theorem uE{fv:Value}{L:List VN}(g:P6 w v L)(p:List RN->Bool)(m:∀q∈L,∀d,bA w d->TB prog fv [q.1] d λu w''=>u= .bool (p q.2)/\bA d w''):
  CB prog 129 #[v,fv] w (.bool (L.any λq=>p q.2)):=by
 have y:=g.len;apply MC;unfold PB;refine gA (v:=iv (match L.findIdx? (λq=>p q.2)with|some i=>(i:Int)|none=>-1)) ?_ λz r=>LF ⟨?_,r⟩
 ·apply gD;unfold fC;refine XC g.row ?_;rw[List.length_map];refine MB (λi:Nat=>[iv i]) (λi d=>i<=L.length/\bA w d/\ ∀x∈L.take i,p x.2=false) (λi=>L.length-i) 0 rfl ⟨Nat.zero_le _,bA.refl _,by simp⟩ ?_;rintro i o s ⟨n,a,f⟩ l;intro _;simp only[gx];refine jB (dA (λh=>?_) (λh=>?_))
  ·have e:i<L.length:=by omega
   refine Tw (g.ext a) e ?_;refine(m _ (List.getElem_mem e) o a).mono ?_;rintro u A ⟨rfl,k⟩;cases c:p L[i].2
   ·refine cA (by first|rfl|exact c) ?_;refine qA (by omega) ?_;refine l (i+1) _ ⟨by omega,a.trans k,?_⟩ (by omega);rw[List.take_succ_eq_append_getElem e];intro x b;rcases List.mem_append.1 b with b|b
    ·exact f x b
    ·simp at b;rw[b];exact c
   ·refine iA (by first|rfl|exact c) ⟨?_,a.trans k⟩;have:L.findIdx? (λq=>p q.2)=some i:=List.findIdx?_eq_some_iff_getElem.2 ⟨e,c,λj t=>by
     have:=f (L[j]'(by omega)) (List.mem_take_iff_getElem.2 ⟨j,by omega,rfl⟩);simp[this]⟩
    rw[this]
  ·refine⟨?_,a⟩;rw[List.take_of_length_le (by omega)]at f;have:L.findIdx? (λq=>p q.2)=none:=List.findIdx?_eq_none_iff.2 f;rw[this]
 ·cases h:L.findIdx? (λq=>p q.2)with
  |none=>
   have:=List.findIdx?_eq_none_iff.1 h;have a:(L.any λq=>p q.2)=false:=List.any_eq_false.2 λx b=>by simp[this x b]
   simp[a]
  |some i=>
   obtain⟨n,c,_⟩:=List.findIdx?_eq_some_iff_getElem.1 h;have a:(L.any λq=>p q.2)=true:=List.any_eq_true.2 ⟨L[i],List.getElem_mem _,c⟩;simp[a]
theorem OG{L:List VN}(b:P6 w v L)(c:∀p∈L,p.2.length<=1099511627776):CB prog 179 #[v] w (.bool (L.all λq=>Jj q.2)):=by
 apply iZ;unfold LM;refine gA (uE b (λN=>!Jj N) λq a h d=>?_) λi e=>TA ⟨?_,e⟩
 ·refine gA (v:=.bool (!Jj q.2)) ?_ λk g=>⟨rfl,g⟩
  apply zV;unfold GK;exact gA (yN (rB.ext (b.raw q a) d) (c q a)) λj f=>TA ⟨rfl,f⟩
 ·rw[List.not_any_eq_all_not];simp
theorem Y2{L:List VN}(a:P6 w v L):CB prog 441 #[v] w (.bool (L.all λq=>MD q.2)):=by
 apply K7;unfold XR;refine gA (uE a (λN=>!MD N) λq b g c=>?_) λh d=>TA ⟨?_,d⟩
 ·refine gA (v:=.bool (!MD q.2)) ?_ λj f=>⟨rfl,f⟩
  apply Y0;unfold SN;exact gA (zQ (rB.ext (a.raw q b) c)) λi e=>TA ⟨rfl,e⟩
 ·rw[List.not_any_eq_all_not];simp
def pD(N:List RN):Nat:=dL ((N.filter λq=>decide (q.1=0)).map λq=>q.2.toNat)
theorem Mo(N:List RN)(v:Nat):(pD N).testBit v=true↔ ∃q∈N,q.1=0/\q.2.toNat=v:=by
 unfold pD;rw[BK,List.contains_iff_mem,List.mem_map];constructor
 ·rintro⟨q,a,e⟩;rw[List.mem_filter,decide_eq_true_eq]at a;exact⟨q,a.1,a.2,e⟩
 ·rintro⟨q,a,b,e⟩;exact⟨q,by rw[List.mem_filter,decide_eq_true_eq];exact⟨a,b⟩,e⟩
theorem YI(h:T.all cP=true):pD T<2^6:=HW λy b=>by
 obtain⟨q,a,rfl⟩:=List.mem_map.1 b;have:=bX.1 (List.all_eq_true.1 h q (List.mem_filter.1 a).1);omega
theorem Qf:∀(f:Fm) (v:Nat),(pD (cB f)).testBit v=true↔(0,(v:Int))∈cB f:=λf v=>by
 rw[Mo];constructor
 ·rintro⟨⟨d,b⟩,a,c,e⟩;have c:d=0:=c;have e:b.toNat=v:=e;subst c;have i:∀g:Fm,∀q∈cB g,q.1=0->0<=q.2:=by
   intro g
   induction g with
   |var x=>intro q a _;simp[cB]at a;subst a;exact Int.natCast_nonneg _
   |fls=>intro q a h;simp[cB]at a;subst a;exact absurd h (by decide)
   |and x y ih1 ih2=>intro q a h;simp only[cB,List.mem_cons,List.mem_append]at a;rcases a with rfl|a|a<;>first|exact absurd h (by decide)|exact ih1 q a h|exact ih2 q a h
   |or x y ih1 ih2=>intro q a h;simp only[cB,List.mem_cons,List.mem_append]at a;rcases a with rfl|a|a<;>first|exact absurd h (by decide)|exact ih1 q a h|exact ih2 q a h
   |imp x y ih1 ih2=>intro q a h;simp only[cB,List.mem_cons,List.mem_append]at a;rcases a with rfl|a|a<;>first|exact absurd h (by decide)|exact ih1 q a h|exact ih2 q a h
   |box x ih=>intro q a h;simp only[cB,List.mem_cons]at a;rcases a with rfl|a<;>first|exact absurd h (by decide)|exact ih q a h
   |dia x ih=>intro q a h;simp only[cB,List.mem_cons]at a;rcases a with rfl|a<;>first|exact absurd h (by decide)|exact ih q a h
  have:=i f _ a rfl;have:b=(v:Int):=by have j:0<=b:=this;omega
  rw[<-this];exact a
 ·intro h;exact⟨_,h,rfl,by simp⟩
theorem oW(g:SO w v T)(n:T.all cP=true):CB prog 244 #[v] w (iv ((pD T:Nat):Int)):=by
 have G:=g.len;apply DX;unfold YL;have q:∀k,(T.take k).all cP=true:=λk=>List.all_eq_true.2 λA x=>List.all_eq_true.1 n A (List.mem_of_mem_take x);have u:∀k (e:k<T.length),pD (T.take (k+1))=if T[k].1=0 then pD (T.take k)|||2^T[k].2.toNat else pD (T.take k):=λk e=>by
  unfold pD;rw[List.take_succ_eq_append_getElem e,List.filter_append,List.map_append];by_cases h:T[k].1=0
  ·rw[if_pos h,List.filter_cons_of_pos (by simpa using h)];exact HN _ _
  ·rw[if_neg h,List.filter_cons_of_neg (by simpa using h)];simp
 refine VB g ?_;refine MB (λk:Nat=>[iv ((pD (T.take k):Nat):Int),iv k]) (λk y=>k<=T.length/\bA w y) (λk=>T.length-k) 0 rfl ⟨Nat.zero_le _,bA.refl _⟩ ?_;rintro k H B ⟨e,c⟩ i;intro _;simp only[gx];refine jB (dA (λh=>?_) (λh=>?_))
 ·have f:k<T.length:=by omega
  have l:=tG f;have r:=bX.1 (List.all_eq_true.1 n _ (List.getElem_mem f));have C:=YI (q k);have a:=u k f;refine Pm (P:=prog) (ys:=[iv T[k].1,iv T[k].2]) (rB.ext g c) (by omega) rfl (λj F=>?_) ?_
  ·rcases j with _|_|j
   ·exact l.1
   ·exact l.2
   ·omega
  refine Xw rfl rfl (by simp[vA]) λp z _ o b=>?_;have b:GA _ z p [iv T[k].1,iv T[k].2]:=b;refine pB (mA b (v:=iv T[k].1) rfl ?_);refine BA (dA (λd=>?_) (λd=>?_))
  ·refine pB (mA b (v:=iv T[k].2) rfl ?_);rw[if_pos d]at a;generalize E:T[k].2=s at*;have t:0<=s/\s<=5:=r.2.1;obtain⟨m,rfl⟩:=Int.eq_ofNat_of_zero_le t.1;refine HH (j:=m) (by omega) ?_;have D:2^m<2^6:=Nat.pow_lt_pow_right (by omega) (by omega);refine SV (by omega) (by omega) ?_;refine qA (by omega) ?_;rw[show pD (T.take k)|||2^m=pD (T.take (k+1))by rw[a];rfl];exact i (k+1) _ ⟨by omega,c.trans o⟩ (by omega)
  ·rw[if_neg d]at a;refine qA (by omega) ?_;rw[<-a];exact i (k+1) _ ⟨by omega,c.trans o⟩ (by omega)
 ·rw[List.take_of_length_le (by omega)];exact⟨rfl,c⟩
def XI(L:List VN):Nat:=L.foldl (λm p=>m|||pD p.2) 0
theorem Ol(L:List VN)(p:VN):XI (L++[p])=XI L|||pD p.2:=by simp[XI]
theorem Lo(L:List VN)(v:Nat):(XI L).testBit v=true↔ ∃p∈L,(pD p.2).testBit v=true:=by
 have a:∀(L:List VN) (m:Nat),(L.foldl (λm p=>m|||pD p.2) m).testBit v=true↔m.testBit v=true∨ ∃p∈L,(pD p.2).testBit v=true:=by
  intro L
  induction L with
  |nil=>intro m;simp
  |cons p L ih=>
   intro m;rw[List.foldl_cons,ih,Nat.testBit_or,Bool.or_eq_true];simp only[List.mem_cons,exists_eq_or_imp,or_assoc]
 unfold XI;rw[a,Nat.zero_testBit];simp
theorem Qj{L:List VN}(h:∀p∈L,p.2.all cP=true):XI L<2^6:=by
 have c:∀(L:List VN) (m:Nat),m<2^6->(∀p∈L,p.2.all cP=true)->L.foldl (λm p=>m|||pD p.2) m<2^6:=by
  intro L
  induction L with
  |nil=>intro m a _;exact a
  |cons p L ih=>intro m a h;exact ih _ (Nat.or_lt_two_pow a (YI (h p List.mem_cons_self))) λq b=>h q (List.mem_cons_of_mem _ b)
 exact c L 0 (by omega) h
theorem bE{L:List VN}(c:P6 w v L)(e:∀p∈L,p.2.all cP=true):nA prog 145 #[v] w λr d=>bA w d/\Ow w.heap.size KA d r (JA (MA (EE (XI L)))):=by
 have t:=c.len;apply sZ;unfold XM;refine XC c.row ?_;rw[List.length_map];refine MB (λk:Nat=>[iv ((XI (L.take k):Nat):Int),iv k]) (λk d=>k<=L.length/\bA w d) (λk=>L.length-k) 0 rfl ⟨Nat.zero_le _,bA.refl _⟩ ?_;rintro k m o ⟨s,b⟩ i;have g:=Qj (L:=L.take k) λp l=>e p (List.mem_of_mem_take l);intro _;simp only[gx];refine jB (dA (λh=>?_) (λh=>?_))
 ·have a:k<L.length:=by omega
  refine Tw (c.ext b) a ?_;refine gA (oW ((c.ext b).raw _ (List.getElem_mem a)) (e _ (List.getElem_mem a))) λn f=>?_;have q:=YI (e _ (List.getElem_mem a));refine SV (by omega) (by omega) ?_;refine qA (by omega) ?_;rw[show XI (L.take k)|||pD L[k].2=XI (L.take (k+1))by rw[List.take_succ_eq_append_getElem a,Ol]];exact i (k+1) _ ⟨by omega,b.trans f⟩ (by omega)
 ·rw[List.take_of_length_le (by omega)]at g⊢;refine aA ((eJ _ (by omega) m).mono ?_);rintro r n ⟨f,j⟩;exact⟨b.trans f,j.mono b.size⟩
theorem wv:decide (cB r=cB P)=decide (r=P):=decide_eq_decide.2 ⟨Gr,λe=>by rw[e]⟩
instance:Inhabited Fm:=⟨.fls⟩
theorem Vf:y0 0=0:=by
 unfold y0 EE xI;rw[List.filter_eq_nil_iff.2 (λi _=>by simp)];rfl
theorem z7(a y:Nat)(d:y<63):y0 (a|||2^y)=y0 a+if a.testBit y then 0 else 1:=by
 unfold y0 EE;have e:∀k,(xI (a|||2^y) k).length=(xI a k).length+if y<k/\a.testBit y=false then 1 else 0:=by
  intro k
  induction k with
  |zero=>simp[xI]
  |succ k ih=>
   rw[gK,gK,List.length_append,List.length_append,ih];rw[Nat.testBit_or,Nat.testBit_two_pow];by_cases b:y=k
   ·subst b;cases f:a.testBit y
    ·simp
    ·simp
   ·have c:(y<k+1)=(y<k):=by rw[eq_iff_iff];omega
    simp only[b,decide_false,Bool.or_false,c];split<;>split<;>simp<;>omega
 rw[e 63];cases a.testBit y<;>simp[d]
theorem Xe(l:List Nat)(c:∀y∈l,y<63):y0 (dL l)<=l.length:=by
 have e:∀(l:List Nat) (a:Nat),(∀y∈l,y<63)->y0 (l.foldl (λa y=>a|||2^y) a)<=y0 a+l.length:=by
  intro l
  induction l with
  |nil=>intro a _;simp
  |cons x r ih=>
   intro a h;rw[List.foldl_cons];have f:=ih (a|||2^x) (λy d=>h y (by simp[d]));have b:=z7 a x (h x (by simp));rw[List.length_cons];split at b<;>omega
 have:=e l 0 c;rw[Vf]at this;unfold dL;omega
theorem O9(l:List Nat)(y:Nat)(a:y<63):y0 (dL (l++[y]))=y0 (dL l)+if y∈l then 0 else 1:=by
 rw[HN,z7 _ _ a,BK];simp
theorem SQ:∀(k:Nat) (l:List Nat),l.length=k->(∀y∈l,y<63)->(y0 (dL l)=l.length↔l.Nodup)
 |0,l,hk,_=>by
  have:l=[]:=List.length_eq_zero_iff.1 hk;subst this;simp[dL,Vf]
 |k+1,l,hk,hl=>by
  obtain⟨r,y,rfl⟩:∃r y,l=r++[y]:=by
   have d:l≠[]:=by intro f;simp[f]at hk
   exact⟨l.dropLast,l.getLast d,(List.dropLast_concat_getLast d).symm⟩
  have i:r.length=k:=by simpa using hk
  have e:=SQ k r i (λz b=>hl z (by simp[b]));have n:=Xe r (λz b=>hl z (by simp[b]));rw[O9 _ _ (hl y (by simp)),List.nodup_append];simp only[List.length_append,List.length_singleton];by_cases a:y∈r
  ·simp only[a,if_true];constructor
   ·intro h;omega
   ·rintro⟨_,_,h⟩;exact absurd rfl (h y a y (by simp))
  ·simp only[a,if_false];constructor
   ·intro h;refine⟨e.1 (by omega),by simp,?_⟩;intro j g m c;simp at c;subst c;rintro rfl;exact a g
   ·rintro⟨h,_,_⟩;have:=e.2 h;omega
theorem Uf{m a:Nat}(d:m<=62)(b:a<2^m):y0 a<=m:=by
 have:y0 a=(xI a m).length:=by
  unfold y0 EE;have:=o5 (m:=a) (a:=m) (λj c=>Nat.testBit_lt_two_pow (Nat.lt_of_lt_of_le b (Nat.pow_le_pow_right (by omega) c))) (63-m);rw[show m+(63-m)=63 by omega]at this;rw[this]
 rw[this];exact ZI a m
theorem j2(h:∀y∈m,y<x)(a:n<m.length):m.getD n 0<x:=by
 simp only[List.getD_eq_getElem?_getD,List.getElem?_eq_getElem a,Option.getD_some];exact h _ (List.getElem_mem _)
theorem Cq(a:x<m.length):m.getD x 0∈m:=by
 simp only[List.getD_eq_getElem?_getD,List.getElem?_eq_getElem a,Option.getD_some];exact List.getElem_mem _
structure Fr where
 n:Nat
 a:List Nat
def Fr.ok(f:Fr):Prop:=f.n<=8/\f.a.length=f.n/\ ∀x∈f.a,x<2^f.n
theorem Fr.ok.lt{A:Fr}(h:A.ok)(a:x<A.n):A.a.getD x 0<2^A.n:=by
 simp only[List.getD_eq_getElem?_getD,List.getElem?_eq_getElem (show x<A.a.length by rw[h.2.1];exact a),Option.getD_some];exact h.2.2 _ (List.getElem_mem _)
theorem EH:bD x n=0↔ ∀i,x.testBit i=true->n.testBit i=true:=by
 constructor
 ·intro h i b;have:=mP x n i;rw[h,b]at this;simpa using this.symm
 ·intro h;apply Nat.eq_of_testBit_eq;intro i;rw[mP];cases a:x.testBit i
  ·simp
  ·simp[h i a]
theorem Ht(h:f∈xI x n):f<n:=by
 unfold xI at h;exact List.mem_range.1 (List.mem_filter.1 h).1
theorem nh{A:Fr}(h:A.ok)(x:Nat):A.a.getD x 0<2^8:=by
 by_cases a:x<A.n
 ·exact Nat.lt_of_lt_of_le (h.lt a) (Nat.pow_le_pow_right (by omega) h.1)
 ·have:A.a.length<=x:=by rw[h.2.1];omega
  simp[List.getD_eq_getElem?_getD,List.getElem?_eq_none this]
theorem Ow.shape(h:Ow x u w v y):∃a n c,v= .slice a n c:=by
 obtain⟨_,h|⟨g,d,e,b,_⟩⟩:=h
 ·exact⟨_,_,_,h.1⟩
 ·exact⟨_,_,_,b⟩
theorem l5(a:List Nat)(y:Nat):JA (MA a)++[iv y]=JA (MA (a++[y])):=by simp[JA,MA]
def Fe(n:Int)(l:List Int):Fr:=⟨n.toNat,l.map Int.toNat⟩
def zK(n:Int)(l:List Int):Bool:=decide (0<=n/\n<=8)&&decide ((l.length:Int)=n)&&l.all (t7 n.toNat)
theorem rc(h:zK o G=true):(Fe o G).ok/\o=((Fe o G).n:Int)/\G=MA (Fe o G).a:=by
 unfold zK at h;rw[Bool.and_eq_true,Bool.and_eq_true,decide_eq_true_eq,decide_eq_true_eq,List.all_eq_true]at h;obtain⟨⟨e,f⟩,c⟩:=h;have a:∀x∈G,0<=x/\x<=((2^o.toNat-1:Nat):Int):=λx a=>by
  have:=c x a;unfold t7 at this;simpa using this
 refine⟨⟨by show o.toNat<=8;omega,by show(G.map Int.toNat).length=o.toNat;rw[List.length_map];omega,?_⟩,by show o=(o.toNat:Int);omega,?_⟩
 ·intro y d;obtain⟨x,b,rfl⟩:=List.mem_map.1 d;have:=a x b;have g:=Nat.two_pow_pos o.toNat;show x.toNat<2^o.toNat;omega
 ·show G=(G.map Int.toNat).map Int.ofNat;rw[List.map_map]
  conv=>lhs;rw[<-List.map_id G]
  refine List.map_congr_left λx b=>?_;have:=a x b;simp only[id,Function.comp,Int.ofNat_eq_natCast];omega
def BG(a:List Nat)(m k:Nat):Nat:=((xI m k).map λi=>a.getD i 0).foldl (· ||| ·) 0
theorem ud(a:List Nat)(m k:Nat):BG a m (k+1)=if m.testBit k then BG a m k|||a.getD k 0 else BG a m k:=by
 unfold BG;rw[gK,List.map_append,List.foldl_append];split<;>simp
theorem mh(l:List Nat)(z j:Nat):(l.foldl (· ||| ·) z).testBit j=(z.testBit j||l.any λy=>y.testBit j):=by
 induction l generalizing z with
 |nil=>simp
 |cons x l ih=>rw[List.foldl_cons,ih,Nat.testBit_or,List.any_cons,Bool.or_assoc]
theorem td(h:∀x∈m,x<2^n)(a:Nat):∀k,BG m a k<2^n
 |0=>by simp[BG,xI];exact Nat.two_pow_pos n
 |k+1=>by
  rw[ud];split
  ·refine Nat.or_lt_two_pow (td h a k) ?_;by_cases b:k<m.length
   ·simp only[List.getD_eq_getElem?_getD,List.getElem?_eq_getElem b,Option.getD_some];exact h _ (List.getElem_mem _)
   ·simp[List.getD_eq_getElem?_getD,List.getElem?_eq_none (Nat.le_of_not_lt b)];exact Nat.two_pow_pos n
  ·exact td h a k
theorem fX(c:List Nat)(m k j:Nat):(BG c m k).testBit j=true↔ ∃i,i<k/\m.testBit i=true/\(c.getD i 0).testBit j=true:=by
 unfold BG;rw[mh,Nat.zero_testBit,Bool.false_or,List.any_map,List.any_eq_true];unfold xI;constructor
 ·rintro⟨i,e,f⟩;obtain⟨a,b⟩:=List.mem_filter.1 e;exact⟨i,List.mem_range.1 a,b,f⟩
 ·rintro⟨i,a,b,d⟩;exact⟨i,List.mem_filter.2 ⟨List.mem_range.2 a,b⟩,d⟩
def nc(t:Int)(f:Fr)(x:Nat):Bool:=(!decide (t=0)||(f.a.getD x 0).testBit x)&&(!decide (t=2)||decide (bD (BG f.a (f.a.getD x 0) f.n) (f.a.getD x 0)=0))
def oc(t:Int)(f:Fr)(x y:Nat):Bool:=!(f.a.getD x 0).testBit y||(!decide (t=8)||(decide (x=y)|| !(f.a.getD y 0).testBit x))
def jT(t:Int)(f:Fr):Bool:=(List.range f.n).all λx=>nc t f x&&(List.range f.n).all λy=>oc t f x y
theorem b6(p:jL w v m)(o:n<=62)(h:∀x∈m,x<2^n)(y:m.length<=62)(a:Nat)(l:a<2^63):CB prog 535 #[v,iv a] w (iv ((BG m a m.length:Nat):Int)):=by
 apply a8;unfold sS;refine MB (λk:Nat=>[iv ((BG m a k:Nat):Int),iv k]) (λk s=>k<=m.length/\bA w s) (λk=>m.length-k) 0 rfl ⟨Nat.zero_le _,bA.refl _⟩ ?_;rintro k t u ⟨B,b⟩ g;have q:=p.ext b
 (intro _;(try simp only[gx]);(with_reducible refine WC (by assumption) ?_;refine jB ?_))
 refine dA (λi=>?_) (λi=>?_)
 ·have j:k<m.length:=by omega
  refine gA (JB a k l (by omega) t) λG d=>?_;have E:=q.ext d;have c:=ud m a k;have f:∀z,z<2^n->z<2^62:=λz r=>Nat.lt_of_lt_of_le r (Nat.pow_le_pow_right (by omega) o);refine kB (λe=>?_) (λe=>?_)
  ·rw[e,if_pos rfl]at c
   (with_reducible refine tE (by assumption) ?_ (λF C=>?_));omega;(with_reducible refine DD (by assumption) ?_)
   have D:=f _ (td h a k);have A:m.getD k 0<2^62:=by
    simp only[List.getD_eq_getElem?_getD,List.getElem?_eq_getElem j,Option.getD_some];exact f _ (h _ (List.getElem_mem _))
   refine SV (by omega) (by omega) ?_;rw[<-c];refine qA (by omega) ?_;exact g (k+1) _ ⟨by omega,b.trans d⟩ (by omega)
  ·rw[e,if_neg (by simp)]at c;refine qA (by omega) ?_;rw[<-c];exact g (k+1) _ ⟨by omega,b.trans d⟩ (by omega)
 ·obtain rfl:k=m.length:=by omega
  exact⟨rfl,b⟩
theorem xO(h:∀x∈m,x<n)(b:0<n)(i:Nat):m.getD i 0<n:=by
 by_cases a:i<m.length
 ·exact j2 h a
 ·simp[List.getD_eq_getElem?_getD,List.getElem?_eq_none (Nat.le_of_not_lt a)];exact b
def xJ(a:List Nat)(k y:Nat):Nat:=dL ((List.range k).filter λx=>(a.getD x 0).testBit y)
theorem Ao(a:List Nat)(k y:Nat):xJ a (k+1) y=if(a.getD k 0).testBit y then xJ a k y|||2^k else xJ a k y:=by
 unfold xJ;rw[List.range_succ,List.filter_append];cases h:(a.getD k 0).testBit y
 ·simp only[List.filter_cons,List.filter_nil,h];simp
 ·simp only[List.filter_cons,List.filter_nil,h,if_true];rw[HN]
theorem Sm(a:List Nat)(k y:Nat):xJ a k y<2^k:=HW λ_ b=>List.mem_range.1 (List.mem_filter.1 b).1
theorem Hj(a:List Nat)(k y x:Nat):(xJ a k y).testBit x=(decide (x<k)&&(a.getD x 0).testBit y):=by
 unfold xJ;rw[BK,Bool.eq_iff_iff,List.contains_iff_mem,List.mem_filter,List.mem_range];simp
def eK(a:List Nat)(n k:Nat)(b:List Nat)(j:Nat):List Nat:=(List.range n).map λy=>if(b.take j).contains y then xJ a k y|||2^k else xJ a k y
def inv(f:Fr):List Nat:=(List.range f.n).map λy=>xJ f.a f.n y
theorem Fo(a:List Nat)(n k:Nat)(b:List Nat):eK a n k b 0=(List.range n).map λy=>xJ a k y:=by simp[eK]
theorem Bo(a:List Nat)(n k:Nat)(b:a.getD k 0<2^63):eK a n k (EE (a.getD k 0)) (EE (a.getD k 0)).length=(List.range n).map λy=>xJ a (k+1) y:=by
 unfold eK;refine List.map_congr_left λy _=>?_;rw[List.take_length,Ao];have:(EE (a.getD k 0)).contains y=(a.getD k 0).testBit y:=by
  rw[Bool.eq_iff_iff,List.contains_iff_mem,YW b]
 rw[this]
theorem Ij(a:List Nat)(n k:Nat)(b:List Nat)(j:Nat):(eK a n k b j).length=n:=by simp[eK]
theorem Eo(b:List Nat)(n k:Nat)(a:List Nat)(j:Nat)(p:j<a.length):(eK b n k a j).set a[j] ((eK b n k a j).getD a[j] 0|||2^k)=eK b n k a (j+1):=by
 apply List.ext_getElem
 ·simp[eK]
 ·intro i r m;have o:i<n:=by simpa[eK]using m
  rw[List.getElem_set];have d:a.take (j+1)=a.take j++[a[j]]:=List.take_succ_eq_append_getElem p;split
  ·rename_i h;rw[h];have f:(eK b n k a j).getD i 0=if(a.take j).contains i then xJ b k i|||2^k else xJ b k i:=by simp[eK,o]
   have g:(eK b n k a (j+1))[i]=xJ b k i|||2^k:=by
    have c:(a.take (j+1)).contains i=true:=by rw[List.contains_iff_mem,d,h];simp
    simp only[eK,List.getElem_map,List.getElem_range];rw[if_pos c]
   rw[f,g];split
   ·rw[Nat.or_assoc,Nat.or_self]
   ·rfl
  ·rename_i h;simp only[eK,List.getElem_map,List.getElem_range];have c:(a.take (j+1)).contains i=(a.take j).contains i:=by
    rw[Bool.eq_iff_iff,List.contains_iff_mem,List.contains_iff_mem];have q:i∈a.take (j+1)↔i∈a.take j++[a[j]]:=by rw[<-d]
    rw[q,List.mem_append,List.mem_singleton];exact⟨λl=>l.resolve_right λe=>h e.symm,.inl⟩
   rw[c]
theorem Ct(f:Fr)(x:Nat)(a:x<f.n):(inv f).getD x 0=xJ f.a f.n x:=by simp[inv,a]
def FT(k:Nat)(c:List Nat)(i:Nat):List Nat:=if(c.getD i 0).testBit k then c.set i (c.getD i 0|||c.getD k 0)else c
def wK(c:List Nat)(k j:Nat):List Nat:=(List.range j).foldl (FT k) c
def eG(a:List Nat)(k:Nat):List Nat:=(List.range k).foldl (λc k=>wK c k c.length) a
theorem Ci(k:Nat)(c:List Nat)(i:Nat):(FT k c i).length=c.length:=by
 unfold FT;split<;>simp
theorem xK(c:List Nat)(k j:Nat):wK c k (j+1)=FT k (wK c k j) j:=by
 unfold wK;rw[List.range_succ,List.foldl_append];rfl
theorem gL(c:List Nat)(k j:Nat):(wK c k j).length=c.length:=by
 induction j with
 |zero=>rfl
 |succ j ih=>rw[xK,Ci,ih]
theorem uK(a:List Nat)(k:Nat):eG a (k+1)=wK (eG a k) k (eG a k).length:=by
 unfold eG;rw[List.range_succ,List.foldl_append];rfl
theorem fL(a:List Nat)(k:Nat):(eG a k).length=a.length:=by
 induction k with
 |zero=>rfl
 |succ k ih=>rw[uK,gL,ih]
def qi(c d:List Nat):Prop:=∀i j,(c.getD i 0).testBit j=true->(d.getD i 0).testBit j=true
theorem xg(k:Nat)(c:List Nat)(i l:Nat)(d:i<c.length):(FT k c i).getD l 0=if l=i/\(c.getD i 0).testBit k=true then c.getD i 0|||c.getD k 0 else c.getD l 0:=by
 unfold FT;by_cases a:(c.getD i 0).testBit k=true
 ·rw[if_pos a];by_cases b:l=i
  ·subst b;rw[if_pos ⟨rfl,a⟩];simp[List.getD_eq_getElem?_getD,d]
  ·rw[if_neg (λh=>b h.1)];simp[List.getD_eq_getElem?_getD,List.getElem?_set_ne (λh=>b h.symm)]
 ·rw[if_neg a,if_neg (λh=>a h.2)]
theorem yg(k:Nat)(c:List Nat)(i:Nat)(b:i<c.length):qi c (FT k c i):=by
 intro l j h;rw[xg k c i l b];split
 ·rename_i a;obtain⟨rfl,_⟩:=a;rw[Nat.testBit_or,h];rfl
 ·exact h
theorem qi.trans{a b:List Nat}(h:qi a b)(k:qi b m):qi a m:=λi j c=>k i j (h i j c)
theorem Y3(c:List Nat)(k:Nat):∀j,j<=c.length->qi c (wK c k j)
 |0,_=>λ_ _ h=>h
 |j+1,hj=>by
  rw[xK];exact(Y3 c k j (by omega)).trans (yg k _ j (by rw[gL];omega))
theorem Lk(a:List Nat):∀k,qi a (eG a k)
 |0=>λ_ _ h=>h
 |k+1=>by
  rw[uK];exact(Lk a k).trans (Y3 _ k _ (Nat.le_refl _))
theorem wg(h:∀x y z,(m.getD x 0).testBit y=true->(m.getD y 0).testBit z=true->(m.getD x 0).testBit z=true):∀k,eG m k=m
 |0=>rfl
 |k+1=>by
  rw[uK,wg h k];have g:∀j,j<=m.length->wK m k j=m:=by
   intro j
   induction j with
   |zero=>intro _;rfl
   |succ j ih=>
    intro l;rw[xK,ih (by omega)];unfold FT;split
    ·rename_i c;have d:m.getD j 0|||m.getD k 0=m.getD j 0:=by
      apply Nat.eq_of_testBit_eq;intro z;rw[Nat.testBit_or];cases a:(m.getD j 0).testBit z
      ·cases f:(m.getD k 0).testBit z
       ·rfl
       ·rw[h j k z c f]at a;cases a
      ·rfl
     rw[d];apply List.ext_getElem
     ·simp
     ·intro n i b;rw[List.getElem_set];split
      ·rename_i e;subst e;simp[List.getD_eq_getElem?_getD,b]
      ·rfl
    ·rfl
  exact g _ (Nat.le_refl _)
theorem qm(s:m.length=x)(n:eG m x=m):∀a y z,a<x->y<x->(m.getD a 0).testBit y=true->(m.getD y 0).testBit z=true->(m.getD a 0).testBit z=true:=by
 intro a y z t u g i
 --behind step (y,a) the row of a has that of y
 have e:=Lk m y;have f:=Y3 (eG m y) y a (by rw[fL];omega);have o:∀k d,qi (eG m k) (eG m (k+d)):=by
  intro k d
  induction d with
  |zero=>exactλ_ _ h=>h
  |succ d ih=>exact ih.trans (by rw[<-Nat.add_assoc,uK];exact Y3 _ _ _ (Nat.le_refl _))
 have p:∀c k j d,j+d<=c.length->qi (wK c k j) (wK c k (j+d)):=by
  intro c k j d
  induction d with
  |zero=>exactλ_ _ _ h=>h
  |succ d ih=>
   intro r;refine(ih (by omega)).trans ?_;rw[<-Nat.add_assoc,xK];exact yg k _ _ (by rw[gL];omega)
 have q:((wK (eG m y) y (a+1)).getD a 0).testBit z=true:=by
  rw[xK,xg _ _ _ _ (by rw[gL,fL];omega),if_pos ⟨rfl,f _ _ (e _ _ g)⟩,Nat.testBit_or,f _ _ (e _ _ i),Bool.or_true]
 have l:((eG m (y+1)).getD a 0).testBit z=true:=by
  rw[uK,fL];have:=p (eG m y) y (a+1) (m.length-(a+1)) (by rw[fL];omega) _ _ q
  rwa [show a+1+(m.length-(a+1))=m.length by omega]at this
 have b:=o (y+1) (x-(y+1)) _ _ l;rw[show y+1+(x-(y+1))=x by omega,n]at b;exact b
theorem FZ(h:x<m.length):m.getD x 0=m[x]:=by simp[List.getD_eq_getElem?_getD,h]
theorem Co(a:List Nat)(n k:Nat)(b:List Nat)(j y:Nat)(c:y<n):(eK a n k b j).getD y 0=if(b.take j).contains y then xJ a k y|||2^k else xJ a k y:=by simp[eK,c]
theorem WY(l:List Nat)(y x:Nat):JA (MA (l.set y x))=(JA (MA l)).set y (iv x):=by simp[JA,MA,List.map_set]
theorem Le(l:List Nat)(y:Nat)(h:y<l.length):(JA (MA l))[y]?=some (iv ((l.getD y 0:Nat):Int)):=by
 simp[JA,MA,List.getD_eq_getElem?_getD,h]
theorem m9{A:Fr}(g:A.ok)(i:jL w v A.a):nA prog 668 #[v] w λU e=>bA w e/\Ow w.heap.size KA e U (JA (MA (inv A))):=by
 have af:=g.1;have s:=g.2.1;have R:=i;apply Ia;unfold zU;have c:=bA.refl w
 (with_reducible refine WC (by assumption) ?_)
 refine uw (n:=A.a.length) (by omega) (by omega) rfl λf V hc h b=>?_;have t:w.heap.size<=f:=by omega
 have ac:f<V.heap.size:=b.lt;have c:=c.trans h;have i:=i.ext h
 (with_reducible refine WC (by assumption) ?_)
 have Q:List.replicate A.a.length (iv 0)=JA (MA ((List.range A.n).map λy=>xJ A.a 0 y)):=by
  apply List.ext_getElem
  ·simp[JA,MA,s]
  ·intro ag h1 h2;simp[JA,MA,xJ,dL]
 rw[Q]at b;refine MB (λk:Nat=>[iv k]) (λk e=>k<=A.n/\bA w e/\GA KA e f (JA (MA ((List.range A.n).map λy=>xJ A.a k y)))) (λk=>A.n-k) 0 rfl ⟨Nat.zero_le _,c,b⟩ ?_;rintro k B Z ⟨hk,c,b⟩ F;have i:=R.ext c
 (intro _;(try simp only[gx]);(with_reducible refine jB ?_))
 refine dA (λD=>?_) (λD=>?_)
 ·have K:k<A.n:=by omega
  have I:=nh g k;have J:=g.lt K
  (with_reducible refine tE (by assumption) ?_ (λT P=>?_));omega;(with_reducible refine DD (by assumption) ?_)
  refine aA ((eJ (A.a.getD k 0) (by omega) B).mono ?_);rintro u W ⟨h,d⟩;have ad:=b.lt;have c:=c.trans h;have b:=b.ext h;have O:jL W u (EE (A.a.getD k 0)):=d.sl;have M:=Uf (m:=8) (a:=A.a.getD k 0) (by omega) I;unfold y0 at M;have N:∀y∈EE (A.a.getD k 0),y<A.n:=λy q=>by
   have:=(YW (by omega)).1 q;rcases Nat.lt_or_ge y A.n with o|o
   ·exact o
   ·rw[Nat.testBit_lt_two_pow (Nat.lt_of_lt_of_le J (Nat.pow_le_pow_right (by omega) o))]at this;cases this
  have H:u.ownBlock≠some f:=λC=>by have:=(d.blk f C).1;omega
  (with_reducible refine WC (by assumption) ?_)
  rw[<-Fo A.a A.n k (EE (A.a.getD k 0))]at b;refine MB (λj:Nat=>[iv j]) (λj e=>j<=(EE (A.a.getD k 0)).length/\bA w e/\Ow B.heap.size KA e u (JA (MA (EE (A.a.getD k 0))))/\GA KA e f (JA (MA (eK A.a A.n k (EE (A.a.getD k 0)) j)))) (λj=>(EE (A.a.getD k 0)).length-j) 0 rfl ⟨Nat.zero_le _,c,d,b⟩ ?_;rintro j X aa ⟨hj,c,d,b⟩ G;have O:jL X u (EE (A.a.getD k 0)):=d.sl
  (intro _;(try simp only[gx]);(with_reducible refine jB ?_))
  refine dA (λE=>?_) (λE=>?_)
  ·have p:j<(EE (A.a.getD k 0)).length:=by omega
   have q:(EE (A.a.getD k 0))[j]<A.n:=N _ (List.getElem_mem p);have S:(EE (A.a.getD k 0)).getD j 0=(EE (A.a.getD k 0))[j]:=FZ p;have L:(eK A.a A.n k (EE (A.a.getD k 0)) j).length=A.n:=Ij _ _ _ _ _
   (with_reducible refine tE (by assumption) ?_ (λT P=>?_));omega;(with_reducible refine DD (by assumption) ?_)
   rw[S];refine Ke (by omega) ?_;refine mA b (v:=iv (((eK A.a A.n k (EE (A.a.getD k 0)) j).getD (EE (A.a.getD k 0))[j] 0:Nat):Int)) ?_ ?_
   ·rw[Nat.zero_add];exact Le _ _ (by omega)
   refine HH (by omega) ?_;have ae:(eK A.a A.n k (EE (A.a.getD k 0)) j).getD (EE (A.a.getD k 0))[j] 0<2^9:=by
    have l:(eK A.a A.n k (EE (A.a.getD k 0)) j).getD (EE (A.a.getD k 0))[j] 0=if((EE (A.a.getD k 0)).take j).contains (EE (A.a.getD k 0))[j]then xJ A.a k (EE (A.a.getD k 0))[j]|||2^k else xJ A.a k (EE (A.a.getD k 0))[j]:=Co _ _ _ _ _ _ q
    rw[l];have z:xJ A.a k (EE (A.a.getD k 0))[j]<2^9:=Nat.lt_of_lt_of_le (Sm _ _ _) (Nat.pow_le_pow_right (by omega) (by omega));split
    ·exact Nat.or_lt_two_pow z (Nat.pow_lt_pow_right (by omega) (by omega))
    ·exact z
   have ab:2^k<2^9:=Nat.pow_lt_pow_right (by omega) (by omega);refine SV (by omega) (by omega) ?_;refine Ke (by omega) ?_;intro Y h;have c:=c.trans h;have d:=d.ext h;have b:=b.ext h;refine QH b (by rw[SA,WA,L];omega) rfl λr=>?_;have x:=PI.setCell Y f (0+(EE (A.a.getD k 0))[j]) (iv (((eK A.a A.n k (EE (A.a.getD k 0)) j).getD (EE (A.a.getD k 0))[j] 0|||2^k:Nat):Int));have c:=c.upd x t;have d:=d.upd x H;have l:(JA (MA (eK A.a A.n k (EE (A.a.getD k 0)) j))).set (0+(EE (A.a.getD k 0))[j]) (iv (((eK A.a A.n k (EE (A.a.getD k 0)) j).getD (EE (A.a.getD k 0))[j] 0|||2^k:Nat):Int))=JA (MA (eK A.a A.n k (EE (A.a.getD k 0)) (j+1))):=by
    rw[Nat.zero_add,<-Eo A.a A.n k _ j p];exact(WY _ _ _).symm
   rw[l]at r;intro w9 h;have b:=r.ext h;have c:=c.trans h;have d:=d.ext h;refine qA (by omega) ?_;exact G (j+1) _ ⟨by omega,c,d,b⟩ (by omega)
  ·obtain rfl:j=(EE (A.a.getD k 0)).length:=by omega
   refine qA (by omega) ?_;rw[Bo A.a A.n k (by omega)]at b;exact F (k+1) _ ⟨by omega,c,b⟩ (by omega)
 ·obtain rfl:k=A.n:=by omega
  exact⟨c,Ow.ofBlk b t (by rw[SA,WA,s];simp[inv]) (by omega)⟩
theorem iP{l l':List Int}(f:Q9 w v l)(g:Q9 w i l'):CB prog 673 #[v,i] w (.bool (decide (l=l'))):=by
 have x:=f.len;have y:=g.len;apply ZP;unfold dI
 (with_reducible refine UY (by assumption) ?_;refine UY (by assumption) ?_;refine ZF ?_)
 refine dA (λh=>?_) (λh=>?_)
 ·refine⟨?_,bA.refl _⟩;rw[decide_eq_false];rintro rfl;exact h rfl
 ·(with_reducible refine UY (by assumption) ?_)
  have p:l.length=l'.length:=by omega
  refine MB (λk:Nat=>[iv k]) (λk s=>k<=l.length/\bA w s/\l.take k=l'.take k) (λk=>l.length-k) 0 rfl ⟨Nat.zero_le _,bA.refl _,by simp⟩ ?_;rintro k B t ⟨u,b,c⟩ o;have z:=f.ext b;have A:=g.ext b
  (intro _;(try simp only[gx]);(with_reducible refine jB ?_))
  refine dA (λn=>?_) (λn=>?_)
  ·have e:k<l.length:=by omega
   (with_reducible refine rh (by assumption) ?_ (λr q=>?_));omega;(with_reducible refine DD (by assumption) ?_);(with_reducible refine rh (by assumption) ?_ (λr q=>?_));omega;(with_reducible refine DD (by assumption) ?_;refine ZF ?_)
   intro C d;refine dA (λa=>?_) (λa=>?_)
   ·refine⟨?_,b.trans d⟩;rw[decide_eq_false];rintro rfl;exact a rfl
   ·refine qA (by omega) ?_;refine o (k+1) _ ⟨by omega,b.trans d,?_⟩ (by omega);rw[List.take_succ_eq_append_getElem e,List.take_succ_eq_append_getElem (show k<l'.length by omega),c];have j:l.getD k 0=l[k]:=by simp[List.getD_eq_getElem?_getD,e]
    have m:l'.getD k 0=l'[k]'(by omega):=by simp[List.getD_eq_getElem?_getD,show k<l'.length by omega]
    have a:l.getD k 0=l'.getD k 0:=Decidable.not_not.1 a;rw[j,m]at a;rw[a]
  ·refine⟨?_,b⟩;obtain rfl:k=l.length:=by omega
   rw[List.take_length,p,List.take_length]at c;rw[decide_eq_true c]
theorem VZ(P:x<=8)(p:m.length=x)(O:∀c∈m,c<2^x)(Q:jL w v m):nA prog 674 #[v] w λU e=>bA w e/\Ow w.heap.size KA e U (JA (MA (eG m x))):=by
 apply H1;unfold jO;refine aA ((CH (l:=MA m) Q (by rw[WA];omega)).mono ?_);rintro u V ⟨h,a⟩;have b:=h;have z:∀d:List Nat,(JA (MA d)).length=d.length:=λd=>by rw[SA,WA]
 have q:jL V u m:=a.sl
 (with_reducible refine WC (by assumption) ?_)
 have t:∀k j,∀c∈wK (eG m k) k j,c<2^x:=by
  have R:∀k (d:List Nat) E,(∀c∈d,c<2^x)-> ∀c∈FT k d E,c<2^x:=by
   intro k d E f c g;unfold FT at g;split at g
   ·rcases List.mem_or_eq_of_mem_set g with n|n
    ·exact f c n
    ·rw[n];exact Nat.or_lt_two_pow (xO f (Nat.two_pow_pos x) _) (xO f (Nat.two_pow_pos x) _)
   ·exact f c g
  have C:∀k (d:List Nat) j,(∀c∈d,c<2^x)-> ∀c∈wK d k j,c<2^x:=by
   intro k d j f
   induction j with
   |zero=>exact f
   |succ j ih=>rw[xK];exact R k _ _ ih
  have p:∀k,∀c∈eG m k,c<2^x:=by
   intro k
   induction k with
   |zero=>exact O
   |succ k ih=>rw[uK];exact C k _ _ ih
  exactλk j=>C k _ j (p k)
 refine MB (λk:Nat=>[iv k]) (λk e=>k<=x/\bA w e/\Ow w.heap.size KA e u (JA (MA (eG m k)))) (λk=>x-k) 0 rfl ⟨Nat.zero_le _,b,a⟩ ?_;rintro k W Y ⟨hk,b,a⟩ K;have A:(eG m k).length=x:=by rw[fL,p]
 have q:jL W u (eG m k):=a.sl
 (intro _;(try simp only[gx]);(with_reducible refine jB ?_))
 refine dA (λI=>?_) (λI=>?_)
 ·have ad:k<x:=by omega
  (with_reducible refine WC (by assumption) ?_)
  refine MB (λj:Nat=>[iv j]) (λj e=>j<=x/\bA w e/\Ow w.heap.size KA e u (JA (MA (wK (eG m k) k j)))) (λj=>x-j) 0 rfl ⟨Nat.zero_le _,b,a⟩ ?_;rintro j G Z ⟨hj,b,a⟩ s;have ac:(wK (eG m k) k j).length=x:=by rw[gL,A]
  have q:jL G u (wK (eG m k) k j):=a.sl
  (intro _;(try simp only[gx]);(with_reducible refine jB ?_))
  refine dA (λJ=>?_) (λJ=>?_)
  ·have ab:j<x:=by omega
   have aa:2^x<=2^8:=Nat.pow_le_pow_right (by omega) P;have g1:=xO (t k j) (Nat.two_pow_pos x) j;have g2:=xO (t k j) (Nat.two_pow_pos x) k
   (with_reducible refine tE (by assumption) ?_ (λF B=>?_));omega;(with_reducible refine DD (by assumption) ?_)
   refine gA (oI _ k (by omega) (by omega) G) λX h=>?_;have b:=b.trans h;have a:=a.ext h;have q:jL X u (wK (eG m k) k j):=a.sl;have D:=xK (eG m k) k j;refine kB (λo=>?_) (λo=>?_)
   ·have i:wK (eG m k) k (j+1)=(wK (eG m k) k j).set j ((wK (eG m k) k j).getD j 0|||(wK (eG m k) k j).getD k 0):=by
     rw[D];unfold FT;rw[if_pos o]
    (with_reducible refine tE (by assumption) ?_ (λF B=>?_));omega;(with_reducible refine DD (by assumption) ?_);(with_reducible refine tE (by assumption) ?_ (λF B=>?_));omega;(with_reducible refine DD (by assumption) ?_)
    refine SV (by omega) (by omega) ?_;refine sh a (by rw[z];omega) λr L T=>?_;intro H h;have b:=b.trans h;have a:=a.ext h;obtain⟨y,M,N⟩:=T H _ rfl a;rw[List.getElem?_eq_getElem (by rw[z];omega)]at y;refine rt y M rfl ?_;have a:=N (iv (((wK (eG m k) k j).getD j 0|||(wK (eG m k) k j).getD k 0:Nat):Int));rw[<-WY,<-i]at a;have S:=PI.setCell H r j (iv (((wK (eG m k) k j).getD j 0|||(wK (eG m k) k j).getD k 0:Nat):Int));have b:=b.upd S (a.blk r L).1;intro w9 h;have b:=b.trans h;have a:=a.ext h;refine qA (by omega) ?_;exact s (j+1) _ ⟨by omega,b,a⟩ (by omega)
   ·refine qA (by omega) ?_;refine s (j+1) _ ⟨by omega,b,?_⟩ (by omega);have i:wK (eG m k) k (j+1)=wK (eG m k) k j:=by
     rw[D];unfold FT;rw[if_neg (by rw[o];simp)]
    rw[i];exact a
  ·obtain rfl:j=x:=by omega
   refine qA (by omega) ?_;refine K (k+1) _ ⟨by omega,b,?_⟩ (by omega);rw[uK,A];exact a
 ·obtain rfl:k=x:=by omega
  exact⟨b,a⟩
theorem AH{u:Value}(p:Nat->Bool)(A:n<=1000)(w:World)(l:∀a,bA w a-> ∀x,x<n->TB prog v [iv x] a λr w''=>r= .bool (p x)/\bA a w''):CB prog 669 #[.agg #[iv n,u],v] w (.bool ((List.range n).all p)):=by
 apply QP;unfold VH;refine xC λs B y h t=>?_
 (with_reducible refine pB ?_);refine mA (by assumption) (by first|rfl|simp) ?_
 refine MB (λk:Nat=>[iv k]) (λk a=>k<=n/\bA w a/\ ∀x,x<k->p x=true) (λk=>n-k) 0 rfl ⟨Nat.zero_le _,h,λx c=>by omega⟩ ?_;rintro k o q ⟨z,b,f⟩ j
 (intro _;(try simp only[gx]);(with_reducible refine jB ?_))
 refine dA (λi=>?_) (λi=>?_)
 ·have e:k<n:=by omega
  refine(l o b k e).mono ?_;rintro _ C ⟨rfl,d⟩
  (with_reducible refine TA ?_)
  cases g:p k
  ·refine iA rfl ?_;refine⟨?_,b.trans d⟩;have:(List.range n).all p=false:=by
    rw[List.all_eq_false];exact⟨k,List.mem_range.2 e,by rw[g];simp⟩
   rw[this]
  ·refine cA rfl ?_;refine qA (by omega) ?_;refine j (k+1) _ ⟨by omega,b.trans d,λx c=>?_⟩ (by omega);by_cases m:x<k
   ·exact f x m
   ·obtain rfl:x=k:=by omega
    exact g
 ·refine⟨?_,b⟩;have:(List.range n).all p=true:=by
   rw[List.all_eq_true];exactλx c=>f x (by have:=List.mem_range.1 c;omega)
  rw[this]
theorem TW{A:Fr}(b:A.ok)(h:(A.a.getD x 0).testBit n=true):x<A.n/\n<A.n:=by
 have c:x<A.n:=by
  rcases Nat.lt_or_ge x A.n with a|a
  ·exact a
  ·rw[List.getD_eq_getElem?_getD,List.getElem?_eq_none (by rw[b.2.1];exact a)]at h;simp at h
 refine⟨c,?_⟩;rcases Nat.lt_or_ge n A.n with a|a
 ·exact a
 ·rw[Nat.testBit_lt_two_pow (Nat.lt_of_lt_of_le (b.lt c) (Nat.pow_le_pow_right (by omega) a))]at h;cases h
theorem SW{A:Fr}:jT o A=true↔ ∀x,x<A.n->nc o A x=true/\ ∀y,y<A.n->oc o A x y=true:=by
 unfold jT;simp only[List.all_eq_true,List.mem_range,Bool.and_eq_true]
theorem pc{A:Fr}:jT 0 A=(List.range A.n).all λx=>(A.a.getD x 0).testBit x:=by
 rw[Bool.eq_iff_iff,SW];simp only[List.all_eq_true,List.mem_range];constructor
 ·intro h x a;have:=(h x a).1;unfold nc at this;simpa using this
 ·intro h x a;refine⟨?_,λy b=>?_⟩
  ·unfold nc;rw[h x a];simp
  ·unfold oc;simp
theorem l7{A:Fr}(e:A.ok):jT 2 A=true↔ ∀x y z,(A.a.getD x 0).testBit y=true->(A.a.getD y 0).testBit z=true->(A.a.getD x 0).testBit z=true:=by
 rw[SW];constructor
 ·intro h x y z a b;obtain⟨c,d⟩:=TW e a;have:=(h x c).1;unfold nc at this;simp only[decide_true,Bool.not_true,Bool.false_or,Bool.and_eq_true,decide_eq_true_eq]at this;exact EH.1 this.2 z ((fX _ _ _ _).2 ⟨y,d,a,b⟩)
 ·intro h x c;refine⟨?_,λy d=>?_⟩
  ·unfold nc;simp only[decide_true,Bool.not_true,Bool.false_or,Bool.and_eq_true,decide_eq_true_eq];refine⟨by simp,EH.2 λz f=>?_⟩;obtain⟨y,_,a,b⟩:=(fX _ _ _ _).1 f;exact h x y z a b
  ·unfold oc;simp
theorem Il{A:Fr}(a:A.ok):jT 2 A=decide (eG A.a A.n=A.a):=by
 rw[Bool.eq_iff_iff,l7 a,decide_eq_true_eq];constructor
 ·exactλh=>wg h A.n
 ·intro h x y z b c;obtain⟨d,e⟩:=TW a b;exact qm a.2.1 h x y z d e b c
theorem Hl{A:Fr}:jT 8 A=(List.range A.n).all λx=>decide (bD (A.a.getD x 0&&& xJ A.a A.n x) (2^x)=0):=by
 rw[Bool.eq_iff_iff,SW];simp only[List.all_eq_true,List.mem_range,decide_eq_true_eq];constructor
 ·intro h x b;rw[EH];intro y a;rw[Nat.testBit_and,Hj,Bool.and_eq_true,Bool.and_eq_true,decide_eq_true_eq]at a;have:=(h x b).2 y a.2.1;unfold oc at this;rw[a.1,a.2.2]at this;simp at this;subst this;rw[Nat.testBit_two_pow];simp
 ·intro h x b;refine⟨by unfold nc;simp,λy a=>?_⟩;unfold oc;cases c:(A.a.getD x 0).testBit y
  ·rfl
  ·cases d:(A.a.getD y 0).testBit x
   ·simp
   ·have:=EH.1 (h x b) y (by rw[Nat.testBit_and,Hj,c,d];simp[a]);rw[Nat.testBit_two_pow,decide_eq_true_eq]at this;simp[this]
def Rv(f:Fr):Bool:=jT 0 f&&(jT 2 f&&jT 8 f)
theorem NZ{A:Fr}(a:A.ok)(b:jL w v A.a)(x y:Nat)(l:x<A.n)(m:y<=60):CB prog 671 #[.agg #[iv (A.n:Int),v],iv x,iv y] w (.bool ((A.a.getD x 0).testBit y)):=by
 have i:=a.2.1;have j:=nh a x;apply W0;unfold PN;refine xC λe d g h f=>?_;have b:=b.ext h
 (with_reducible refine pB ?_);refine mA (by assumption) (by first|rfl|simp) ?_;(with_reducible refine tE (by assumption) ?_ (λn k=>?_));omega;(with_reducible refine DD (by assumption) ?_)
 refine gA (oI _ y (by omega) (by omega) d) λo c=>?_;exact⟨rfl,h.trans c⟩
theorem vG{A:Fr}(f:A.ok)(j:jL w v A.a)(t:Int)(O:t=0∨t=2∨t=8):CB prog 585 #[.agg #[iv (A.n:Int),v],iv t] w (.bool (jT t A)):=by
 have G:=f.1;have Y:=f.2.1;apply wV;unfold DK;have a:=bA.refl w;have p:=j;refine xC λi w1 W h d=>?_;have ac:w.heap.size<=i:=by have:=a.size;omega
 have a:=a.trans h;have j:=j.ext h
 (with_reducible refine pB ?_);refine mA (by assumption) (by first|rfl|simp) ?_
 refine aA ((m9 f j).mono ?_);rintro u R ⟨h,g⟩;have a:=a.trans h;have j:=j.ext h;have d:=d.ext h;have d:GA _ R i [iv (A.n:Int),v]:=d;refine xC λe s X h o=>?_;have J:w.heap.size<=e:=by have:=a.size;omega
 have K:i≠e:=by have:=d.lt;omega
 have M:u.ownBlock≠some e:=g.lt (by omega);have a:=a.trans h;have d:=d.ext h;have g:=g.ext h;refine QH o (by simp[Value.cells]) g.cell λy=>?_;have q:=PI.setCell s e 0 u;have a:=a.upd q J;have d:=d.upd q K;have g:=g.upd q M;have o:GA _ (s.setCell ⟨e,0,none⟩ u) e [u]:=y
 (with_reducible refine BA ?_)
 have z:∀b,bA (s.setCell ⟨e,0,none⟩ u) b->jL b v A.a/\GA _ b i [iv (A.n:Int),v]/\GA _ b e [u]/\jL b u (inv A):=λb c=>⟨p.ext (a.trans c),d.ext c,o.ext c,(g.ext c).sl⟩
 refine dA (λh=>?_) (λT=>?_)
 ·subst h
  (with_reducible refine DB (by assumption) ?_ ?_);rfl
  refine gA (AH (n:=A.n) (u:=v) (λx=>(A.a.getD x 0).testBit x) (by omega) _ ?_) λS h=>?_
  ·intro b c x r;refine lQ rfl ?_;obtain⟨B,F,_,_⟩:=z b c;refine fR ?_;show SF (iv x) (.pointer (some ⟨i,0,none⟩)) b _;unfold SF
   (with_reducible refine DB (by assumption) ?_ ?_);rfl
   refine gA (NZ f B x x r (by omega)) λw4 D=>?_;exact⟨rfl,D⟩
  ·rw[pc];exact⟨rfl,a.trans h⟩
 ·(with_reducible refine BA ?_)
  refine dA (λh=>absurd h (by omega)) (λ_=>?_)
  (with_reducible refine BA ?_)
  refine dA (λk=>?_) (λk=>?_)
  ·subst k
   (with_reducible refine pB ?_);refine mA (by assumption) (by first|rfl|simp) ?_;(with_reducible refine pB ?_);refine mA (by assumption) (by first|rfl|simp) ?_
   intro w7 h;have a:=a.trans h;refine aA ((VZ f.1 f.2.1 f.2.2 (p.ext a)).mono ?_);rintro ad w8 ⟨h,L⟩
   (try refine⟨h,?_⟩)
   have a:=a.trans h;refine eC (λb c=>iP (l:=MA (eG A.a A.n)) (l':=MA A.a) (L.ext c).sl (p.ext (a.trans c))) ?_;intro w9 h;refine⟨?_,a.trans h⟩;rw[Il f];have I:(MA (eG A.a A.n)=MA A.a)↔eG A.a A.n=A.a:=by
    constructor
    ·intro h;have k:∀m:List Nat,(MA m).map Int.toNat=m:=λm=>by rw[MA,List.map_map];exact List.map_id m
     have:=congrArg (List.map Int.toNat) h
     rwa [k,k]at this
    ·rintro h;rw[h]
   exact congrArg Value.bool (decide_eq_decide.2 I)
  ·(with_reducible refine BA ?_)
   refine dA (λh=>absurd h (by omega)) (λ_=>?_)
   (with_reducible refine BA ?_)
   refine dA (λh=>absurd h (by omega)) (λ_=>?_)
   (with_reducible refine BA ?_)
   refine dA (λh=>absurd h (by omega)) (λ_=>?_)
   (with_reducible refine BA ?_)
   refine dA (λh=>absurd h (by omega)) (λ_=>?_)
   (with_reducible refine BA ?_)
   refine dA (λh=>absurd h (by omega)) (λ_=>?_)
   (with_reducible refine BA ?_)
   refine dA (λE=>?_) (λh=>absurd O (by omega));subst E
   (with_reducible refine DB (by assumption) ?_ ?_);rfl
   refine gA (AH (n:=A.n) (u:=v) (λx=>decide (bD (A.a.getD x 0&&& xJ A.a A.n x) (2^x)=0)) (by omega) _ ?_) λS h=>?_
   ·intro b c x r;refine lQ rfl ?_;obtain⟨B,F,y,aa⟩:=z b c;have ab:(inv A).length=A.n:=by simp[inv]
    refine gR ?_;show TF (iv x) (.pointer (some ⟨i,0,none⟩)) (.pointer (some ⟨e,0,none⟩)) b _;unfold TF;have Z:=nh f x;have H:xJ A.a A.n x<2^8:=Nat.lt_of_lt_of_le (Sm _ _ _) (Nat.pow_le_pow_right (by omega) G);have V:A.a.getD x 0&&& xJ A.a A.n x<2^8:=Nat.and_lt_two_pow _ H;have U:2^x<2^8:=Nat.pow_lt_pow_right (by omega) (by omega)
    (with_reducible refine pB ?_);refine mA (by assumption) (by first|rfl|simp) ?_;(with_reducible refine tE (by assumption) ?_ (λP N=>?_));omega;(with_reducible refine DD (by assumption) ?_);refine mA (by assumption) (by first|rfl|simp) ?_;(with_reducible refine tE (by assumption) ?_ (λP N=>?_));omega;(with_reducible refine DD (by assumption) ?_)
    rw[Ct A x r];refine yc (by omega) (by omega) ?_;refine HH (by omega) ?_;refine eC (λQ _=>qW _ _ (by omega) (by omega) Q) ?_;intro ae C;exact⟨rfl,C⟩
   ·rw[Hl];exact⟨rfl,a.trans h⟩
theorem H5(c:Q9 w v G):CB prog 304 #[v] w (.agg #[iv (G.length:Int),v]):=by
 apply Ha;unfold yU;have a:=bA.refl w;refine xC λe l k h b=>?_;have f:w.heap.size<=e:=by have:=a.size;omega
 have a:=a.trans h;have c:=c.ext h;refine gA (AF c) λm h=>?_;rw[SA];have a:=a.trans h;have b:=b.ext h;obtain⟨i,j,rfl,_⟩:=id c;refine GD (cs:=#[iv (G.length:Int),.slice i (JA G).length j]) (by simp[Instr.fill,Value.cells]) ?_;refine Ac b rfl rfl (by
  intro x d;simp at d;rcases d with rfl|rfl<;>rfl) λn g b=>?_
 have a:=a.upd g f
 (with_reducible refine DB (by assumption) ?_ ?_);rfl
 exact⟨rfl,a⟩
theorem TX(b:Q9 w v G)(n:Int):CB prog 584 #[.agg #[iv n,v]] w (.agg #[iv (G.length:Int),v]):=by
 apply gZ;unfold IM;have a:=bA.refl w;refine xC λj p k h d=>?_;have a:=a.trans h;have b:=b.ext h;refine xC λf q l h c=>?_;have g:w.heap.size<=f:=by have:=a.size;omega
 have a:=a.trans h;have b:=b.ext h;have d:=d.ext h
 (with_reducible refine pB ?_);refine mA (by assumption) (by first|rfl|simp) ?_
 refine gA (H5 b) λr h=>?_;have a:=a.trans h;have c:=c.ext h;obtain⟨m,o,rfl,_⟩:=id b;refine Ac c rfl rfl (by
  intro x e;simp at e;rcases e with rfl|rfl<;>rfl) λs i c=>?_
 have a:=a.upd i g
 (with_reducible refine DB (by assumption) ?_ ?_);rfl
 exact⟨rfl,a⟩
def MO(n:Int)(l:List Int):Bool:=zK n l&&Rv (Fe n l)
theorem s9(b:Q9 w v G)(n:Int):CB prog 440 #[.agg #[iv n,v]] w (.bool (MO n G)):=by
 apply Ka;unfold BU;have a:=bA.refl w;refine xC λN H P h s=>?_;have a:=a.trans h;have b:=b.ext h;refine sB (!zK n G) H (λJ d=>?_) (λu h=>?_)
 ·(with_reducible refine pB ?_);refine mA (by assumption) (by first|rfl|simp) ?_
  refine eC (λq _=>nG _ _ _ q) ?_
  (with_reducible refine TA ?_)
  refine kB (λe=>?_) (λe=>?_)
  ·intro j c;have:=d j c;unfold zK at this;rw[Bool.not_eq_true']at e
   rwa [e,Bool.false_and,Bool.false_and]at this
  ·rw[Bool.not_eq_false']at e;have O:=of_decide_eq_true e
   (with_reducible refine pB ?_);refine mA (by assumption) (by first|rfl|simp) ?_
   refine eC (λq l=>AF (b.ext l)) ?_;rw[SA]
   (with_reducible refine pB ?_);refine mA (by assumption) (by first|rfl|simp) ?_;(with_reducible refine ZF ?_)
   refine dA (λc=>?_) (λc=>?_)
   ·intro j o;have:=d j o;unfold zK at this
    rwa [decide_eq_false c,Bool.and_false,Bool.false_and]at this
   ·have c:(G.length:Int)=n:=Decidable.not_not.1 c
    (with_reducible refine pB ?_);refine mA (by assumption) (by first|rfl|simp) ?_
    refine eC (λq l=>QZ (b.ext l)) ?_
    (with_reducible refine TA ?_)
    intro j o;have:=d j o;unfold zK at this;rw[e,decide_eq_true c,Bool.true_and,Bool.true_and]at this;have y:n.toNat=G.length:=by omega
    rw[y]at this;simp only[show G.length<=30 by omega,decide_true,Bool.true_and];exact this
 have a:=a.trans h;have b:=b.ext h;have s:=s.ext h
 (intro _;(try simp only[gx]))
 unfold MO;cases A:zK n G
 ·refine iA rfl ?_;exact⟨rfl,a⟩
 ·refine cA rfl ?_;obtain⟨k,E,B⟩:=rc A;generalize Fe n G=g at*;subst E;subst B;have p:=b;have z:=a;have a:=bA.refl u
  (with_reducible refine DB (by assumption) ?_ ?_);rfl
  refine gA (TX b _) λU h=>?_;have D:(MA g.a).length=g.n:=by rw[WA,k.2.1]
  rw[D];have a:=a.trans h;refine xC λx V Q h f=>?_;have C:u.heap.size<=x:=by have:=a.size;omega
  have a:=a.trans h;obtain⟨R,S,rfl,_⟩:=id b;refine Ac f rfl rfl (by
   intro W t;simp at t;rcases t with rfl|rfl<;>rfl) λM F f=>?_
  have a:=a.upd F C;refine sB (Rv g) M (λJ d=>?_) (λT h=>?_)
  ·(with_reducible refine DB (by assumption) ?_ ?_);rfl
   refine gA (vG k (p.ext a) 0 (.inl rfl)) λI h=>?_;have a:=a.trans h;have f:=f.ext h;have i:=h;cases m:jT 0 g
   ·refine cA rfl ?_;have:=d I i;unfold Rv at this
    rwa [m]at this
   ·refine iA rfl ?_
    (with_reducible refine DB (by assumption) ?_ ?_);rfl
    refine gA (vG k (p.ext a) 2 (.inr (.inl rfl))) λK h=>?_;have a:=a.trans h;have f:=f.ext h;have i:=i.trans h;cases r:jT 2 g
    ·refine cA rfl ?_;have:=d K i;unfold Rv at this
     rwa [m,r]at this
    ·refine iA rfl ?_
     (with_reducible refine DB (by assumption) ?_ ?_);rfl
     refine gA (vG k (p.ext a) 8 (.inr (.inr rfl))) λL h=>?_;have:=d L (i.trans h);unfold Rv at this
     rwa [m,r,Bool.true_and,Bool.true_and]at this
  ·(intro _;(try simp only[gx]))
   exact⟨rfl,z.trans (a.trans h)⟩
structure Po(f:Fr):Prop where
 ok:f.ok
 refl:∀x,x<f.n->(f.a.getD x 0).testBit x=true
 trans:∀x y z,(f.a.getD x 0).testBit y=true->(f.a.getD y 0).testBit z=true->(f.a.getD x 0).testBit z=true
 anti:∀x y,(f.a.getD x 0).testBit y=true->(f.a.getD y 0).testBit x=true->x=y
theorem jx{A:Fr}(b:A.ok)(h:Rv A=true):Po A:=by
 unfold Rv at h;rw[Bool.and_eq_true,Bool.and_eq_true]at h;obtain⟨d,a,f⟩:=h;refine⟨b,λx c=>?_,(l7 b).1 a,λx y e a=>?_⟩
 ·rw[pc,List.all_eq_true]at d;exact d x (List.mem_range.2 c)
 ·obtain⟨c,g⟩:=TW b e;have:=(SW.1 f x c).2 y g;unfold oc at this;rw[e,a]at this;simpa using this
theorem GZ(h:∀q a,q=w.heap.size/\a.heap.size=q+1->bA w a->GA u a q [.int b o]->t (.pointer (some ⟨q,0,none⟩)) a):PA (Value.cells (.int b o)) u w t:=
 xC λq a c d e=>h q a c d (by simpa[Value.cells]using e)
theorem Kl(a:nA Z W (y.toArray++#[v]) w t):TB Z (.func (.func W) #[] #[v]) y w t:=⟨t,.inl ⟨W,#[],#[v],rfl,by simpa using a⟩,λ_ _ h=>h⟩
theorem Ow.chQ(h:Ow x H w v y)(d:GA u w n J)(b:H≠u)(g:Ch (λc=>c=n) w a):Ow x H a v y:=
 h.ch g λc f e=>by subst e;exact h.ne_blk d b f
theorem GA.ne(h:GA u w x y)(k:GA H w n J)(a:u≠H):¬x=n:=λu=>by
 subst u;unfold GA at h k;rw[h]at k;injection k with k
 injection k with k h
 exact a h
theorem pt(b:∀a,V w a->CB Z W y.toArray a v)(h:z v):XF Z V (.func (.func W) #[] #[]) y w z:=
 ⟨v,λa e=>gA (b a e) λ_ x=>⟨rfl,x⟩,h⟩
theorem GA.sltZ(h:GA u w x (yA k))(a:k.length=n)(b:n<=1000):iM w (.slice (some ⟨x,0,none⟩) n n) k:=Sl.ofBlk (n:=n) h (by rw[AA,a]) (by omega)
theorem bW{a b:Fm}(H:oP x w v k)(o:oC w i a)(q:oC w U b)(m:fT Y= .imp a b)(E:a.good)(S:b.good)(hp:a.plain=true)(hn:(Fm.imp a b).size<=1000000)(hl:k.length<=549755813888):
  nA prog 711 #[.agg #[v,sv s],sv Y,i,U] w λu e=>bA w e/\ ∃aj,u= .tuple #[aj,.bool (cC k s Y).2]/\((cC k s Y).2=true->Eg e aj (cC k s Y).1):=by
 apply qX;unfold ML;refine iC λce w1 hq l D=>?_;refine eB (j:=0) (o.ext l) rfl a.size_pos (by decide) (rA o).1 ?_;have cc:=a.size_pos;have cd:=b.size_pos;have ai:∀{e:World} {u:Value} {c:Fm} {R:Nat} {m:TypeId},GA m e R [u,sv s]->oP 0 e u (ins k Y [c.body])->Eg e (.slice (some ⟨R,0,none⟩) 1 1) [(ins k Y [c.body],s)]:=λaa ba=>Eg.one (p:=(_,s)) aa ba;cases a with
 |box a=>cases hp
 |dia a=>cases hp
 |imp a c=>
  refine BA (cA rfl (BA (cA rfl (BA (cA rfl (BA (cA rfl ?_)))))));have h:cC k s Y=([],false):=by unfold cC;rw[m]
  rw[h];exact⟨l,_,rfl,λaa=>by cases aa⟩
 |fls=>
  refine BA (iA rfl ?_);have h:cC k s Y=([(ins k Y [],s)],true):=by unfold cC;rw[m]
  rw[h];refine aP D ?_;refine aA ((aB (lo':=0) (ts:=[]) (H.ext l) (Ow.nil _ _ _) (by simp only[List.length_nil];omega)).mono ?_);rintro u w2 ⟨x2,v',rfl,r⟩;refine PX λR w3 bz x3 au=>?_;exact⟨(l.trans x2).trans x3,_,rfl,λ_=>Eg.one (p:=(ins k Y [],s)) au (r.ext x3)⟩
 |var p=>
  refine BA (cA rfl (BA (iA rfl ?_)));have h:cC k s Y=([(ins k Y [b.body],s)],decide ((Fm.var p).body∈k)):=by unfold cC;rw[m]
  rw[h];refine aP D ?_;simp only[Fm.size]at hn;refine eC (λe g=>aC ((q.ext l).ext g) S (by omega)) ?_;refine pB (mA D rfl ?_);intro w4 x4;refine fF rfl rfl λR w5 ca x5 av=>⟨x5,λw6 x6=>?_⟩
  have X6:=l.trans (x4.trans (x5.trans x6));refine aA ((aB (ts:=[b.body]) (H.ext X6) (Ow.ofBlk (n:=1) (av.ext x6) (Nat.zero_le _) rfl (by decide)) (by simp only[List.length_singleton];omega)).mono ?_);rintro u w7 ⟨x7,v',rfl,r⟩;refine⟨x7,?_⟩;have Z:=X6.trans x7;refine eC (λe g=>aC (f:=.var p) ((o.ext Z).ext g) E (by simp[Fm.size])) ?_;refine eC (λe g=>fD ((H.ext Z).ext g).sl) ?_;intro w8 x8;refine PX λb2 w9 cb x9 aw=>⟨x9,λcg ak=>?_⟩
  have y:=(x8.trans x9).trans ak;exact⟨Z.trans y,_,rfl,λ_=>ai (aw.ext ak) ((r.ext y).mono (Nat.zero_le _))⟩
 |and c d=>
  refine BA (cA rfl (BA (cA rfl (BA (iA rfl ?_)))));have h:cC k s Y=([(ins k Y [(Fm.imp c (.imp d b)).body],s)],true):=by unfold cC;rw[m]
  rw[h];refine aP D ?_;simp only[Fm.size]at hn;intro bc ae;have A:=l.trans ae;refine aA ((OA (f:=.and c d) (o.ext A) rfl (by simp only[Fm.size];omega)).mono ?_);rintro u1 bd ⟨I,F⟩;refine⟨I,λbe J=>?_⟩;have P:=(A.trans I).trans J;refine aA ((gB (f:=.and c d) (o.ext P) rfl (by simp only[Fm.size];omega)).mono ?_);rintro u2 bg ⟨t,G⟩;refine⟨t,λbh z=>?_⟩;have Q:=(P.trans t).trans z;refine Hw rfl (rB.cellOk F) (rB.cellOk G) (rB.cellOk q) λb1 bi bw K aq=>⟨K,λbj T=>?_⟩
  have ag:=K.trans T;have B:=Q.trans ag;refine aA ((Qc (Sl.ofBlk (n:=3) (aq.ext T) rfl (by decide)) (F.ext ((J.trans (t.trans z)).trans ag)) (G.ext (z.trans ag)) (q.ext B) (by simp only[Fm.size];omega)).mono ?_);rintro u3 bk ⟨L,ad⟩;refine⟨L,?_⟩;refine eC (λe g=>aC (f:=.imp c (.imp d b)) (dB.sl (dB.ext ad g)) ⟨E.1,E.2,S⟩ (by simp only[Fm.size];omega)) ?_;intro bl V;refine fF rfl rfl λb2 bm ax M ab=>⟨M,λbn N=>?_⟩
  have C:=(B.trans L).trans (V.trans (M.trans N));refine aA ((aB (ts:=[(Fm.imp c (.imp d b)).body]) (H.ext C) (Ow.ofBlk (n:=1) (ab.ext N) (Nat.zero_le _) rfl (by decide)) (by simp only[List.length_singleton];omega)).mono ?_);rintro u bo ⟨W,v',rfl,r⟩;intro bp af;refine PX λb3 bq ay X ac=>λbr O=>?_;have y:=(af.trans X).trans O;exact⟨(C.trans W).trans y,_,rfl,λ_=>ai (ac.ext O) ((r.ext y).mono (Nat.zero_le _))⟩
 |or c d=>
  refine BA (cA rfl (BA (cA rfl (BA (cA rfl (BA (iA rfl ?_)))))));have h:cC k s Y=([(ins k Y [(Fm.imp c b).body,(Fm.imp d b).body],s)],true):=by unfold cC;rw[m]
  rw[h];refine aP D ?_;simp only[Fm.size]at hn;intro bc ae;have A:=l.trans ae;refine aA ((OA (f:=.or c d) (o.ext A) rfl (by simp only[Fm.size];omega)).mono ?_);rintro u1 bd ⟨I,F⟩;refine⟨I,λbe J=>?_⟩;have P:=(A.trans I).trans J;refine Z8 rfl (rB.cellOk F) (rB.cellOk q) λb1 bg bv t ap=>⟨t,λbh z=>?_⟩
  have am:=t.trans z;have Q:=P.trans am;refine aA ((wN (a:=c) (b:=b) (Sl.ofBlk (n:=2) (ap.ext z) rfl (by decide)) (F.ext (J.trans am)) (q.ext Q) (by simp only[Fm.size];omega)).mono ?_);rintro u3 bi ⟨K,ad⟩;refine⟨K,?_⟩;refine eC (λe g=>aC (f:=.imp c b) (dB.sl (dB.ext ad g)) ⟨E.1,S⟩ (by simp only[Fm.size];omega)) ?_;intro bj T;have B:=Q.trans (K.trans T);refine aA ((gB (f:=.or c d) (o.ext B) rfl (by simp only[Fm.size];omega)).mono ?_);rintro u2 bk ⟨L,G⟩;refine⟨L,λbl V=>?_⟩;have ao:=(B.trans L).trans V;refine Z8 rfl (rB.cellOk G) (rB.cellOk q) λb2 bm ax M ab=>⟨M,λbn N=>?_⟩
  have an:=M.trans N;have C:=ao.trans an;refine aA ((wN (a:=d) (b:=b) (Sl.ofBlk (n:=2) (ab.ext N) rfl (by decide)) (G.ext (V.trans an)) (q.ext C) (by simp only[Fm.size];omega)).mono ?_);rintro u4 bo ⟨W,az⟩;refine⟨W,?_⟩;refine eC (λe g=>aC (f:=.imp d b) (dB.sl (dB.ext az g)) ⟨E.2,S⟩ (by simp only[Fm.size];omega)) ?_;intro bp af;refine Z8 rfl rfl rfl λb3 bq ay X ac=>⟨X,λbr O=>?_⟩
  have ah:=(C.trans W).trans (af.trans (X.trans O));refine aA ((aB (ts:=[(Fm.imp c b).body,(Fm.imp d b).body]) (H.ext ah) (Ow.ofBlk (n:=2) (ac.ext O) (Nat.zero_le _) rfl (by decide)) (by simp only[List.length_cons,List.length_nil];omega)).mono ?_);rintro u ch ⟨bs,v',rfl,r⟩;intro ci bt;refine PX λb4 cj bx bu ar=>λck al=>?_;have y:=(bt.trans bu).trans al;exact⟨(ah.trans bs).trans y,_,rfl,λ_=>Eg.one (p:=(_,s)) (ar.ext al) ((r.ext y).mono (Nat.zero_le _))⟩
theorem PZ{L:List jA}(y:oP x w v L)(F:oC w i (fT Y))(U:(fT Y).good)(H:(fT Y).plain=true)(hn:(fT Y).size<=1000000)(hl:L.length<=549755813888):
  nA prog 657 #[.agg #[v,sv s],sv Y,i] w λu k=>bA w k/\ ∃V,u= .tuple #[V,.bool (cC L s Y).2]/\((cC L s Y).2=true->Eg k V (cC L s Y).1):=by
 apply i1;unfold UN;refine iC λq w1 hq x1 E=>?_;refine aA ((fJ (F.ext x1) U (by omega)).mono ?_);rintro u w2 ⟨x2,N⟩;have B:=x1.trans x2;have E:=E.ext x2;refine eB (j:=0) (F.ext B) rfl (fT Y).size_pos (by decide) (rA F).1 ?_;cases e:fT Y with
 |box a=>rw[e]at H;cases H
 |dia a=>rw[e]at H;cases H
 |var p=>
  refine BA (cA rfl (BA (cA rfl (BA (cA rfl ?_)))));have C:cC L s Y=([],false):=by unfold cC;rw[e]
  rw[C];exact⟨B,_,rfl,λr=>by cases r⟩
 |fls=>
  refine BA (cA rfl (BA (cA rfl (BA (cA rfl ?_)))));have C:cC L s Y=([],false):=by unfold cC;rw[e]
  rw[C];exact⟨B,_,rfl,λr=>by cases r⟩
 |and a b=>
  rw[e]at N;refine BA (iA rfl ?_);have C:cC L s Y=([(ins L Y [a.body,b.body],s)],true):=by unfold cC;rw[e]
  rw[C];refine aP E ?_;refine aA ((aB (ts:=[a.body,b.body]) (y.ext B) N (by simp only[List.length_cons,List.length_nil];omega)).mono ?_);rintro u w3 ⟨x3,v',rfl,ao⟩;refine PX λb4 w4 ax S al=>?_;exact⟨(B.trans x3).trans S,_,rfl,λ_=>Eg.one (p:=(_,s)) al (ao.ext S)⟩
 |imp a b=>
  refine BA (cA rfl (BA (cA rfl (BA (iA rfl ?_)))));refine aP E ?_;rw[e]at U H hn F;intro w3 x3;have X3:=B.trans x3;refine aA ((OA (f:=.imp a b) (F.ext X3) rfl (by omega)).mono ?_);rintro u1 w4 ⟨S,aq⟩;refine⟨S,λw5 W=>?_⟩;have D:=(X3.trans S).trans W;refine aA ((gB (f:=.imp a b) (F.ext D) rfl (by omega)).mono ?_);rintro u2 w6 ⟨o,ar⟩;refine⟨o,λw7 g=>?_⟩;have J:=(D.trans o).trans g;refine aA ((bW (y.ext J) (aq.ext ((W.trans o).trans g)) (ar.ext g) e U.1 U.2 (RD H).1 hn hl).mono ?_);rintro u3 w8 ⟨c,V,rfl,hx⟩;refine lD (mD ?_);intro w9 d;exact⟨(J.trans c).trans d,V,rfl,λr=>(hx r).ext d⟩
 |or a b=>
  rw[e]at N;refine BA (cA rfl (BA (iA rfl ?_)));have C:cC L s Y=([(ins L Y [a.body],s),(ins L Y [b.body],s)],true):=by unfold cC;rw[e]
  rw[C];refine aP E ?_;refine mH (L:=[a.body,b.body]) N.sl (j:=0) rfl (by simp) ?_;refine aP E ?_;refine mH (L:=[a.body,b.body]) N.sl (j:=1) rfl (by simp) ?_;show∀w5,bA w2 w5->_;have X:∀{k:World} {u1 u2:Value} {bb:Nat} {e:TypeId},GA e k bb [u1,sv s,u2,sv s]->oP 0 k u1 (ins L Y [a.body])->oP 0 k u2 (ins L Y [b.body])->Eg k (.slice (some ⟨bb,0,none⟩) 2 2) [(ins L Y [a.body],s),(ins L Y [b.body],s)]:=λr au av=>Eg.two (p:=(_,s)) (q:=(_,s)) r au av;have I:∀{k:World} {e:Nat} {P:jA},GA fA k e [sv P]->oP 0 k (.slice (some ⟨e,0,none⟩) 1 1) [P]:=λr=>Ow.ofBlk (n:=1) r (Nat.zero_le _) rfl (by decide);have G:∀P:jA,L.length+[P].length<=1099511627776:=λP=>by simp only[List.length_singleton];omega
  intro w5 W;have D:=B.trans W;refine⟨?_,?_⟩
  ·refine fF rfl rfl λb1 w6 am o T=>⟨o,λw7 g=>⟨?_,?_⟩⟩
   ·have J:=D.trans (o.trans g);refine aA ((aB (ts:=[a.body]) (y.ext J) (I (T.ext g)) (G _)).mono ?_);rintro u w8 ⟨c,v',rfl,ap⟩;refine⟨c,λw9 d=>?_⟩;refine fF rfl rfl λb2 ad aw l ak=>⟨l,λae m=>?_⟩
    have aj:=(d.trans l).trans m;have t:=(J.trans c).trans aj;refine aA ((aB (ts:=[b.body]) (y.ext t) (I (ak.ext m)) (G _)).mono ?_);rintro u af ⟨z,ac,rfl,O⟩;intro ag Q;refine Mm λb3 ah ab R M=>λai A=>?_;have h:=(Q.trans R).trans A;exact⟨(t.trans z).trans h,_,rfl,λ_=>X (M.ext A) ((ap.ext ((aj.trans z).trans h)).mono (Nat.zero_le _)) ((O.ext h).mono (Nat.zero_le _))⟩
   ·refine fF rfl rfl λb2 w8 an c Z=>⟨c,λw9 d=>?_⟩
    have K:=(D.trans (o.trans g)).trans (c.trans d);refine aA ((aB (ts:=[a.body]) (y.ext K) (I (T.ext (g.trans (c.trans d)))) (G _)).mono ?_);rintro u ad ⟨l,v',rfl,aa⟩;refine⟨l,λae m=>?_⟩;have t:=(K.trans l).trans m;refine aA ((aB (ts:=[b.body]) (y.ext t) (I (Z.ext (d.trans (l.trans m)))) (G _)).mono ?_);rintro u af ⟨z,ac,rfl,O⟩;intro ag Q;refine Mm λb3 ah ab R M=>λai A=>?_;have h:=(Q.trans R).trans A;exact⟨(t.trans z).trans h,_,rfl,λ_=>X (M.ext A) ((aa.ext ((m.trans z).trans h)).mono (Nat.zero_le _)) ((O.ext h).mono (Nat.zero_le _))⟩
  ·refine fF rfl rfl λb1 w6 am o T=>⟨o,λw7 g=>?_⟩
   refine fF rfl rfl λb2 w8 an c Z=>⟨c,λw9 d=>?_⟩
   have K:=(D.trans (o.trans g)).trans (c.trans d);refine aA ((aB (ts:=[a.body]) (y.ext K) (I (Z.ext d)) (G _)).mono ?_);rintro u ad ⟨l,v',rfl,aa⟩;refine⟨l,λae m=>?_⟩;have t:=(K.trans l).trans m;refine aA ((aB (ts:=[b.body]) (y.ext t) (I (T.ext (g.trans ((c.trans d).trans (l.trans m))))) (G _)).mono ?_);rintro u af ⟨z,ac,rfl,O⟩;intro ag Q;refine Mm λb3 ah ab R M=>λai A=>?_;have h:=(Q.trans R).trans A;exact⟨(t.trans z).trans h,_,rfl,λ_=>X (M.ext A) ((aa.ext ((m.trans z).trans h)).mono (Nat.zero_le _)) ((O.ext h).mono (Nat.zero_le _))⟩
end Go.Proofs.YtoojmhgpadkhmaaGreatDoor
