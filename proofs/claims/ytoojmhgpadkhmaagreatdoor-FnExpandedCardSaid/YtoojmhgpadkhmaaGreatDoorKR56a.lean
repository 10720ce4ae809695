/- The proof of FnExpandedCard, part 1 of 7. Conditions: none. -/
import Derived.Scope
import Derived.Still
import Derived.Below
import Derived.KernelRfl
import Derived.Deep.LoopGhost
import Derived.Laws.AppendOwn
import Derived.Laws.OwnMore
import Derived.Laws.MakeOwn
import Derived.IntWalk
import Derived.Maps.AppendAt
import Derived.Test.YtoojmhgpadkhmaaGreatDoorRows
namespace Go.Proofs.YtoojmhgpadkhmaaGreatDoor
open Go.RowKit (Below)
open Go.Proofs.Tryz(prog)
variable{w a:World}{v i U:Value}{x n f C:Nat}{y J:List Value}{z:Value->Prop}{u H:TypeId}{t:Value->World->Prop}{m:List Nat}{b:IntKind}{c:Exit->Act->World->Prop}{g:Nat->Prop}{h:Array Value}{l:World->Prop}{o:Int}{L:Act->World->Prop}{K:Bool}{G:List Int}{M:Act}{S:List Value->World->Prop}{V:World->World->Prop}{W:FuncId}{X:(List Value->World->Prop)->Prop}{Z:Program}{D:Oper}{F:Value->Option (Option Bool)->Prop}{I:Option (Option Bool)}{O:Array Oper}
def bA(w a:World):Prop:=Below w.heap.size w a
theorem bA.refl(w:World):bA w w:=Below.refl _ _
theorem bA.trans{b:World}(h:bA a b)(k:bA b w):bA a w:=Below.trans h (Below.mono k h.size)
theorem bA.size(h:bA w a):w.heap.size<=a.heap.size:=Below.size h
theorem bA.cell(h:bA w a){p:Addr}(b:w.cell? p=some v):a.cell? p=some v:=by
 rw[Below.cell h (World.block_lt_of_cell? w p b)];exact b
theorem bA.alloc(w:World)(o:Obj):bA w (w.alloc o):=Below.alloc (Below.refl _ _) (Nat.le_refl _) o
theorem bA.drew(w:World):bA w w.drew:=Below.drew (Below.refl _ _)
structure En where
 s:Nat
 v:Value
 k:Option (Option Bool)
abbrev dE:=List En
def wF:dE->Nat->Value
 |[],_=>undef
 |e::r,n=>bif Nat.beq e.s n then e.v else wF r n
def M2:dE->Nat->Option (Option Bool)
 |[],_=>none
 |e::r,n=>bif Nat.beq e.s n then e.k else M2 r n
def ev(a:dE):Operand->Value
 | .tmp t=>wF a t
 | .const v=>v
 | .global g=>.pointer (some ⟨g,0,none⟩)
 | .func f=>.func (.func f) #[] #[]
def kv:Option Bool->Value
 |some b=>.bool b
 |none=>undef
def Gp(a:dE):Operand->Option (Option Bool)
 | .tmp t=>M2 a t
 | .const (.bool b)=>some (some b)
 |_=>none
def Wj(a:dE):Option Operand->Option Value
 |none=>none
 |some x=>some (ev a x)
def NN(a:dE):Prop:=∀s x,M2 a s=some x->wF a s=kv x
def wx(c a b:Value)(K:Value->Prop):Prop:=∃t,c= .bool t/\K (if t then a else b)
def Nu:Value->Prop
 | .pointer (some _)=>True
 | .func (.func _) _ _=>True
 |_=>False
def IA(x:Value)(K:Value->Prop):Prop:=Nu x/\K x
def kA(w:World)(x:Value)(K:Value->Prop):Prop:=∃a v,x= .pointer (some a)/\w.cell? a=some v/\K v
def HA(w:World)(n:Nat)(x:Value)(K:Value->Prop):Prop:=∃b a,x= .pointer (some b)/\a.size=n/\(∀i,i<n->w.cell? (b.add i)=a[i]?)/\K (.agg a)
def FA(b:Nat)(x:Value)(K:Value->Prop):Prop:=∃a,x= .pointer (some a)/\K (.pointer (some (a.add b)))
def jy(b:Nat)(x:Value)(K:Value->Prop):Prop:=∃a v,x= .agg a/\a[b]?=some v/\K v
def Lx(b n:Nat)(x:Value)(K:Value->Prop):Prop:=∃a,x= .agg a/\K (.agg (a.extract b (b+n)))
def wA(b:Nat)(x i:Value)(K:Value->Prop):Prop:=∃a n c k j,x= .slice (some a) n c/\i= .int k j/\0<=j/\j<n/\K (.pointer (some (a.add (j.toNat*b))))
def Ox(b c:Nat)(x i:Value)(K:Value->Prop):Prop:=∃a k j,x= .pointer (some a)/\i= .int k j/\0<=j/\j<b/\K (.pointer (some (a.add (j.toNat*c))))
def sm(x i:Value)(K:Value->Prop):Prop:=∃s k j b,x= .string s/\i= .int k j/\0<=j/\s[j.toNat]?=some b/\K (.int .u8 (b.toNat:Nat))
def oA(k:IntKind)(x y:Value)(K:Value->Prop):Prop:=∃a b,x= .int k a/\y= .int k b/\K (.int k (k.wrap (a+b)))
def KB(k:IntKind)(x y:Value)(K:Value->Prop):Prop:=∃a b,x= .int k a/\y= .int k b/\K (.int k (k.wrap (a-b)))
def iY(k:IntKind)(x y:Value)(K:Value->Prop):Prop:=∃a b,x= .int k a/\y= .int k b/\K (.int k (k.wrap (a*b)))
def O6(k:IntKind)(x y:Value)(K:Value->Prop):Prop:=∃a b,x= .int k a/\y= .int k b/\b≠0/\K (.int k (k.wrap (a.tdiv b)))
def Fi(k:IntKind)(x y:Value)(K:Value->Prop):Prop:=∃a b,x= .int k a/\y= .int k b/\b≠0/\K (.int k (a.tmod b))
def bK(k:IntKind)(a b:Int):Int:=k.wrap ((BitVec.ofInt k.bits a&&& BitVec.ofInt k.bits b).toNat:Nat)
def g4(k:IntKind)(a b:Int):Int:=k.wrap ((BitVec.ofInt k.bits a|||BitVec.ofInt k.bits b).toNat:Nat)
def Vq(k:IntKind)(a b:Int):Int:=k.wrap ((BitVec.ofInt k.bits a^^^BitVec.ofInt k.bits b).toNat:Nat)
def zG(k:IntKind)(a b:Int):Int:=k.wrap ((BitVec.ofInt k.bits a&&& ~~~ BitVec.ofInt k.bits b).toNat:Nat)
def cK(k:IntKind)(a b:Int):Int:=k.wrap (a*2^min b.toNat k.bits)
def uM(k:IntKind)(a b:Int):Int:=a.fdiv (2^min b.toNat k.bits)
def OB(f:IntKind->Int->Int->Int)(k:IntKind)(x y:Value)(K:Value->Prop):Prop:=∃a b,x= .int k a/\y= .int k b/\K (.int k (f k a b))
def qU(f:IntKind->Int->Int->Int)(k:IntKind)(x y:Value)(K:Value->Prop):Prop:=∃a c b,x= .int k a/\y= .int c b/\0<=b/\K (.int k (f k a b))
def BB(k:IntKind)(x y:Value)(K:Value->Prop):Prop:=∃a b,x= .int k a/\y= .int k b/\K (.bool (decide (a=b)))
def zI(k:IntKind)(x y:Value)(K:Value->Prop):Prop:=∃a b,x= .int k a/\y= .int k b/\K (.bool (decide (¬a=b)))
def lB(k:IntKind)(x y:Value)(K:Value->Prop):Prop:=∃a b,x= .int k a/\y= .int k b/\K (.bool (decide (a<b)))
def hH(k:IntKind)(x y:Value)(K:Value->Prop):Prop:=∃a b,x= .int k a/\y= .int k b/\K (.bool (decide (a<=b)))
def TE(p:Bool)(x y:Value)(K:Value->Prop):Prop:=∃a b,x= .bool a/\y= .bool b/\K (.bool (p==(a==b)))
def xA(c:BinOp)(x y:Value)(K:Value->Prop):Prop:=∃a b v,x= .string a/\y= .string b/\Op.stringOp c a b= .pure v/\K v
def Gc:Value->Bool
 | .slice none _ _=>true
 |_=>false
def Ov:Value->Prop
 | .slice _ _ _=>True
 |_=>False
def zg(p:Bool)(x y:Value)(K:Value->Prop):Prop:=Ov x/\y= .slice none 0 0/\K (.bool (p==Gc x))
def VA(x:Value)(K:Value->Prop):Prop:=∃b,x= .bool b/\K (.bool (!b))
def QF(k:IntKind)(x:Value)(K:Value->Prop):Prop:=∃b a,x= .int b a/\K (.int k (k.wrap a))
def nv(d:Nat)(r:Nat):Option Value->Prop
 |none=>r=d
 |some v=>∃k,v= .int k (r:Int)
def qP(e:Nat)(x:Value)(d b:Option Value)(K:Value->Prop):Prop:=
 ∃a n c l h,x= .slice a n c/\nv n h b/\nv 0 l d/\l<=h/\h<=c/\K (.slice (if c=l then a else a.map (·.add (l*e))) (h-l) (c-l))
def yM(x:Value)(b a:Option Value)(K:Value->Prop):Prop:=
 ∃s l h,x= .string s/\nv s.size h a/\nv 0 l b/\l<=h/\h<=s.size/\K (.string (s.extract l h))
def YA(x:Value)(i:Nat)(K:Value->Prop):Prop:=∃a v,x= .tuple a/\a[i]?=some v/\K v
def zB(z:Array Value)(a:Array (Nat×Nat))(b:List (Nat×Value))(K:Value->Prop):Prop:=∃cs,Instr.fill (a[·]?) z b=some cs/\K (.agg cs)
def lA(x:Value)(K:Value->Prop):Prop:=∃a n c,x= .slice a n c/\K (.int .i64 (n:Nat))
def rD(x:Value)(K:Value->Prop):Prop:=∃s,x= .string s/\K (.int .i64 (s.size:Nat))
def Px(x y:Value)(K:Value->Prop):Prop:=∃k a c b,x= .int k a/\y= .int c b/\K (.int k (if b>a then b else a))
def mw(x y:Value)(K:Value->Prop):Prop:=∃k a c b,x= .int k a/\y= .int c b/\K (.int k (if b<a then b else a))
def xR(P:Program)(w:World)(s:Sem Value)(K:Value->Prop):Prop:=∃v,(∀a,bA w a->s.run P a= .ok v a)/\K v
def PA(a:Array Value)(e:TypeId)(w:World)(K:Value->World->Prop):Prop:=K (.pointer (some ⟨w.heap.size,0,none⟩)) (w.alloc (.cells a e))
def vA:Value->Bool
 | .agg _| .tuple _=>false
 |_=>true
def KC(w:World)(b v:Value)(K:World->Prop):Prop:=∃a c,b= .pointer (some a)/\w.cell? a=some c/\w.frozen? a=false/\vA v=true/\K (w.setCell a v)
def sD(P:Program)(w:World)(n:Nat)(c v:Value)(K:World->Prop):Prop:=
 ∃a b,c= .pointer (some a)/\v.cells.size=n/\(storeCells a v.cells.toList).run P w= .ok () b/\K b
def tu(e:TypeId)(z:Array Value)(g c:Nat)(l d:Value)(w:World)(K:Value->World->Prop):Prop:=
 ∃k f b a,l= .int k (b:Nat)/\d= .int f (a:Nat)/\b<=a/\(a:Int)<=9223372036854775807/\(c:Int)*a<=2^48/\
  K (.slice (some ⟨w.heap.size,0,none⟩) b a) (w.alloc (.cells ((Array.range (a*g)).map (λi=>z[i%z.size]!)) e))
def xB(e:TypeId)(z:Array Value)(a n:Nat)(c:List (Nat×Value))(w:World)(K:Value->World->Prop):Prop:=
 ∃b,Instr.fill (λi=>some (i*a,a)) ((Array.range (n*a)).map (λi=>z[i%z.size]!)) c=some b/\
  K (.slice (some ⟨w.heap.size,0,none⟩) n n) (w.alloc (.cells b e))
def nD(P:Program)(s:Sem Value)(w:World)(K:Value->World->Prop):Prop:=∃v a,s.run P w= .ok v a/\K v a
def Bs(P:Program)(s:Sem Unit)(w:World)(K:World->Prop):Prop:=∃a,s.run P w= .ok () a/\K a
def Mp(P:Program)(f:FuncId):Prop:= ∃a,P.funcs[f]?=some a/\(a.name== "runtime.NumGoroutine")=false/\a.body.isNone=false
def nA(P:Program)(f:FuncId)(a:Array Value)(w:World)(R:Value->World->Prop):Prop:=
 Mp P f/\Calls P f a w λe b=>∃v,e= .returned v/\R v b
def Aw(P:Program)(c:Value)(b:List Value)(w:World)(T:Value->World->Prop):Prop:=
 (∃f first a,c= .func (.func f) first a/\nA P f (first++b.toArray++a) w T)∨
 ∃f first a v,c= .func (.func f) first a/\(callFunc f (first++b.toArray++a)).run P w= .ok (.value v) w/\T v w
def TB(P:Program)(c:Value)(b:List Value)(w:World)(R:Value->World->Prop):Prop:=∃T,Aw P c b w T/\ ∀v a,T v a->R v a
def mq(P:Program)(c:Value)(b:List Value)(w:World)(K:Value->Prop):Prop:=
 ∃v,(∀a,bA w a->TB P c b a λd e=>d=v/\bA a e)/\K v
theorem nA.mono{R:Value->World->Prop}(a:nA Z W h w R)(c:∀v w',R v w'->t v w'):nA Z W h w t:=
 ⟨a.1,a.2.mono λ_ _ ⟨v,b,hR⟩=>⟨v,b,c _ _ hR⟩⟩
theorem TB.mono{R:Value->World->Prop}(h:TB Z v y w R)(e:∀a b,R a b->t a b):TB Z v y w t:=
 let⟨T,c,d⟩:=h;⟨T,c,λa b f=>e a b (d a b f)⟩
def eA(v:Value)(A B:Prop):Prop:=∃b,v= .bool b/\(b=true->A)/\(b=false->B)
def gx:List Value->Nat->Value
 |[],_=>undef
 |x::_,0=>x
 |_::r,i+1=>gx r i
theorem Cu:∀(a:List Value) (i:Nat),gx a i=a.getD i undef
 |[],_=>rfl
 |_::_,0=>rfl
 |_::r,i+1=>by simpa[gx]using Cu r i
def jn(F:(List Value->World->Prop)->Prop)(K:List Value->World->Prop):Prop:=F K
def lp(c:(List Value->World->Prop)->List Value->World->Prop)(g:List Value)(e:World):Prop:=
 ∃I:Nat->List Value->World->Prop,(∃m,I m g e)/\ ∀m b w,I m b w->c (λf d=>∃a,a<m/\I a f d) b w
def VV(P:Program)(t:TypeId):Option Bool:=
 match P.underlying t with
 |some (.struct _)=>some true
 |some (.array _ _)=>some true
 |some _=>some false
 |none=>none
def Yw(a:BinOp)(k:IntKind)(x y:Value)(K:Value->Prop):Prop:=
 match a with
 | .add=>oA k x y K
 | .sub=>KB k x y K
 | .mul=>iY k x y K
 | .quo=>O6 k x y K
 | .rem=>Fi k x y K
 | .and=>OB bK k x y K
 | .or=>OB g4 k x y K
 | .xor=>OB Vq k x y K
 | .andNot=>OB zG k x y K
 | .shl=>qU cK k x y K
 | .shr=>qU uM k x y K
 | .eql=>BB k x y K
 | .neq=>zI k x y K
 | .lss=>lB k x y K
 | .leq=>hH k x y K
 | .gtr=>lB k y x K
 | .geq=>hH k y x K
def Ns(P:Program)(w:World)(a:BinOp)(t:TypeId)(b c:Operand)(x y:Value)(K:Value->Prop):Prop:=
 match P.underlying t with
 |some (.int k)=>Yw a k x y K
 |some .bool=>(match a with| .eql=>TE true x y K| .neq=>TE false x y K|_=>False)
 |some .string=>xA a x y K
 |some (.slice _)=>(match a with| .eql=>zg true x y K| .neq=>zg false x y K|_=>False)
 |some _=>xR P w (do eqGuard a t b c x y;binOp a t x y) K
 |none=>False
def Mu(P:Program)(w:World)(t:TypeId)(x:Value)(K:Value->Prop):Prop:=
 match VV P t,P.info? t with
 |some true,some i=>HA w i.size x K
 |some false,_=>kA w x K
 |_,_=>False
def Ts(P:Program)(s:TypeId)(f:Nat)(K:Nat->Nat->Bool->Prop):Prop:=
 match P.underlying s with
 |some (.struct fs)=>(match fs[f]? with
  |some fl=>(match P.info? fl.type,VV P fl.type with
   |some i,some g=>if Nat.beq i.size 0 then False else K fl.offset i.size g
   |_,_=>False)
  |none=>False)
 |_=>False
def Zb(P:Program)(t:TypeId)(S A:Nat->Nat->Prop)(T:Prop):Prop:=
 match P.underlying t with
 |some (.slice e)=>(match P.info? e with|some i=>S i.size i.bytes|none=>False)
 |some (.array len e)=>(match P.info? e with|some i=>A len i.size|none=>False)
 |some .string=>T
 |_=>False
def BW(P:Program):List Field->Option (List (Nat×Nat))
 |[]=>some []
 |f::r=>match P.info? f.type,BW P r with
  |some i,some l=>some ((f.offset,i.size)::l)
  |_,_=>none
def G3(a:dE)(b:Array (Nat×Operand)):List (Nat×Value):=b.toList.map λp=>(p.1,ev a p.2)
def Y8(a:dE)(l:Array Operand):List Value:=l.toList.map (ev a)
def KZ(o:Oper):Bool:=
 match o.op with
 | .move _| .assign _| .pick .. | .load .. | .nilCheck _| .binOp .. | .unOp .. | .convert .. | .makeFunc .. | .slice .. | .fieldAddr .. | .field .. | .indexAddr .. | .index .. | .extract .. | .build .. | .lookup ..=>true
 | .call c=>(match c.callee with| .builtin .len| .builtin .cap| .builtin .max| .builtin .min=>true|_=>false)
 |_=>false
def FH(P:Program)(o:Oper)(e:dE)(w:World)(K:Value->Option (Option Bool)->Prop):Prop:=
 match o.op with
 | .move x=>K (ev e x) (Gp e x)
 | .assign x=>K (ev e x) (Gp e x)
 | .pick c a b=>(match Gp e c with
  |some (some t)=>K (ev e (bif t then a else b)) (Gp e (bif t then a else b))
  |some none=>False
  |none=>wx (ev e c) (ev e a) (ev e b) λv=>K v none)
 | .load t a=>Mu P w t (ev e a) λv=>K v none
 | .nilCheck x=>IA (ev e x) λv=>K v none
 | .binOp op t x y _=>Ns P w op t x y (ev e x) (ev e y) λv=>K v none
 | .unOp op _ x=>(match op with
  | .not=>(match Gp e x with|some (some b)=>K (.bool !b) (some (some !b))|some none=>False|none=>VA (ev e x) λv=>K v none)
  | .neg=>xR P w (Op.unary .neg (ev e x)) λv=>K v none
  | .xor=>xR P w (Op.unary .xor (ev e x)) λv=>K v none
  | .plus=>False)
 | .convert s d x=>(match P.underlying s,P.underlying d with
  |some (.int _),some (.int k)=>QF k (ev e x) λv=>K v none
  |_,_=>xR P w (convert s d (ev e x)) λv=>K v none)
 | .makeFunc fn first cap=>K (.func fn (Y8 e first).toArray (Y8 e cap).toArray) none
 | .slice t x lo hi mx=>(match mx with
  |none=>Zb P t (λg _=>qP g (ev e x) (Wj e lo) (Wj e hi) λv=>K v none) (λ_ _=>xR P w (Instr.sliceAt t (ev e x) (Wj e lo) (Wj e hi) none) λv=>K v none) (yM (ev e x) (Wj e lo) (Wj e hi) λv=>K v none)
  |some _=>xR P w (Instr.sliceAt t (ev e x) (Wj e lo) (Wj e hi) (Wj e mx)) λv=>K v none)
 | .fieldAddr s x f=>Ts P s f λh _ _=>FA h (ev e x) λv=>K v none
 | .field s x f=>Ts P s f λh n j=>bif j then Lx h n (ev e x) λv=>K v none else jy h (ev e x) λv=>K v none
 | .indexAddr t x i=>Zb P t (λg _=>wA g (ev e x) (ev e i) λv=>K v none) (λm g=>Ox m g (ev e x) (ev e i) λv=>K v none) False
 | .index t x i=>Zb P t (λ_ _=>False) (λ_ _=>xR P w (Instr.index t (ev e x) (ev e i)) λv=>K v none) (sm (ev e x) (ev e i) λv=>K v none)
 | .extract x i=>YA (ev e x) i λv=>K v none
 | .build t ps=>(match P.underlying t,P.info? t with
  |some (.struct fs),some ti=>(match ti.zero,BW P fs.toList with
   |some z,some l=>zB z.cells l.toArray (G3 e ps) λv=>K v none
   |_,_=>False)
  |_,_=>xR P w (Instr.build t (G3 e ps).toArray) λv=>K v none)
 | .lookup t x i ok=>xR P w (Instr.lookup t (ev e x) (ev e i) ok) λv=>K v none
 | .call c=>(match c.callee with
  | .builtin .len=>(match (c.argTypes[0]?),Y8 e c.args with
   |some t,[x]=>(match P.underlying t with
    |some (.slice _)=>lA x λv=>K v none
    |some .string=>rD x λv=>K v none
    |_=>xR P w (Builtin.len_ c.argTypes o.type #[x]) λv=>K v none)
   |_,_=>False)
  | .builtin .cap=>xR P w (Builtin.cap_ c.argTypes o.type (Y8 e c.args).toArray) λv=>K v none
  | .builtin .max=>(match Y8 e c.args with
   |[x,y]=>Px x y λv=>K v none
   |_=>xR P w (Builtin.max_ c.argTypes o.type (Y8 e c.args).toArray) λv=>K v none)
  | .builtin .min=>(match Y8 e c.args with
   |[x,y]=>mw x y λv=>K v none
   |_=>xR P w (Builtin.min_ c.argTypes o.type (Y8 e c.args).toArray) λv=>K v none)
  |_=>False)
 |_=>False
def lT(P:Program)(o:Oper)(b:dE)(w:World)(K:Value->World->Prop):Prop:=
 match o.op with
 | .box e x=>(match P.info? e with|some _=>PA (ev b x).cells e w K|none=>False)
 | .alloc e=>(match P.info? e with|some i=>(match i.zero with|some z=>PA z.cells e w K|none=>False)|none=>False)
 | .store t a v=>(match VV P t,P.info? t with
  |some false,some i=>if Nat.beq i.size 1 then KC w (ev b a) (ev b v) (K undef)else False
  |some true,some i=>sD P w i.size (ev b a) (ev b v) (K undef)
  |_,_=>False)
 | .makeSlice t l c=>(match P.underlying t with
  |some (.slice e)=>(match P.info? e with
   |some i=>(match i.zero with
    |some z=>tu e z.cells i.size i.bytes (ev b l) (ev b c) w K
    |none=>False)
   |none=>False)
  |_=>False)
 | .buildSlice t n ps=>(match P.underlying t with
  |some (.slice e)=>(match P.info? e with
   |some i=>(match i.zero with
    |some z=>if Nat.ble (n*i.size) 16777216 then xB e z.cells i.size n (G3 b ps) w K else False
    |none=>False)
   |none=>False)
  |_=>False)
 | .makeMap t r=>nD P (Instr.makeMap t (Wj b r)) w K
 | .mapUpdate t m k v=>Bs P (Instr.mapUpdate t (ev b m) (ev b k) (ev b v)) w (K undef)
 | .insert t m k v=>Bs P (Instr.mapUpdate t (ev b m) (ev b k) (ev b v)) w (K undef)
 | .mapEntry t m k=>nD P (Instr.mapEntry t (ev b m) (ev b k)) w K
 | .entryStore t m s v=>Bs P (Instr.entryStore t (ev b m) (ev b s) (ev b v)) w (K undef)
 | .range t x=>nD P (Instr.range t (ev b x)) w K
 | .next it s=>nD P (Instr.next (ev b it) s o.type) w K
 | .entry it=>nD P (Instr.entry (ev b it)) w K
 | .convert s d x=>nD P (convert s d (ev b x)) w K
 | .call c=>(match c.callee with
  | .value f=>TB P (ev b f) (Y8 b c.args) w K
  | .builtin .append=>nD P (Builtin.append_ c.argTypes o.type (Y8 b c.args).toArray) w K
  | .builtin .copy=>nD P (Builtin.copy_ c.argTypes o.type (Y8 b c.args).toArray) w K
  | .builtin .delete=>nD P (Builtin.delete_ c.argTypes o.type (Y8 b c.args).toArray) w K
  | .builtin .clear=>nD P (Builtin.clear_ c.argTypes o.type (Y8 b c.args).toArray) w K
  | .builtin .unsafeSliceData=>nD P (Builtin.unsafeSliceData_ c.argTypes o.type (Y8 b c.args).toArray) w K
  | .builtin .unsafeString=>nD P (Builtin.unsafeString_ c.argTypes o.type (Y8 b c.args).toArray) w K
  |_=>False)
 |_=>False
def HC(P:Program)(o:Oper):Bool:=
 match o.op with
 | .convert _ d _=>(match P.underlying d with|some (.slice _)=>false|_=>true)
 |_=>KZ o
theorem DZ{Q:dE}(a:M.eval=ev Q)(l:Array Operand):(Y8 Q l).toArray=l.map M.eval:=by
 rw[a];apply Array.ext';simp[Y8]
theorem md{Q:dE}(b:M.eval=ev Q)(a:Array (Nat×Operand)):(G3 Q a).toArray=a.map λ(i,x)=>(i,M.eval x):=by
 rw[b];apply Array.ext';simp[G3]
theorem Nh{Q:dE}(a:M.eval=ev Q)(x:Option Operand):Wj Q x=x.map M.eval:=by
 rw[a];cases x<;>rfl
def Cx(P:Program)(w:World)(s:Sem Value)(v:Value):Prop:=∀a,bA w a->s.run P a= .ok v a
section
variable{P:Program}{w:World}{K:Value->Prop}
theorem CD{d:TypeDesc}(h:P.underlying u=some d)(w:World):(underlying u).run P w= .ok d w:=by simp[underlying,h]
theorem cL{i:TypeInfo}(h:P.info? u=some i)(w:World):(typeInfo u).run P w= .ok i w:=by simp[typeInfo,h]
theorem AE{i:TypeInfo}(h:P.info? u=some i)(w:World):(sizeOf u).run P w= .ok i.size w:=by simp[sizeOf,cL h]
theorem oQ{b:Bool}(h:VV P u=some b)(w:World):(isAgg u).run P w= .ok b w:=by
 unfold VV at h;cases a:P.underlying u with
 |none=>simp[a]at h
 |some d=>cases d<;>simp[a]at h<;>subst h<;>simp[isAgg,CD a]
theorem AO{w:World}{b:Addr}{cs:Array Value}:∀(m i:Nat) (a:Array Value),(∀j,i<=j->j<i+m->w.cell? (b.add j)=cs[j]?)->i+m<=cs.size->
  (loadCellsFrom b i m a).run P w= .ok (a++cs.extract i (i+m)) w:=by
 intro m
 induction m with
 |zero=>intro i a _ l;simp[loadCellsFrom];omega
 |succ m ih=>
  intro i a h l;have d:w.cell? (b.add i)=some cs[i]:=by rw[h i (Nat.le_refl _) (by omega)];simp
  simp only[loadCellsFrom,Sem.run_bind,run_load,d,Result.andThen_ok];rw[ih (i+1) _ (λj e f=>h j (by omega) (by omega)) (by omega)]
  congr 1
  apply Array.ext
  ·simp;omega
  ·intro k e f;simp only[Array.getElem_append,Array.size_push,Array.getElem_push,Array.getElem_extract];by_cases c:k<a.size
   ·simp[c,Nat.lt_succ_of_lt c]
   ·by_cases g:k=a.size
    ·subst g;simp
    ·have:¬k<a.size+1:=by omega
     simp only[this,c,dif_neg,not_false_eq_true]
     congr 1;omega
theorem ko{w:World}(c:bA w a){b:Addr}(g:h.size=x)(e:∀i,i<x->w.cell? (b.add i)=h[i]?):∀i,i<x->a.cell? (b.add i)=h[i]?:=by
 intro i f;have d:w.cell? (b.add i)=some h[i]:=by rw[e i f];simp
 rw[c.cell d];simp
theorem Gh(h:Mu P w u v K):∃a,Cx P w (Instr.loadAt u v) a/\K a:=by
 unfold Mu at h;split at h
 ·rename_i j c i;obtain⟨g,cs,rfl,f,b,d⟩:=h;refine⟨_,λl e=>?_,d⟩;simp only[Instr.loadAt,Instr.sureAddr,loadVar,Sem.run_bind,Sem.run_pure,Result.andThen_ok,oQ c,if_true,AE i,loadCells];rw[AO (cs:=cs) j.size 0 #[] (λk _ m=>ko e f b k (by omega)) (by omega)];simp[<-f]
 ·rename_i c;obtain⟨g,a,rfl,b,d⟩:=h;refine⟨a,λl e=>?_,d⟩;simp[Instr.loadAt,Instr.sureAddr,loadVar,oQ c,e.cell b]
 ·exact h.elim
theorem Rm{f:BinOp}{t:TypeId}{xo yo:Operand}(h:Yw f b v i K):
  ∃j,(∀w,(do eqGuard f t xo yo v i;binOp f t v i:Sem Value).run P w= .ok j w)/\K j:=by
 cases f
 case shl=>obtain⟨d,k,c,rfl,rfl,e,a⟩:=h;refine⟨_,λw=>?_,a⟩;simp[eqGuard,binOp,Op.shift,show¬c<0 by omega,cK]
 case shr=>obtain⟨d,k,c,rfl,rfl,e,a⟩:=h;refine⟨_,λw=>?_,a⟩;simp[eqGuard,binOp,Op.shift,show¬c<0 by omega,uM]
 case quo=>obtain⟨d,c,rfl,rfl,e,a⟩:=h;refine⟨_,λw=>?_,a⟩;simp[eqGuard,binOp,Op.intDiv,e]
 case rem=>obtain⟨d,c,rfl,rfl,e,a⟩:=h;refine⟨_,λw=>?_,a⟩;simp[eqGuard,binOp,Op.intDiv,e]
 case and=>obtain⟨d,c,rfl,rfl,a⟩:=h;refine⟨_,λw=>?_,a⟩;simp[eqGuard,binOp,Op.intBits,bK]
 case or=>obtain⟨d,c,rfl,rfl,a⟩:=h;refine⟨_,λw=>?_,a⟩;simp[eqGuard,binOp,Op.intBits,g4]
 case xor=>obtain⟨d,c,rfl,rfl,a⟩:=h;refine⟨_,λw=>?_,a⟩;simp[eqGuard,binOp,Op.intBits,Vq]
 case andNot=>obtain⟨d,c,rfl,rfl,a⟩:=h;refine⟨_,λw=>?_,a⟩;simp[eqGuard,binOp,Op.intBits,zG]
 case eql=>obtain⟨d,c,rfl,rfl,a⟩:=h;refine⟨_,λw=>?_,a⟩;simp[eqGuard,binOp,Op.intCmp];by_cases g:d=c<;>simp[g]
 case neq=>obtain⟨d,c,rfl,rfl,a⟩:=h;refine⟨_,λw=>?_,a⟩;simp[eqGuard,binOp,Op.intCmp];by_cases g:d=c<;>simp[g]
 all_goals (obtain⟨d,c,rfl,rfl,a⟩:=h;refine⟨_,λw=>?_,a⟩;simp[eqGuard,binOp,Op.intArith,Op.intCmp])
theorem Yg(c:P.underlying u=some .bool)(d:Nat)(a b:Bool)(w:World):(Op.equalIn (d+1) u (.bool a) (.bool b)).run P w= .ok (a==b) w:=by
 simp[Op.equalIn,CD c]
theorem Zg(b:P.underlying u=some (.slice H))(d:Nat)(a:Option Addr)(n c:Nat)(w:World):(Op.equalIn (d+1) u (.slice a n c) (.slice none 0 0)).run P w= .ok (Gc (.slice a n c)) w:=by
 cases a<;>simp[Op.equalIn,CD b,Gc]
theorem jc(c:P.underlying u=some .bool)(a b:Bool)(w:World):(Op.equal u (.bool a) (.bool b)).run P w= .ok (a==b) w:=Yg c 9999 a b w
theorem kc(b:P.underlying u=some (.slice H))(a:Option Addr)(n c:Nat)(w:World):(Op.equal u (.slice a n c) (.slice none 0 0)).run P w= .ok (Gc (.slice a n c)) w:=Zg b 9999 a n c w
theorem Wn(a:BinOp)(t:TypeId)(b c:ByteArray):binOp a t (.string b) (.string c)=Op.stringOp a b c:=by cases a<;>rfl
theorem oj(a:BinOp)(t:TypeId)(d e:Operand)(b c:ByteArray)(w:World):(eqGuard a t d e (.string b) (.string c)).run P w= .ok () w:=by
 cases a<;>simp[eqGuard]
theorem X1(a:BinOp)(t:TypeId)(d e:Operand)(b c:Bool)(w:World):(eqGuard a t d e (.bool b) (.bool c)).run P w= .ok () w:=by
 cases a<;>simp[eqGuard]
theorem ic(a:BinOp)(t:TypeId)(f g:Operand)(b c:Option Addr)(n d m e:Nat)(w:World):(eqGuard a t f g (.slice b n d) (.slice c m e)).run P w= .ok () w:=by
 cases a<;>simp[eqGuard]
theorem ua(t:TypeId)(a b:Bool):binOp .eql t (.bool a) (.bool b)=(do pure (.bool (<-Op.equal t (.bool a) (.bool b)))):=rfl
theorem xa(t:TypeId)(a b:Bool):binOp .neq t (.bool a) (.bool b)=(do pure (.bool (!(<-Op.equal t (.bool a) (.bool b))))):=rfl
theorem Ig(t:TypeId)(a b:Option Addr)(n c m d:Nat):binOp .eql t (.slice a n c) (.slice b m d)=(do pure (.bool (<-Op.equal t (.slice a n c) (.slice b m d)))):=rfl
theorem Jg(t:TypeId)(a b:Option Addr)(n c m d:Nat):binOp .neq t (.slice a n c) (.slice b m d)=(do pure (.bool (!(<-Op.equal t (.slice a n c) (.slice b m d))))):=rfl
theorem Os{g:BinOp}{l m:Operand}(h:Ns P w g u l m v i K):
  ∃b,Cx P w (do eqGuard g u l m v i;binOp g u v i) b/\K b:=by
 unfold Ns at h;split at h
 ·obtain⟨b,n,o⟩:=Rm h;exact⟨b,λd _=>n d,o⟩
 ·rename_i c;split at h
  ·obtain⟨j,k,rfl,rfl,a⟩:=h;refine⟨_,λd _=>?_,a⟩;rw[ua];simp only[Sem.run_bind,Sem.run_pure,Result.andThen_ok,X1,jc c];simp
  ·obtain⟨j,k,rfl,rfl,a⟩:=h;refine⟨_,λd _=>?_,a⟩;rw[xa];simp only[Sem.run_bind,Sem.run_pure,Result.andThen_ok,X1,jc c];simp
  ·exact h.elim
 ·rename_i c;obtain⟨j,k,b,rfl,rfl,e,a⟩:=h;refine⟨b,λd _=>?_,a⟩;rw[Wn,e];simp only[Sem.run_bind,Sem.run_pure',Result.andThen_ok,oj]
 ·rename_i p c;split at h
  ·obtain⟨f,rfl,a⟩:=h;refine⟨_,λd _=>?_,a⟩;cases v<;>simp only[Ov]at f;rw[Ig];simp only[Sem.run_bind,Sem.run_pure,Result.andThen_ok,ic,kc c];simp
  ·obtain⟨f,rfl,a⟩:=h;refine⟨_,λd _=>?_,a⟩;cases v<;>simp only[Ov]at f;rw[Jg];simp only[Sem.run_bind,Sem.run_pure,Result.andThen_ok,ic,kc c];simp
  ·exact h.elim
 ·obtain⟨b,e,a⟩:=h;exact⟨b,e,a⟩
 ·exact h.elim
theorem lh{K:Nat->Nat->Bool->Prop}(h:Ts P u x K):∃a fl i g,P.underlying u=some (.struct a)/\a[x]?=some fl/\P.info? fl.type=some i/\VV P fl.type=some g/\i.size≠0/\K fl.offset i.size g:=by
 unfold Ts at h;split at h
 ·rename_i a j;split at h
  ·rename_i fl c;split at h
   ·rename_i i g f d;split at h
    ·exact h.elim
    ·rename_i b;exact⟨a,fl,i,g,j,c,f,d,λe=>b (by simp[e]),h⟩
   ·exact h.elim
  ·exact h.elim
 ·exact h.elim
theorem Bm{o:Option Value}(h:nv x n o):(o=none/\n=x)∨ ∃k,o=some (.int k (n:Int)):=by
 cases o with
 |none=>exact .inl ⟨rfl,h⟩
 |some v=>obtain⟨k,rfl⟩:=h;exact .inr ⟨k,rfl⟩
theorem ET{b a:Option Value}(h:Bool)(c:nv x C a)(d:nv 0 f b)(e:f<=C)(g:C<=n)(w:World):
  (Instr.sliceBounds h x n b a none).run P w= .ok (f,C,n) w:=by
 unfold Instr.sliceBounds;rcases Bm c with⟨rfl,rfl⟩|⟨k,rfl⟩<;>rcases Bm d with⟨rfl,rfl⟩|⟨i,rfl⟩<;>
  simp[Instr.sliceBound,asIntOf,e,g]
theorem H3:∀(l:List Field) {r:List (Nat×Nat)},BW P l=some r-> ∀w,(l.mapM (m:=Sem) λf=>do pure (f.offset,<-sizeOf f.type)).run P w= .ok r w
 |[],r,h,w=>by simp[BW]at h;subst h;simp
 |f::l,r,h,w=>by
  unfold BW at h;split at h
  ·rename_i i d b c;cases h;have a:=H3 l c w;simp only[bind_pure_comp]at a;simp[List.mapM_cons,AE b,a]
  ·cases h
theorem ni{Q:dE}{K:Value->Option (Option Bool)->Prop}(e:M.eval=ev Q)(hk:NN Q)(n:HC P D=true)(h:FH P D Q w K):
  ∃v B,(∀a,bA w a->(execOp M.eval D).run P a= .ok (.value v) a)/\K v B/\(∀c,B=some c->v=kv c):=by
 have r:∀x c,Gp Q x=some c->ev Q x=kv c:=by
  intro x c b;cases x with
  |tmp t=>exact hk t c b
  |const v=>cases v<;>simp[Gp]at b;subst b;rfl
  |_=>simp[Gp]at b
 --M step that yields by M reckoning of its own
 have i:∀(s:Sem Value),execOp M.eval D=(do pure (.value (<-s)))->(∃v,Cx P w s v/\K v none)-> ∃v B,(∀a,bA w a->(execOp M.eval D).run P a= .ok (.value v) a)/\K v B/\(∀c,B=some c->v=kv c):=by
  intro s n ⟨v,z,hK⟩;exact⟨v,none,λa ai=>by rw[n];simp[z a ai],hK,λc g=>by cases g⟩
 obtain⟨af,J,ab,al,ac,ag⟩:=D;cases J<;>(try (simp[HC,KZ]at n;done))
 case move x=>exact⟨_,_,λa _=>by simp[execOp,e],h,λc g=>r x c g⟩
 case assign x=>exact⟨_,_,λa _=>by simp[execOp,e],h,λc g=>r x c g⟩
 case pick o x T=>
  simp only[FH]at h;split at h
  ·rename_i t p;refine⟨_,_,λa _=>?_,h,λc g=>?_⟩
   ·simp only[execOp,e,r o (some t) p,kv];cases t<;>simp[asBool]
   ·exact r _ c g
  ·exact h.elim
  ·obtain⟨t,p,hK⟩:=h;refine⟨_,none,λa _=>?_,hK,λc g=>by cases g⟩;simp only[execOp,e,p];cases t<;>simp[asBool]
 case load t x=>exact i _ (by simp only[execOp];rfl) (by rw[e];exact Gh h)
 case nilCheck x=>
  obtain⟨b,hK⟩:=h;refine⟨_,none,λa _=>?_,hK,λc g=>by cases g⟩;simp only[execOp,e];generalize ev Q x=v at*;unfold Nu at b;split at b<;>first|exact b.elim|simp
 case binOp J t x T yt=>exact i _ (by simp only[execOp];rfl) (by rw[e];exact Os h)
 case unOp J t x=>
  simp only[FH]at h;cases J<;>simp only[]at h
  ·exact i _ (by simp only[execOp];rfl) (by rw[e];exact h)
  ·exact i _ (by simp only[execOp];rfl) (by rw[e];exact h)
  ·split at h
   ·rename_i c g;exact⟨_,_,λa _=>by simp[execOp,e,r x (some c) g,Op.unary,kv],h,λb' O=>by cases O;rfl⟩
   ·exact h.elim
   ·obtain⟨c,g,hK⟩:=h;exact⟨_,_,λa _=>by simp[execOp,e,g,Op.unary],hK,λb' O=>by cases O⟩
 case convert s d x=>
  simp only[FH]at h;split at h
  ·rename_i k0 A n hd;obtain⟨k',C,b,hK⟩:=h;refine i _ (by simp only[execOp];rfl) ⟨_,λa _=>?_,hK⟩;simp[e,b,convert,CD n,CD hd,Conv.intToInt]
  ·exact i _ (by simp only[execOp];rfl) (by rw[e];exact h)
 case makeFunc fn first cap=>
  refine⟨_,_,λa _=>?_,h,λc g=>by cases g⟩;simp[execOp,Instr.makeFunc,DZ e]
 case slice t x lo hi' mx=>
  simp only[FH]at h;refine i _ (by simp only[execOp];rfl) ?_;rw[<-Nh e,<-Nh e,<-Nh e,e];cases mx with
  |some m=>exact h
  |none=>
   simp only[Zb]at h;split at h
   ·rename_i G f;split at h
    ·rename_i q j;obtain⟨E,C,o,S,hh,b,k,l,L,N,hK⟩:=h;refine⟨_,λa _=>?_,hK⟩;rw[b,show Wj Q none=none from rfl];generalize Wj Q lo=ak at*;generalize Wj Q hi'=ah at*;simp[Instr.sliceAt,Instr.slice,CD f,ET true k l L N,AE j]
    ·exact h.elim
   ·rename_i aj G f;split at h
    ·exact h
    ·exact h.elim
   ·rename_i f;obtain⟨s,S,hh,b,k,l,L,N,hK⟩:=h;refine⟨_,λa _=>?_,hK⟩;rw[b,show Wj Q none=none from rfl];generalize Wj Q lo=ak at*;generalize Wj Q hi'=ah at*;simp[Instr.sliceAt,Instr.slice,CD f,ET false k l L N]
   ·exact h.elim
 case fieldAddr s x H=>
  simp only[FH]at h;obtain⟨u,fl,q,W,f,I,j,R,X,E,b,hK⟩:=lh h;refine i _ (by simp only[execOp];rfl) ⟨_,λa _=>?_,hK⟩;simp[e,b,Instr.fieldAt,CD f,I,Instr.sureAddr,fieldPlace,AE j,X]
 case field s x H=>
  simp only[FH]at h;obtain⟨u,fl,q,W,f,I,j,R,X,Y⟩:=lh h;refine i _ (by simp only[execOp];rfl) ?_;cases W
  ·obtain⟨F,v,b,z,hK⟩:=Y;refine⟨_,λa _=>?_,hK⟩;simp[e,b,Instr.field,CD f,I,asAgg,part,oQ R,z]
  ·obtain⟨F,b,hK⟩:=Y;refine⟨_,λa _=>?_,hK⟩;simp[e,b,Instr.field,CD f,I,asAgg,part,oQ R,AE j]
 case indexAddr t x q=>
  simp only[FH,Zb]at h;refine i _ (by simp only[execOp];rfl) ?_;rw[e];split at h
  ·rename_i G f;split at h
   ·rename_i ti j;obtain⟨E,C,o,A,aa,b,y,k,l,hK⟩:=h;refine⟨_,λa _=>?_,hK⟩;rw[b,y];simp[Instr.indexAt,CD f,asIntOf,AE j,k,l]
   ·exact h.elim
  ·rename_i aj G f;split at h
   ·rename_i ti j;obtain⟨E,A,aa,b,y,k,l,hK⟩:=h;refine⟨_,λa _=>?_,hK⟩;rw[b,y];simp[Instr.indexAt,CD f,asIntOf,Instr.sureAddr,AE j,k,l]
   ·exact h.elim
  ·exact h.elim
  ·exact h.elim
 case index t x q=>
  simp only[FH,Zb]at h;refine i _ (by simp only[execOp];rfl) ?_;rw[e];split at h
  ·split at h<;>exact h.elim
  ·split at h
   ·exact h
   ·exact h.elim
  ·rename_i f;obtain⟨s,A,aa,c,b,y,k,l,hK⟩:=h;refine⟨_,λa _=>?_,hK⟩;rw[b,y];simp[Instr.index,CD f,asIntOf,k,l]
  ·exact h.elim
 case extract x q=>
  obtain⟨vs,v,b,z,hK⟩:=h;refine i _ (by simp only[execOp];rfl) ⟨_,λa _=>?_,hK⟩;simp[e,b,Instr.extract,z]
 case build t ps=>
  simp only[FH]at h;refine i _ (by simp only[execOp];rfl) ?_;rw[<-md e];split at h
  ·rename_i u ti f j;split at h
   ·rename_i am S hz hl;obtain⟨F,Z,hK⟩:=h;refine⟨_,λa _=>?_,hK⟩;have hp:=H3 u.toList hl a;have hm:(u.mapM (m:=Sem) λH=>do pure (H.offset,<-sizeOf H.type)).run P a= .ok S.toArray a:=by
     rw[<-Array.toArray_toList (xs:=u)];rw[List.mapM_toArray];simp only[Sem.run_map,hp,Result.andThen_ok]
    simp only[bind_pure_comp]at hm;simp[Instr.build,zeroValue,cL j,hz,CD f,hm];simp only[List.getElem?_toArray]at Z;simp[Z]
   ·exact h.elim
  ·exact h
 case lookup t x q ok=>exact i _ (by simp only[execOp];rfl) (by rw[e];exact h)
 case call o=>
  obtain⟨ae,V,U⟩:=o;cases ae<;>(try (simp[HC,KZ]at n;done));rename_i c;have ex:∀s,(∀F,builtin c U ab F (V.map M.eval)=(do pure (.value (<-s))))->execOp M.eval ⟨af,.call ⟨.builtin c,V,U⟩,ab,al,ac,ag⟩=(do pure (.value (<-s))):=by
   intro s n;simp only[execOp,resolve];exact n _
  cases c<;>(try (simp[HC,KZ]at n;done))
  all_goals (simp only[FH]at h;refine i _ (ex _ λ_=>rfl) ?_;rw[<-DZ e])
  ·exact h
  ·split at h
   ·rename_i t x p b;rw[b];split at h
    ·rename_i G f;obtain⟨E,C,o,rfl,hK⟩:=h;refine⟨_,λa _=>?_,hK⟩;simp[Builtin.len_,p,CD f,goInt]
    ·rename_i f;obtain⟨s,rfl,hK⟩:=h;refine⟨_,λa _=>?_,hK⟩;simp[Builtin.len_,p,CD f,goInt]
    ·exact h
   ·exact h.elim
  ·split at h
   ·rename_i x T b;obtain⟨A,m,k',C,rfl,rfl,hK⟩:=h;refine⟨_,λa _=>?_,hK⟩;simp[b,Builtin.max_,Builtin.max2]
   ·exact h
  ·split at h
   ·rename_i x T b;obtain⟨A,m,k',C,rfl,rfl,hK⟩:=h;refine⟨_,λa _=>?_,hK⟩;simp[b,Builtin.min_,Builtin.min2]
   ·exact h
end
section
variable{P:Program}{w:World}
theorem tN(h:vA v=true):v.oneCell'=true:=by cases v<;>first|rfl|(simp[vA]at h)
theorem sA(h:vA v=true):v.cells=#[v]:=by cases v<;>first|rfl|(simp[vA]at h)
theorem S1(b:Mp P W)(w:World):(callFunc W h).run P w= .ok (.enter W h) w:=by
 obtain⟨a,f,g,c⟩:=b;have i: ¬a.name= "runtime.NumGoroutine" :=by simpa using g
 have d:¬a.body=none:=by intro e;simp[e]at c
 simp[callFunc,f,i,d]
theorem JZ{first:Array Value}(b:v= .func (.func W) first h)(a:Mp P W)(w:World):
  (do let d<-Deferred.ofValue v y.toArray;invoke d.target d.args:Sem Next).run P w= .ok (.enter W (first++y.toArray++h)) w:=by
 subst b;simp[Deferred.ofValue,invoke,S1 a]
theorem UV{first:Array Value}(a:v= .func (.func W) first h)(w:World):
  (do let d<-Deferred.ofValue v y.toArray;invoke d.target d.args:Sem Next).run P w=(callFunc W (first++y.toArray++h)).run P w:=by
 subst a;simp[Deferred.ofValue,invoke]
def Nx(o:Oper)(a:Act)(K:Value->World->Prop):Act->World->Prop:=λb c=>∃v,b=a.put o.dst v/\K v c
theorem sg
  (f:execOp M.eval D=(do let d<-Deferred.ofValue v y.toArray;invoke d.target d.args))(i:TB P v y w t):D.wp P M w (Nx D M t) c:=by
 unfold Oper.wp;obtain⟨T,⟨h,first,g,a,j,k⟩|⟨h,first,g,b,a,m,hK⟩,e⟩:=i
 ·rw[f,JZ a j,Oper.upon_enter];refine k.mono λn o ⟨b,l,hK⟩=>?_;subst l;exact⟨b,rfl,e _ _ hK⟩
 ·rw[f,UV a,m,Oper.upon_value];exact⟨b,rfl,e _ _ hK⟩
theorem U9{L:dE}{K:Value->World->Prop}{Q:Exit->Act->World->Prop}(a:M.eval=ev L)(h:lT P D L w K):D.wp P M w (Nx D M K) Q:=by
 have f:∀(s:Sem Value),execOp M.eval D=(do pure (.value (<-s)))->(∃v g,s.run P w= .ok v g/\K v g)->D.wp P M w (Nx D M K) Q:=by
  intro s j ⟨v,g,E,hK⟩;unfold Oper.wp;rw[j];simp only[Sem.run_bind,Sem.run_pure,E,Result.andThen_ok,Oper.upon_value];exact⟨v,rfl,hK⟩
 have q:∀(s:Sem Unit),execOp M.eval D=(do s;pure .skip)->(∃g,s.run P w= .ok () g/\K undef g)->D.wp P M w (Nx D M K) Q:=by
  intro s j ⟨g,E,hK⟩;unfold Oper.wp;rw[j];simp only[Sem.run_bind,Sem.run_pure,E,Result.andThen_ok,Oper.upon_skip];exact⟨undef,rfl,hK⟩
 obtain⟨W,op,R,ac,U,Y⟩:=D;cases op<;>first|exact h.elim|skip
 case alloc z=>
  simp only[lT]at h;split at h
  ·rename_i i e;split at h
   ·rename_i S p;refine f _ (by simp only[execOp];rfl) ⟨_,_,?_,h⟩;simp[Instr.alloc,zeroValue,cL e,p,newVar,newRow]
   ·exact h.elim
  ·exact h.elim
 case box z x=>
  simp only[lT]at h;split at h
  ·refine f _ (by simp only[execOp];rfl) ⟨_,_,?_,h⟩;simp[Instr.box,newVar,newRow,a]
  ·exact h.elim
 case store t x y=>
  simp only[lT]at h;refine q _ (by simp only[execOp];rfl) ?_;rw[a];split at h
  ·rename_i i hg e;split at h
   ·rename_i N;obtain⟨T,af,F,A,hf,O,hK⟩:=h;refine⟨_,?_,hK⟩;have Z:i.size=1:=by simpa using N
    simp[Instr.storeAt,Instr.sureAddr,F,storeVar,sA O,AE e,Z,storeCells,run_store P w _ _ _ (tN O),A,hf,Addr.add]
   ·exact h.elim
  ·rename_i i hg e;obtain⟨T,g,F,hn,j,hK⟩:=h;refine⟨g,?_,hK⟩;simp[Instr.storeAt,Instr.sureAddr,F,storeVar,AE e,hn,j]
  ·exact h.elim
 case makeSlice t l c=>
  simp only[lT]at h;split at h
  ·rename_i z C;split at h
   ·rename_i i e;split at h
    ·rename_i S p;obtain⟨G,k',u,k,hl,A,N,h2,h3,hK⟩:=h;refine f _ (by simp only[execOp];rfl) ⟨_,_,?_,hK⟩;have w1:IntKind.i64.wrap (u:Int)=u:=by rw[IntKind.wrap_i64];omega
     have w2:IntKind.i64.wrap (k:Int)=k:=by rw[IntKind.wrap_i64];omega
     rw[a,hl,A];have n1:¬((k:Int)<0):=by omega
     have n2:¬((u:Int)<0):=by omega
     have n3:¬((u:Int)>k):=by omega
     have n4:¬((i.bytes:Int)*k>2^48):=by omega
     simp only[Instr.makeSlice,Sem.run_bind,CD C,Result.andThen_ok,asInt,asIntOf,Sem.run_pure,cL e,w1,w2,n1,n2,n3,n4,decide_false,Bool.or_false,Bool.false_eq_true,if_false,run_askRoom,AE e,Int.toNat_natCast];by_cases o:k*i.size=0
     ·simp[o,newRow,show Array.range 0=#[]from rfl]
     ·simp[o,zeroValue,cL e,p,newRow]
    ·exact h.elim
   ·exact h.elim
  ·exact h.elim
 case buildSlice t n ps=>
  simp only[lT]at h;split at h
  ·rename_i z C;split at h
   ·rename_i i e;split at h
    ·rename_i S p;split at h
     ·rename_i aa;obtain⟨J,B,hK⟩:=h;refine f _ (by simp only[execOp];rfl) ⟨_,_,?_,hK⟩;rw[<-md a];have ab:¬n*i.size>2^24:=by have:=Nat.le_of_ble_eq_true aa;omega
      simp only[Instr.buildSlice,Sem.run_bind,CD C,Result.andThen_ok,AE e,ab,if_false];by_cases o:n*i.size=0
      ·simp[o,show Array.range 0=#[]from rfl]at B;simp[o,show Array.range 0=#[]from rfl,B,newRow]
      ·simp[o,zeroValue,cL e,p];simp[B,newRow]
     ·exact h.elim
    ·exact h.elim
   ·exact h.elim
  ·exact h.elim
 case makeMap t r=>
  refine f _ (by simp only[execOp];rfl) ?_;rw[<-Nh a];exact h
 case mapUpdate t m G v=>refine q _ (by simp only[execOp];rfl) ?_;rw[a];exact h
 case insert t m G v=>refine q _ (by simp only[execOp];rfl) ?_;rw[a];exact h
 case mapEntry t m G=>refine f _ (by simp only[execOp];rfl) ?_;rw[a];exact h
 case entryStore t m s v=>refine q _ (by simp only[execOp];rfl) ?_;rw[a];exact h
 case range t x=>refine f _ (by simp only[execOp];rfl) ?_;rw[a];exact h
 case next it s=>refine f _ (by simp only[execOp];rfl) ?_;rw[a];exact h
 case entry it=>refine f _ (by simp only[execOp];rfl) ?_;rw[a];exact h
 case convert s d x=>refine f _ (by simp only[execOp];rfl) ?_;rw[a];exact h
 case call c=>
  obtain⟨V,I,H⟩:=c;cases V with
  |value ae=>
   refine sg ?_ h;rw[DZ a,<-a];simp only[execOp,resolve]
  |invoke r m=>exact h.elim
  |builtin b=>
   have X:∀s,(∀J,builtin b H R J (I.map M.eval)=(do pure (.value (<-s))))->execOp M.eval ⟨W,.call ⟨.builtin b,I,H⟩,R,ac,U,Y⟩=(do pure (.value (<-s))):=by
    intro s j;simp only[execOp,resolve];exact j _
   cases b<;>first|exact h.elim|skip
   all_goals (refine f _ (X _ λ_=>rfl) ?_;rw[<-DZ a];exact h)
end
structure Ch(S:Nat->Prop)(w w':World):Prop where
 os:w'.os=w.os
 tape:w'.tape=w.tape
 output:w'.output=w.output
 size:w.heap.size<=w'.heap.size
 block:∀k,k<w.heap.size-> ¬S k->w'.heap[k]?=w.heap[k]?
inductive Ex where
 |nrm
 |ext (id:Nat)
 |ret
inductive WQ where
 |leaf
 |reg (quiet:List Nat) (join:Option (List Nat))
 |regE (quiet:List Nat) (join:Option (List Nat))
 |node (keep:Option (List Nat)) (l r:WQ)
abbrev VJ:=dE->World->Prop
def GN(n:Nat)(a:dE)(b:Option Nat)(v:Value)(c:Option (Option Bool))(K:dE->Prop):Prop:=
 match b with
 |none=>K a
 |some d=>match Nat.blt d n with
  |true=>K (⟨d,v,c⟩::a)
  |false=>False
def I7(c:Array Oper)(o:Oper)(a:dE)(A B:dE->Prop):Prop:=
 match o.guard with
 |none=>A a
 |some (j,want)=>match (c[j]?).bind (·.dst)with
  |none=>B a
  |some s=>match M2 a s with
   |some (some b)=>(match b==want with|true=>A a|false=>B a)
   |some none=>B a
   |none=>(match want with
    |true=>eA (wF a s) (A (⟨s,.bool true,some (some true)⟩::a)) (B (⟨s,.bool false,some (some false)⟩::a))
    |false=>eA (wF a s) (B (⟨s,.bool true,some (some true)⟩::a)) (A (⟨s,.bool false,some (some false)⟩::a)))
def Vo(P:Program)(n:Nat)(c:Array Oper):List Oper->dE->World->VJ->Prop
 |[],a,w,K=>K a w
 |o::r,a,w,K=>I7 c o a
  (λa=>match HC P o with
   |true=>FH P o a w λv d=>GN n a o.dst v d λb=>Vo P n c r b w K
   |false=>lT P o a w λv e=>GN n a o.dst v none λb=>Vo P n c r b e K)
  (λa=>GN n a o.dst undef (some none) λb=>Vo P n c r b w K)
def tF(P:Program)(a:List Nat)(o:Oper):Bool:=
 match o.op with
 | .move _| .assign _=>true
 | .fieldAddr ..=>a.contains 1000000
 | .indexAddr t _ _=>(match P.underlying t with|some (.slice _)=>a.contains 1000000|_=>false)
 | .binOp _ t _ _ _=>(match P.underlying t with|some (.int _)=>true|_=>false)
 |_=>false
def G2(P:Program)(a:List Nat)(i:Nat)(o:Oper):Bool:=HC P o||a.contains i
def iq(a:List Nat)(o:Oper):Nat:=
 o.after.toList.foldl (λs e=>match Region.binds .any e with|true=>s|||2^e.on|||a.getD e.on 0|false=>s) 0
def bf:List Oper->List Nat->List Nat
 |[],acc=>acc
 |o::r,acc=>bf r (acc++[iq acc o])
def Tj(P:Program)(b:List Nat)(a:Array Oper)(j:Nat):Bool:=
 (List.range a.size).any λi=>match a[i]? with
  |some o=>G2 P b i o&& !tF P b o&& !(i==j)&& !((bf a.toList []).getD j 0).testBit i&& !((bf a.toList []).getD i 0).testBit j
  |none=>false
def H2(P:Program)(a:Array Oper)(j:Nat):Bool:=match a[j]? with|some o=>HC P o|none=>false
def Uj(P:Program)(b:List Nat)(a:Array Oper)(i:Nat):Bool:=
 match b.contains 1000000 with
 |false=>true
 |true=>(List.range a.size).any λj=>match a[j]? with
  |some o=>!HC P o&& !(i==j)&& !((bf a.toList []).getD j 0).testBit i&& !((bf a.toList []).getD i 0).testBit j
  |none=>false
def Ux(b:Bool)(w a:World)(A:Prop):Prop:=
 match b with
 |true=>bA w a/\A
 |false=>A
def QQ(P:Program)(c:List Nat)(a:Array Oper)(b:Array Bool):List Nat->Option Nat
 |[]=>none
 |i::r=>match a[i]? with
  |some o=>(match G2 P c i o&&Region.free .any a b i with
   |true=>some i
   |false=>QQ P c a b r)
  |none=>QQ P c a b r
def Ms:List Nat->(Nat->Prop)->Prop
 |[],_=>True
 |i::r,F=>match r with
  |[]=>F i
  |_::_=>F i/\Ms r F
def Sv(P:Program)(o:Oper)(a:dE)(w:World)(K:Value->Prop):Prop:=
 match o.op with
 | .call c=>(match c.callee with
  | .value f=>mq P (ev a f) (Y8 a c.args) w K
  |_=>False)
 |_=>False
def wq(P:Program)(n:Nat)(e:List Nat)(b:Array Oper):Nat->Array Bool->dE->World->VJ->Prop
 |0,listed,a,w,K=>match Region.ready .any b listed with
  |[]=>∀c,bA w c->K a c
  |_::_=>False
 |m+1,listed,a,w,K=>match Region.ready .any b listed with
  |[]=>∀c,bA w c->K a c
  |r0::rs=>match QQ P e b listed (r0::rs)with
   |some i=>(match b[i]? with
    |some o=>I7 b o a
     (λa=>match HC P o with
      |true=>FH P o a w λv g=>GN n a o.dst v g λd=>wq P n e b m (listed.setIfInBounds i true) d w K
      |false=>Sv P o a w λv=>GN n a o.dst v none λd=>wq P n e b m (listed.setIfInBounds i true) d w K)
     (λa=>GN n a o.dst undef (some none) λd=>wq P n e b m (listed.setIfInBounds i true) d w K)
    |none=>False)
   |none=>∀c,bA w c->Ms (r0::rs) λi=>match b[i]? with
    |some o=>I7 b o a
     (λa=>match HC P o with
      |true=>False
      |false=>lT P o a c λv f=>Ux (Tj P e b i) c f (GN n a o.dst v none λd=>wq P n e b m (listed.setIfInBounds i true) d f K))
     (λa=>GN n a o.dst undef (some none) λd=>wq P n e b m (listed.setIfInBounds i true) d c K)
    |none=>False
def bare(w:World):World:={w with heap:=#[]}
structure pw(E:World->World->Prop):Prop where
 ext:∀w w':World,bA w w'->E w w'
 trans:∀w w' w'':World,E w w'->E w' w''->E w w''
 bare:∀w w':World,E w w'->bA (bare w) w'
def Qu(P:Program)(E:World->World->Prop)(o:Oper)(b:dE)(w:World)(K:Value->Option (Option Bool)->Prop):Prop:=
 match o.op with
 | .load t a=>Mu P w t (ev b a) λv=>(∀c,E w c->Mu P c t (ev b a) λu=>u=v)/\K v none
 |_=>FH P o b (bare w) K
def Ru(P:Program)(E:World->World->Prop)(b:Bool)(o:Oper)(a:dE)(w:World)(K:Value->Option (Option Bool)->Prop):Prop:=
 match b with
 |true=>Qu P E o a w K
 |false=>FH P o a w K
def XF(P:Program)(E:World->World->Prop)(c:Value)(b:List Value)(w:World)(K:Value->Prop):Prop:=
 ∃v,(∀a,E w a->TB P c b a λu d=>u=v/\bA a d)/\K v
def Tv(P:Program)(E:World->World->Prop)(o:Oper)(a:dE)(w:World)(K:Value->Prop):Prop:=
 match o.op with
 | .call c=>(match c.callee with
  | .value f=>XF P E (ev a f) (Y8 a c.args) w K
  |_=>False)
 |_=>False
def Cw(E:World->World->Prop)(b:Bool)(w a:World)(A:Prop):Prop:=
 match b with
 |true=>E w a/\A
 |false=>A
def Bl(P:Program)(n:Nat)(e:List Nat)(b:Array Oper)(E:World->World->Prop):Nat->Array Bool->dE->World->VJ->Prop
 |0,listed,a,w,K=>match Region.ready .any b listed with
  |[]=>∀c,bA w c->K a c
  |_::_=>False
 |m+1,listed,a,w,K=>match Region.ready .any b listed with
  |[]=>∀c,bA w c->K a c
  |r0::rs=>match QQ P e b listed (r0::rs)with
   |some i=>(match b[i]? with
    |some o=>I7 b o a
     (λa=>match HC P o with
      |true=>Ru P E (Uj P e b i) o a w λv g=>GN n a o.dst v g λd=>Bl P n e b E m (listed.setIfInBounds i true) d w K
      |false=>Tv P E o a w λv=>GN n a o.dst v none λd=>Bl P n e b E m (listed.setIfInBounds i true) d w K)
     (λa=>GN n a o.dst undef (some none) λd=>Bl P n e b E m (listed.setIfInBounds i true) d w K)
    |none=>False)
   |none=>∀c,bA w c->Ms (r0::rs) λi=>match b[i]? with
    |some o=>I7 b o a
     (λa=>match HC P o with
      |true=>False
      |false=>lT P o a c λv f=>Cw E (Tj P e b i) c f (GN n a o.dst v none λd=>Bl P n e b E m (listed.setIfInBounds i true) d f K))
     (λa=>GN n a o.dst undef (some none) λd=>Bl P n e b E m (listed.setIfInBounds i true) d c K)
    |none=>False
def CZ(a:List Oper):List Nat:=a.filterMap (·.dst)
def wr:Code->List Nat
 | .region _ ops _=>CZ ops.toList
 | .seq a b=>wr a++wr b
 | .cond _ a b=>wr a++wr b
 | .block _ b=>wr b
 | .loop b=>wr b
 | .scope b=>wr b
 |_=>[]
def cT:List Nat->Nat->List Value->dE->dE
 |[],_,_,env=>env
 |s::r,i,xs,env=>⟨s,gx xs i,none⟩::cT r (i+1) xs env
def dT:List Nat->(Nat->Value)->dE->dE
 |[],_,env=>env
 |s::r,ys,env=>⟨s,ys s,none⟩::dT r ys env
def OX(b:List Nat)(a:dE):List Value:=b.map (wF a)
def PO(n:Nat)(l:List Nat):Bool:=l.all λs=>Nat.blt s n
def Jf(n:Nat)(a W:List Nat)(b:dE)(K:VJ)(F:VJ->Prop):Prop:=
 match PO n a&&PO n W with
 |true=>jn (λJ=>F λc d=>J (OX a c) d) (λe w=>∀f:Nat->Value,K (cT a 0 e (dT W f b)) w)
 |false=>False
def Vt(P:Program)(n:Nat)(a:Array Oper)(d e:Bool)(c:List Nat)(b:dE)(w:World)(K:VJ):Prop:=
 match d with
 |false=>Vo P n a a.toList b w K
 |true=>match e with
  |false=>wq P n c a a.size (Array.replicate a.size false) b w K
  |true=>match c.contains 1000001 with
   |false=>∃D:Nat->Prop,Bl P n c a (Ch D) a.size (Array.replicate a.size false) b w K
   |true=>∃E:World->World->Prop,pw E/\Bl P n c a E a.size (Array.replicate a.size false) b w K
def hL:WQ->WQ| .node _ l _=>l|_=>.leaf
def hR:WQ->WQ| .node _ _ r=>r|_=>.leaf
def hK:WQ->Option (List Nat)| .node k _ _=>k| .reg _ k=>k| .regE _ k=>k|_=>none
def hQ:WQ->List Nat| .reg q _=>q| .regE q _=>q|_=>[]
def hE:WQ->Bool| .regE _ _=>true|_=>false
def Ek(next:VJ)(Q:Ex->VJ):Ex->VJ
 | .nrm,env,w=>next env w
 |e,env,w=>Q e env w
def kq(id:Nat)(Q:Ex->VJ):Ex->VJ
 | .ext i,env,w=>match Nat.beq i id with
  |true=>Q .nrm env w
  |false=>Q (.ext i) env w
 |e,env,w=>Q e env w
def Tb(a:dE)(c:Operand)(A B:dE->Prop):Prop:=
 match Gp a c with
 |some (some true)=>A a
 |some (some false)=>B a
 |some none=>False
 |none=>match c with
  | .tmp s=>eA (wF a s) (A (⟨s,.bool true,some (some true)⟩::a)) (B (⟨s,.bool false,some (some false)⟩::a))
  |_=>eA (ev a c) (A a) (B a)
def De(P:Program)(n:Nat):Code->WQ->(Ex->VJ)->dE->World->Prop
 | .skip,_,Q,d,w=>Q .nrm d w
 | .label _,_,Q,d,w=>Q .nrm d w
 | .ret,_,Q,d,w=>Q .ret d w
 | .exit id,_,Q,d,w=>Q (.ext id) d w
 | .region _ ops draw,h,Q,d,w=>match hK h with
  |none=>Vt P n ops draw (hE h) (hQ h) d w (Q .nrm)
  |some keep=>Jf n keep (CZ ops.toList) d (Q .nrm) λJ=>Vt P n ops draw (hE h) (hQ h) d w J
 | .seq a b,h,Q,d,w=>De P n a (hL h) (Ek (De P n b (hR h) Q) Q) d w
 | .cond c x y,h,Q,d,w=>match hK h with
  |none=>Tb d c (λd=>De P n x (hL h) Q d w) (λd=>De P n y (hR h) Q d w)
  |some keep=>Jf n keep (wr x++wr y) d (Q .nrm) λJ=>Tb d c (λd=>De P n x (hL h) (Ek J Q) d w) (λd=>De P n y (hR h) (Ek J Q) d w)
 | .block id b,h,Q,d,w=>De P n b h (kq id Q) d w
 | .scope b,h,Q,d,w=>De P n b h Q d w
 | .loop b,h,Q,d,w=>match PO n ((hK h).getD [])&&PO n (wr b)with
  |true=>lp (λe i w=>∀j:Nat->Value,De P n b (hL h) (Ek (λf g=>e (OX ((hK h).getD []) f) g) Q) (cT ((hK h).getD []) 0 i (dT (wr b) j d)) w) (OX ((hK h).getD []) d) w
  |false=>False
 |_,_,_,_,_=>False
def uk(P:Program)(b:dE)(w:World):List ResultVar->(List Value->Prop)->Prop
 |[],K=>K []
 | .tmp t::r,K=>uk P b w r λc=>K (wF b t::c)
 | .cell a t::r,K=>Mu P w t (wF b a) λv=>uk P b w r λc=>K (v::c)
def Zo:List Value->Value
 |[v]=>v
 |vs=>.tuple vs.toArray
def vM:Nat->List Value->dE
 |_,[]=>[]
 |i,v::r=>⟨i,v,none⟩::vM (i+1) r
def Bw(P:Program)(a:Func)(e:Code)(h:WQ)(d:List Value)(w:World)(R:Value->World->Prop):Prop:=
 De P a.ntmps e h (λf c w=>match f with
  | .nrm=>uk P c w a.results.toList λb=>R (Zo b) w
  | .ret=>uk P c w a.results.toList λb=>R (Zo b) w
  | .ext _=>False) (vM 0 d) w
structure Ag(n:Nat)(env:dE)(a:Act):Prop where
 defers:a.defers=[]
 size:a.tmps.size=n
 vals:∀s,a.tmps.getD s undef=wF env s
 ok:NN env
def RB(W:List Nat)(a b:dE):Prop:=∀s,s∉W->wF b s=wF a s
theorem RB.refl(W:List Nat)(a:dE):RB W a a:=λ_ _=>rfl
theorem RB.trans{a b Q:dE}(h:RB m a b)(k:RB m b Q):RB m a Q:=λs c=>(k s c).trans (h s c)
theorem RB.mono{a:List Nat}{Q b:dE}(h:RB m Q b)(d:∀s,s∈m->s∈a):RB a Q b:=λs c=>h s λe=>c (d s e)
theorem Ag.eval{Q:dE}(h:Ag n Q M):M.eval=ev Q:=by
 funext x;cases x<;>first|exact h.vals _|rfl
theorem tf(h:x≠n):Nat.beq x n=false:=by
 cases e:Nat.beq x n with
 |false=>rfl
 |true=>exact absurd (Nat.eq_of_beq_eq_true e) h
theorem mI(s:Nat)(v:Value)(k:Option (Option Bool))(a:dE)(t:Nat):wF (⟨s,v,k⟩::a) t=if s=t then v else wF a t:=by
 by_cases h:s=t
 ·subst h;simp[wF]
 ·simp[wF,h,tf h]
theorem Ml(s:Nat)(v:Value)(k:Option (Option Bool))(a:dE)(t:Nat):M2 (⟨s,v,k⟩::a) t=if s=t then k else M2 a t:=by
 by_cases h:s=t
 ·subst h;simp[M2]
 ·simp[M2,h,tf h]
theorem NN.cons{Q:dE}(h:NN Q)(c:∀b,I=some b->v=kv b):NN (⟨x,v,I⟩::Q):=by
 intro t b a;rw[Ml]at a;rw[mI];split at a
 ·rename_i e;simp[e];exact c b a
 ·rename_i e;simp[e];exact h t b a
theorem Ag.put{Q:dE}(h:Ag x Q M)(a:n<x){k:Option (Option Bool)}(c:∀b,k=some b->v=kv b):Ag x (⟨n,v,k⟩::Q) (M.put (some n) v):=by
 refine⟨h.defers,by simp[Act.put,h.size],λs=>?_,h.ok.cons c⟩;rw[mI];have d:n<M.tmps.size:=by rw[h.size];exact a
 by_cases e:n=s
 ·subst e;simp[Act.put,d]
 ·simp only[e,if_false];rw[<-h.vals s];simp[Act.put,Array.getElem?_setIfInBounds_ne e]
theorem Ag.learn{Q:dE}(h:Ag x Q M)(a:wF Q n= .bool K):Ag x (⟨n,.bool K,some (some K)⟩::Q) M:=
 ⟨h.defers,h.size,λt=>by
  rw[mI,h.vals t];split
  ·rename_i e;subst e;exact a
  ·rfl,h.ok.cons λb e=>by cases e;rfl⟩
theorem qK{Q:dE}(a:wF Q x= .bool K):RB m Q (⟨x,.bool K,I⟩::Q):=λt _=>by
 rw[mI];split
 ·rename_i e;subst e;exact a.symm
 ·rfl
theorem pp{Q:dE}(a:x∈m)(v:Value)(k:Option (Option Bool)):RB m Q (⟨x,v,k⟩::Q):=λt b=>by
 rw[mI,if_neg];rintro rfl;exact b a
theorem NO{Q:dE}{a:Option Nat}{K:dE->Prop}(h:GN x Q a v I K)(e:Ag x Q M)
  (f:∀b,I=some b->v=kv b)(i:∀d,a=some d->d∈m):∃c,K c/\Ag x c (M.put a v)/\RB m Q c:=by
 unfold GN at h;cases a with
 |none=>exact⟨Q,h,e,RB.refl _ _⟩
 |some d=>
  simp only[]at h;split at h
  ·rename_i g;exact⟨_,h,e.put (Nat.le_of_ble_eq_true g) f,pp (i d rfl) _ _⟩
  ·exact h.elim
theorem TR{Q:dE}(b:Ag n Q M)(d:(O[f]?).bind (·.dst)=some C)(c:wF Q C= .bool K):
  yielded O M.tmps f=some K:=by
 have a:=b.vals C;rw[c]at a;have:M.tmps[C]?=some (.bool K):=by
  cases e:M.tmps[C]? with
  |none=>simp[e,undef]at a
  |some x=>simp[e]at a;rw[a]
 simp[yielded,d,this]
theorem VQ{Q:dE}{a:Act}{A B:dE->Prop}(h:I7 O D Q A B)(b:Ag n Q a)(W:List Nat):
  ∃k,Ag n k a/\RB W Q k/\((Region.wanted D (yielded O a.tmps)=true/\A k)∨(Region.wanted D (yielded O a.tmps)=false/\B k)):=by
 unfold I7 at h;cases e:D.guard with
 |none=>simp only[e]at h;exact⟨Q,b,RB.refl _ _,.inl ⟨by simp[Region.wanted,e],h⟩⟩
 |some jw=>
  obtain⟨o,t⟩:=jw;simp only[e]at h;cases g:(O[o]?).bind (·.dst)with
  |none=>
   simp only[g]at h;exact⟨Q,b,RB.refl _ _,.inr ⟨by simp[Region.wanted,e,yielded,g],h⟩⟩
  |some s=>
   simp only[g]at h;cases l:M2 Q s with
   |some c=>
    simp only[l]at h;cases c with
    |none=>
     refine⟨Q,b,RB.refl _ _,.inr ⟨?_,h⟩⟩;have m:=b.vals s;rw[b.ok s none l]at m;have f:yielded O a.tmps o=none:=by
      simp only[yielded,g,Option.bind_some];cases i:a.tmps[s]? with
      |none=>rfl
      |some x=>simp[i,kv]at m;rw[m];rfl
     simp[Region.wanted,e,f]
    |some c=>
    have f:=TR b g (b.ok s (some c) l);simp only[]at h;split at h
    ·rename_i i;exact⟨Q,b,RB.refl _ _,.inl ⟨by simp[Region.wanted,e,f];simpa using i,h⟩⟩
    ·rename_i i;exact⟨Q,b,RB.refl _ _,.inr ⟨by simp[Region.wanted,e,f];simpa using i,h⟩⟩
   |none=>
    simp only[l]at h;have p:∀{X Y:Prop},eA (wF Q s) X Y-> ∃c,wF Q s= .bool c/\(if c then X else Y):=by
     intro X Y ⟨c,d,q,r⟩;refine⟨c,d,?_⟩;cases c
     ·simpa using r rfl
     ·simpa using q rfl
    cases t
    ·obtain⟨c,d,j⟩:=p h;have f:=TR b g d;cases c
     ·exact⟨_,b.learn d,qK d,.inl ⟨by simp[Region.wanted,e,f],by simpa using j⟩⟩
     ·exact⟨_,b.learn d,qK d,.inr ⟨by simp[Region.wanted,e,f],by simpa using j⟩⟩
    ·obtain⟨c,d,j⟩:=p h;have f:=TR b g d;cases c
     ·exact⟨_,b.learn d,qK d,.inr ⟨by simp[Region.wanted,e,f],by simpa using j⟩⟩
     ·exact⟨_,b.learn d,qK d,.inl ⟨by simp[Region.wanted,e,f],by simpa using j⟩⟩
theorem St{W:List Nat}{Q:Exit->Act->World->Prop}{K:VJ}:∀(m:List Oper) (h:dE) (j:Act) (w:World),
  Vo Z x O m h w K->Ag x h j->(∀o∈m,∀d,o.dst=some d->d∈W)->
  (∀k a b,K k b->Ag x k a->RB W h k->Q .normal a b)->wpList Z O Q m j w:=by
 intro m
 induction m with
 |nil=>intro h j w p s _ u;exact u h j w p s (RB.refl _ _)
 |cons o r ih=>
  intro h j w p s y u;have q:∀d,o.dst=some d->d∈W:=y o (by simp);have D:∀o∈r,∀d,o.dst=some d->d∈W:=λM H=>y M (by simp[H]);obtain⟨A,i,J,E⟩:=VQ p s W;have next:∀{c:dE} {a b},Vo Z x O r c b K->Ag x c a->RB W A c->wpList Z O Q r a b:=λ{c a b} e f g=>
   ih c a b e f D λk a b hK l C=>u k a b hK l ((J.trans g).trans C)
  unfold wpList;rcases E with⟨v,l⟩|⟨v,B⟩
  ·rw[v];refine .inl ?_;split at l
   ·rename_i L;obtain⟨N,P,I,t,G⟩:=ni i.eval i.ok L l;unfold Oper.wp;rw[I w (bA.refl w),Oper.upon_value];obtain⟨c,e,f,g⟩:=NO t i G q;exact next e f g
   ·have:=U9 (Q:=Q) i.eval l;refine Oper.wp_mono (λa b ⟨N,F,t⟩=>?_) this;obtain⟨c,e,f,g⟩:=NO t i (λz n=>by cases n) q;rw[F];exact next e f g
  ·rw[v];obtain⟨c,e,f,g⟩:=NO B i (λz n=>by cases n;rfl) q;exact next e f g
section
variable{P:Program}{E:World->World->Prop}{ops:Array Oper}{quiet:List Nat}
def Er(P:Program)(v:Value)(w:World):Result Next->Prop
 | .ok (.value u) w'=>w'=w/\u=v
 | .ok (.enter f args) w'=>w'=w/\Calls P f args w (λe a=>e= .returned v/\bA w a)
 |_=>False
def Yc(P:Program)(E:World->World->Prop)(ops:Array Oper)(c:Bool)(o:Oper)(v:Value)(a:Act)(w:World):Prop:=
 (Region.wanted o (yielded ops a.tmps)=true/\ ∀b,(c=true∨E w b)->Er P v b ((execOp a.eval o).run P b))∨
 (Region.wanted o (yielded ops a.tmps)=false/\v=undef)
theorem Yc.of_same{a:Act}(d:Yc P E ops K D v M w)(b:execOp a.eval D=execOp M.eval D)
  (c:Region.wanted D (yielded ops a.tmps)=Region.wanted D (yielded ops M.tmps)):Yc P E ops K D v a w:=by
 unfold Yc at*;rw[b,c];exact d
theorem Yc.later(f:∀w c w'':World,E w c->E c w''->E w w'')(i:Yc P E ops K D v M w)(b:K=true∨E w a):Yc P E ops K D v M a:=by
 rcases i with⟨d,e⟩|h
 ·refine .inl ⟨d,λc g=>e c ?_⟩;rcases b with b|b
  ·exact .inl b
  ·exact g.imp id (f _ _ _ b)
 ·exact .inr h
def lL(P:Program)(E:World->World->Prop)(quiet:List Nat)(ops:Array Oper)(Q:Act->World->Prop):Nat->Array Bool->Act->World->Prop
 |0,listed,a,w=>∀b,bA w b->Region.ready .any ops listed=[]/\Q a b
 |m+1,listed,a,w=>∀b,bA w b->(Region.ready .any ops listed=[]->Q a b)/\
  ∀i∈Region.ready .any ops listed,wpOp P ops (λ_ _ _=>False) i (λd c=>((Tj P quiet ops i=true->E b c)/\(H2 P ops i=true->bA b c))/\lL P E quiet ops Q m (listed.setIfInBounds i true) d c) a b
theorem lL.later{b:Array Bool}(h:lL P E quiet ops L x b M w)(d:bA w a):lL P E quiet ops L x b M a:=by
 cases x<;>exactλe c=>h e (d.trans c)
theorem Dp{f:Act->World->Prop}(h:wpOp P ops (λ_ _ _=>False) n L M w)(b:∀M w,L M w->f M w):wpOp P ops c n f M w:=by
 unfold wpOp at*;split
 ·rename_i d;simp only[d]at h;exact b _ _ h
 ·rename_i o d;simp only[d]at h;split
  ·rename_i e;simp only[e,if_true]at h;refine .inl ?_;rcases h with h|⟨_,M,w,h⟩
   ·unfold Oper.wp at*;generalize(execOp M.eval o).run P w=r at*;cases r with
    |ok j k=>
     cases j<;>simp only[Oper.upon]at h⊢ <;>
      first
       |exact b _ _ h
       |exact Calls.mono h (λg l a=>by cases g<;>first|exact b _ _ a|exact a.elim|exact(let⟨_,_,i⟩:=a;i.elim))
       |exact Rows.mono h (λ_ _ a=>b _ _ a)
    |halt x k=>cases x<;>simp only[Oper.upon]at h
   ·exact h.elim
  ·rename_i e;simp only[e]at h;exact b _ _ h
theorem nP(hQ:∀a w,L a w->c .normal a w):∀(m:Nat) (b:Array Bool) (a:Act) (w:World),
  lL P E quiet ops L m b a w->wpAny P .any ops c m b a w
 |0,_,_,w,h=>⟨(h w (bA.refl w)).1,hQ _ _ (h w (bA.refl w)).2⟩
 |m+1,_,_,w,h=>⟨λe=>hQ _ _ ((h w (bA.refl w)).1 e),λi g=>Dp ((h w (bA.refl w)).2 i g) λd j f=>nP hQ m _ d j f.2⟩
theorem Cp{d:Oper}(y:ops[n]?=some d)(s:D.apart ops d=true)
  (z:∀cs b,D.op≠ .select cs b)(A:∀cs b,d.op≠ .select cs b)
  (e:Yc P E ops K D v M w)(h:wpOp P ops (λ_ _ _=>False) n L (M.put D.dst v) a):
  wpOp P ops (λ_ _ _=>False) n (λo m=>Yc P E ops K D v o w/\L (o.put D.dst v) m) M a:=by
 obtain⟨p,g,q⟩:=Oper.apart_spec s;have i:∀(M:Act),Yc P E ops K D v M w-> ∀u,Yc P E ops K D v (M.put d.dst u) w:=λM e u=>
  e.of_same (execOp_put D z M d.dst u q) (wanted_put D M d.dst u q)
 have B:∀k,Yc P E ops K D v {M with defers:=k::M.defers} w:=λk=>e.of_same rfl rfl;unfold wpOp at*;simp only[y]at*;rw[wanted_put d M D.dst v p]at h;split
 ·rename_i l;simp only[l,if_true]at h;rcases h with h|⟨_,M,a,t⟩
  case inr=>exact t.elim
  refine .inl ?_;unfold Oper.wp at*;rw[execOp_put d A M D.dst v p]at h;generalize(execOp M.eval d).run P a=F at*;cases F with
  |ok C m=>
   cases C<;>simp only[Oper.upon]at h⊢
   case value u=>exact⟨i M e u,by rw[<-Act.put_comm M v u g];exact h⟩
   case skip=>exact⟨i M e _,by rw[<-Act.put_comm M v undef g];exact h⟩
   case defer k=>
    refine⟨i _ (B k) _,?_⟩;rw[<-Act.put_comm _ v undef g,<-Act.put_defers];exact h
   case enter f args=>
    refine Calls.mono h λr G j=>?_;cases r with
    |returned u=>exact⟨i M e u,by rw[<-Act.put_comm M v u g];exact j⟩
    |panicked c=>exact j.elim
    |outgrown=>exact j
   case row row args=>exact Rows.mono h λu G j=>⟨i M e u,by rw[<-Act.put_comm M v u g];exact j⟩
  |halt x m=>cases x<;>simp only[Oper.upon]at h
 ·rename_i l;simp only[l]at h;exact⟨i M e _,by rw[<-Act.put_comm M v undef g];exact h⟩
theorem Yc.wpOp(i:∀w c:World,bA w c->E w c)(l:ops[x]?=some D)(o:Yc P E ops K D v M w)(k:bA w a)(h:∀w2,bA a w2->L (M.put D.dst v) w2):wpOp P ops (λ_ _ _=>False) x L M a:=by
 unfold Go.wpOp;simp only[l];rcases o with⟨d,m⟩|⟨d,rfl⟩
 ·simp only[d,if_true];refine .inl ?_;have b:=m a (.inr (i _ _ k));unfold Oper.wp;generalize(execOp M.eval D).run P a=r at*;cases r with
  |halt s c=>exact b.elim
  |ok n c=>
   cases n<;>first|exact b.elim|skip
   case value u=>obtain⟨rfl,rfl⟩:=b;exact h _ (bA.refl _)
   case enter f args=>
    obtain⟨rfl,j⟩:=b;rw[Oper.upon_enter];refine j.mono λp q ⟨e,g⟩=>?_;subst e;exact h _ g
 ·simp only[d,Bool.false_eq_true,if_false];exact h _ (bA.refl _)
def Cg(ops:Array Oper)(a:Array Bool):Prop:=∀(k:Nat) (o:Oper),ops[k]?=some o->a.getD k false=true-> ∀e∈o.after,Region.binds .any e=true->a.getD e.on false=true
theorem QW(n:Nat):Cg ops (Array.replicate n false):=λk o _ a=>by
 have:(Array.replicate n false).getD k false=false:=by simp[Array.getElem?_replicate];split<;>rfl
 rw[this]at a;cases a
theorem OV{a:Array Bool}(i:Cg ops a)(l:x∈Region.ready .any ops a):Cg ops (a.setIfInBounds x true):=by
 intro k o g d e c b;obtain⟨_,m,h,j⟩:=mem_ready.1 l;by_cases f:x=k
 ·subst f;rw[g]at h;cases h;exact getD_set_true (j e c b)
 ·rw[getD_set_ne false f]at d;exact getD_set_true (i k o g d e c b)
def Kp(ops:Array Oper)(i j:Nat):Prop:=∀a:Array Bool,Cg ops a->(∀o,ops[j]?=some o-> ∀e∈o.after,Region.binds .any e=true->a.getD e.on false=true)->a.getD i false=true
theorem Cf(b:List Nat)(i:Nat):∀(l:List Edge) (s:Nat),(l.foldl (λs e=>match Region.binds .any e with|true=>s|||2^e.on|||b.getD e.on 0|false=>s) s).testBit i=true->
  s.testBit i=true∨ ∃e∈l,Region.binds .any e=true/\(e.on=i∨(b.getD e.on 0).testBit i=true)
 |[],s,h=>.inl h
 |e::l,s,h=>by
  rw[List.foldl_cons]at h;rcases Cf b i l _ h with h|⟨c,d,a⟩
  ·cases a:Region.binds .any e with
   |false=>rw[a]at h;exact .inl h
   |true=>
    rw[a]at h;simp only[Nat.testBit_or,Bool.or_eq_true,Nat.testBit_two_pow,decide_eq_true_eq]at h;rcases h with(h|h)|h
    ·exact .inl h
    ·exact .inr ⟨e,by simp,a,.inl h⟩
    ·exact .inr ⟨e,by simp,a,.inr h⟩
  ·exact .inr ⟨c,by simp[d],a⟩
theorem PW:∀(r:List Oper) (b:List Nat),(∀j,r[j]?=ops[b.length+j]?)->(∀j i,(b.getD j 0).testBit i=true->Kp ops i j)-> ∀j i,((bf r b).getD j 0).testBit i=true->Kp ops i j
 |[],b,_,h=>h
 |o::r,b,hr,h=>by
  have k:ops[b.length]?=some o:=by simpa using(hr 0).symm
  refine PW r (b++[iq b o]) (λj=>by have:=hr (j+1);simpa[Nat.add_assoc,Nat.add_comm 1 j]using this) ?_;intro j i a;rcases Nat.lt_trichotomy j b.length with c|c|c
  ·rw[List.getD_eq_getElem?_getD,List.getElem?_append_left c,<-List.getD_eq_getElem?_getD]at a;exact h j i a
  ·subst c;rw[List.getD_eq_getElem?_getD,List.getElem?_append_right (Nat.le_refl _)]at a;simp at a;rcases Cf b i _ _ a with a|⟨e,n,l,a⟩
   ·simp at a
   ·intro t d q;have f:=q o k e (by simpa using n) l;rcases a with rfl|a
    ·exact f
    ·exact h e.on i a t d (λu s g p m=>d e.on u s f g p m)
  ·rw[List.getD_eq_getElem?_getD,List.getElem?_eq_none (by simp;omega)]at a;simp at a
theorem rr{a:Array Bool}(k:ops[x]?=some D)(y:G2 P quiet x D=true)(u:tF P quiet D=false)(s:x≠n)(j:Cg ops a)(l:n∈Region.ready .any ops a)(z:x∈Region.ready .any ops a)(A:a.getD x false=false):
  Tj P quiet ops n=true:=by
 have t:x<ops.size:=(Array.getElem?_eq_some_iff.1 k).1;simp only[Tj,List.any_eq_true,List.mem_range];refine⟨x,t,?_⟩;simp only[k,y,u,Bool.not_false,Bool.and_true,Bool.true_and];have o:(x==n)=false:=by simpa using s
 have p:((bf ops.toList []).getD n 0).testBit x=false:=by
  rw[Bool.eq_false_iff];intro h;obtain⟨_,F,w,g⟩:=mem_ready.1 l;have c:=PW (ops:=ops) ops.toList [] (λn=>by simp) (λn x b=>by simp at b) n x h a j (λB d e i b=>by rw[w]at d;cases d;exact g e i b);rw[A]at c;cases c
 have q:((bf ops.toList []).getD x 0).testBit n=false:=by
  rw[Bool.eq_false_iff];intro h;obtain⟨_,C,v,g⟩:=mem_ready.1 z;have c:=PW (ops:=ops) ops.toList [] (λn=>by simp) (λn x b=>by simp at b) x n h a j (λB d e i b=>by rw[v]at d;cases d;exact g e i b);have m:=(mem_ready.1 l).1;have r:a.getD n false=false:=by
   rcases Nat.lt_or_ge n a.size with f|f
   ·simpa[f]using m
   ·simp[Array.getElem?_eq_none f]
  rw[r]at c;cases c
 rw[o,p,q];rfl
theorem sr{a:Array Bool}(g:ops[n]?=some D)(A:HC P D=false)(u:x≠n)(s:Cg ops a)(e:n∈Region.ready .any ops a)(h:x∈Region.ready .any ops a):
  Uj P quiet ops x=true:=by
 have y:n<ops.size:=(Array.getElem?_eq_some_iff.1 g).1;have i:∀{k l:Nat},k∈Region.ready .any ops a->l∈Region.ready .any ops a->((bf ops.toList []).getD k 0).testBit l=false:=by
  intro k l v w;rw[Bool.eq_false_iff];intro m;obtain⟨_,ok,z,r⟩:=mem_ready.1 v;have d:=PW (ops:=ops) ops.toList [] (λn=>by simp) (λn x c=>by simp at c) k l m a s (λB f j t c=>by rw[z]at f;cases f;exact r j t c);have o:=(mem_ready.1 w).1;have q:a.getD l false=false:=by
   rcases Nat.lt_or_ge l a.size with b|b
   ·simpa[b]using o
   ·simp[Array.getElem?_eq_none b]
  rw[q]at d;cases d
 unfold Uj;split
 ·rfl
 ·rw[List.any_eq_true];refine⟨n,List.mem_range.2 y,?_⟩;have p:(x==n)=false:=by simpa using u
  simp only[g,A,p,i e h,i h e];rfl
theorem aZ{Ei:World->World->Prop}(G:∀w a:World,bA w a->E w a)(r:∀w a:World,bA w a->Ei w a)(B:∀w a w'':World,Ei w a->Ei a w''->Ei w w'')(U:Uj P quiet ops x=true-> ∀w a,E w a->Ei w a)(y:ops[x]?=some D)(O:∀(j:Nat) (o:Oper) q p,ops[j]?=some o->o.op≠ .select q p)(ab:K=tF P quiet D)(af:G2 P quiet x D=true):
  ∀(t:Nat) (c:Array Bool) (n:Act) (w:World),Cg ops c->
   (∀j h,ops[j]?=some h->j≠x->c.getD j true=false->(∀e∈h.after,Region.binds .any e=true->e.on≠x)->D.apart ops h=true)->
   x∈Region.ready .any ops c->Yc P Ei ops K D v n w->
   lL P E quiet ops L t (c.setIfInBounds x true) (n.put D.dst v) w->lL P E quiet ops L (t+1) c n w:=by
 intro t
 induction t with
 |zero=>
  intro c n w _ _ f z H F b;refine⟨λA=>(by rw[A]at f;cases f),λj l=>?_⟩;by_cases d:j=x
  ·subst d;exact z.wpOp r y b λw2 g=>⟨⟨λ_=>G _ _ g,λ_=>g⟩,H.later (b.trans g)⟩
  ·have:=ready_mono l d;rw[(H F b).1]at this;cases this
 |succ t ih=>
  intro c n w C I f z H F b;refine⟨λA=>(by rw[A]at f;cases f),λj l=>?_⟩;by_cases d:j=x
  ·subst d;exact z.wpOp r y b λw2 g=>⟨⟨λ_=>G _ _ g,λ_=>g⟩,H.later (b.trans g)⟩
  ·have k:=(H F b).2 j (ready_mono l d);obtain⟨M,h,s,W⟩:=mem_ready.1 l;have ae:∀e∈h.after,Region.binds .any e=true->e.on≠x:=λe b X Y=>by
    have k:=W e b X;have u:=(mem_ready.1 f).1;rw[Y]at k;rcases Nat.lt_or_ge x c.size with i|i
    ·simp[i]at u k;rw[u]at k;cases k
    ·simp[Array.getElem?_eq_none i]at k
   have g:=Cp s (I j h s d M ae) (λq p=>O x D q p y) (λq p=>O j h q p s) z k;have Z:∀m ok,ops[m]?=some ok->m≠x->(c.setIfInBounds j true).getD m true=false->
     (∀e∈ok.after,Region.binds .any e=true->e.on≠x)->D.apart ops ok=true:=λm ok hk aa R ad=>by
    refine I m ok hk aa ?_ ad;by_cases J:j=m
    ·subst J;exact M
    ·rw[getD_set_ne true J]at R;exact R
   refine wpOp_mono (λS a T=>?_) g;obtain⟨ag,hE,V⟩:=T;refine⟨hE,?_⟩
   --the worlds beyond a are such that x yields there what it does
   have ac:K=true∨Ei w a:=by
    cases N:tF P quiet D with
    |true=>exact .inl (ab.trans N)
    |false=>
     cases Q:HC P h with
     |true=>exact .inr (B _ _ _ (r _ _ b) (r _ _ (hE.2 (by unfold H2;rw[s];exact Q))))
     |false=>
     refine .inr (B _ _ _ (r _ _ b) (U (sr s Q (Ne.symm d) C l f) _ _ (hE.1 (rr y af N (Ne.symm d) C l f ?_))));have u:=(mem_ready.1 f).1;rcases Nat.lt_or_ge x c.size with i|i
     ·simpa[i]using u
     ·simp[Array.getElem?_eq_none i]
   exact ih (c.setIfInBounds j true) S a (OV C l) Z (ready_mono f (Ne.symm d)) (Yc.later (E:=Ei) B ag ac) (by rw[Array.setIfInBounds_comm _ _ d];exact V)
end
section
variable{P:Program}{ops:Array Oper}{quiet:List Nat}{n:Nat}
theorem LO{d:Array Bool}:∀(l:List Nat) {i:Nat},QQ P quiet ops d l=some i->i∈l/\ ∃o,ops[i]?=some o/\G2 P quiet i o=true/\Region.free .any ops d i=true
 |[],_,h=>by cases h
 |j::r,i,h=>by
  unfold QQ at h;split at h
  ·rename_i o e;split at h
   ·rename_i c;cases h;simp only[Bool.and_eq_true]at c;exact⟨by simp,o,e,c.1,c.2⟩
   ·obtain⟨a,b⟩:=LO r h;exact⟨by simp[a],b⟩
  ·obtain⟨a,b⟩:=LO r h;exact⟨by simp[a],b⟩
theorem yd{Q:dE}(l:M.eval=ev Q)(K:NN Q)(L:HC P D=true)(h:FH P D Q w F):
  ∃v m,(∀a,(tF P quiet D=true∨bA w a)->(execOp M.eval D).run P a= .ok (.value v) a)/\F v m/\(∀u,m=some u->v=kv u):=by
 obtain⟨v,m,z,G,H⟩:=ni l K L h;refine⟨v,m,λa O=>?_,G,H⟩;rcases O with b|hE
 ·have d:=z w (bA.refl w);obtain⟨j,f,p,o,i,k⟩:=D;cases f<;>(try (simp[tF]at b;done))
  ·simp[execOp]at d⊢;exact d
  ·simp[execOp]at d⊢;exact d
  ·rename_i f t x y A;simp only[tF]at b;split at b
   ·rename_i U e;simp only[FH,Ns,e]at h;obtain⟨X,N,-⟩:=Rm (P:=P) (t:=t) (xo:=x) (yo:=y) h;have c:∀a,(execOp M.eval ⟨j,.binOp f t x y A,p,o,i,k⟩).run P a= .ok (.value X) a:=λa=>by
     rw[show execOp M.eval ⟨j,.binOp f t x y A,p,o,i,k⟩=(do pure (.value (<-(do eqGuard f t x y (M.eval x) (M.eval y);binOp f t (M.eval x) (M.eval y)))))by simp only[execOp],l];rw[Sem.run_bind,N a];rfl
    have g:=d.symm.trans (c w);cases g;exact c a
   ·cases b
  ·rename_i V x B
   clear b
   simp only[FH]at h;obtain⟨fs,fl,ab,aa,e,I,r,hg,R,q,s,-⟩:=lh h;have c:∀a,(execOp M.eval ⟨j,.fieldAddr V x B,p,o,i,k⟩).run P a= .ok (.value (.pointer (some (q.add fl.offset)))) a:=λa=>by
    simp[execOp,l,s,Instr.fieldAt,CD e,I,Instr.sureAddr,fieldPlace,AE r,R]
   have g:=d.symm.trans (c w);cases g;exact c a
  ·rename_i t x S;simp only[tF]at b;split at b
   ·rename_i Z e;simp only[FH,Zb,e]at h;split at h
    ·rename_i W r;obtain⟨q,n,Y,U,T,s,J,C,E,-⟩:=h;have c:∀a,(execOp M.eval ⟨j,.indexAddr t x S,p,o,i,k⟩).run P a= .ok (.value (.pointer (some (q.add (T.toNat*W.size))))) a:=λa=>by
      simp[execOp,l,s,J,Instr.indexAt,CD e,asIntOf,AE r,C,E]
     have g:=d.symm.trans (c w);cases g;exact c a
    ·exact h.elim
   ·cases b
 ·exact z a hE
theorem ta:∀{l:List Nat} {i:Nat},Ms l g->i∈l->g i
 |[],_,_,h=>by cases h
 |[j],i,h,hm=>by simp at hm;subst hm;exact h
 |j::k::r,i,h,hm=>by
  obtain⟨a,b⟩:=h;cases hm with
  |head=>exact a
  |tail _ hm=>exact ta b hm
theorem qv{A:Prop}(h:Ux K w a A):(K=true->bA w a)/\A:=by
 cases K
 ·exact⟨(λe=>by cases e),h⟩
 ·exact⟨λ_=>h.1,h.2⟩
theorem xq(hs:Region.noSelect ops=true){W:List Nat}(hW:∀(i:Nat) (o:Oper),ops[i]?=some o-> ∀d,o.dst=some d->d∈W){K:VJ}:∀(m:Nat) (c:Array Bool) (r:dE) (e:Act) (w:World),
  wq P n quiet ops m c r w K->Ag n r e->Cg ops c->lL P bA quiet ops (λf b=>∃a,K a b/\Ag n a f/\RB W r a) m c e w:=by
 intro m
 induction m with
 |zero=>
  intro c r e w h I _ p k;unfold wq at h;split at h
  ·rename_i x;exact⟨x,r,h p k,I,RB.refl _ _⟩
  ·exact h.elim
 |succ m ih=>
  intro c r e w h I X;have al:∀{q:dE} {m:Nat} {c:Array Bool} {e:Act} {w:World},RB W r q->lL P bA quiet ops (λf b=>∃a,K a b/\Ag n a f/\RB W q a) m c e w->
    lL P bA quiet ops (λf b=>∃a,K a b/\Ag n a f/\RB W r a) m c e w:=by
   intro q m
   induction m with
   |zero=>intro c e w M h p k;obtain⟨C,g,j,D,F⟩:=h p k;exact⟨C,g,j,D,M.trans F⟩
   |succ m ihm=>
    intro c e w M h p k;obtain⟨C,j⟩:=h p k;refine⟨λx=>?_,λi s=>wpOp_mono (λf b ⟨hE,Z⟩=>⟨hE,ihm M Z⟩) (j i s)⟩;obtain⟨g,j,D,F⟩:=C x;exact⟨g,j,D,M.trans F⟩
  unfold wq at h;split at h
  ·rename_i x;intro p k;exact⟨λ_=>⟨r,h p k,I,RB.refl _ _⟩,λi s=>by rw[x]at s;cases s⟩
  ·rename_i r0 rs G;split at h
   ·rename_i i l;obtain⟨ax,o,t,hq,av⟩:=LO _ l;have ai:i∈Region.ready .any ops c:=by rw[G];exact ax
    simp only[t]at h;obtain⟨q,z,aa,V⟩:=VQ (W:=W) h I;refine al aa ?_;have first:∀{v:Value},Yc P bA ops (tF P quiet o) o v e w->lL P bA quiet ops (λf b=>∃a,K a b/\Ag n a f/\RB W q a) m (c.setIfInBounds i true) (e.put o.dst v) w->_:=λ{v} hy am=>
     aZ (P:=P) (E:=bA) (Ei:=bA) (quiet:=quiet) (λ_ _ h=>h) (λ_ _ h=>h) (λ_ _ _ h bb=>h.trans bb) (λ_ _ _ h=>h) t (Region.noSelect_spec hs) rfl hq m c e w X (Region.free_spec t av) ai hy am
    have H:∀{v:Value} {B:Option (Option Bool)},GN n q o.dst v B (λa=>wq P n quiet ops m (c.setIfInBounds i true) a w K)->(∀u,B=some u->v=kv u)->
      lL P bA quiet ops (λf b=>∃a,K a b/\Ag n a f/\RB W q a) m (c.setIfInBounds i true) (e.put o.dst v) w:=by
     intro v B l J;obtain⟨L,j,U,N⟩:=NO l z J (hW i o t);have:=ih _ L _ w j U (OV X ai);have wk:∀{m:Nat} {c:Array Bool} {e:Act} {w:World},lL P bA quiet ops (λf b=>∃a,K a b/\Ag n a f/\RB W L a) m c e w->
       lL P bA quiet ops (λf b=>∃a,K a b/\Ag n a f/\RB W q a) m c e w:=by
      intro m
      induction m with
      |zero=>intro c e w h p k;obtain⟨C,g,j,D,F⟩:=h p k;exact⟨C,g,j,D,N.trans F⟩
      |succ m ihm=>
       intro c e w h p k;obtain⟨C,j⟩:=h p k;refine⟨λx=>?_,λi s=>wpOp_mono (λf b ⟨hE,Z⟩=>⟨hE,ihm Z⟩) (j i s)⟩;obtain⟨g,j,D,F⟩:=C x;exact⟨g,j,D,N.trans F⟩
     exact wk this
    rcases V with⟨A,y⟩|⟨A,R⟩
    ·split at y
     ·rename_i ab;obtain⟨v,B,az,l,J⟩:=yd z.eval z.ok ab y;exact first (.inl ⟨A,λb ac=>by rw[az b ac];exact⟨rfl,rfl⟩⟩) (H l J)
     ·rename_i ab;have ay:tF P quiet o=false:=by
       cases hm:tF P quiet o with
       |false=>rfl
       |true=>
        obtain⟨af,op,ak,aj,ad,ah⟩:=o;cases op<;>first|(simp[tF]at hm;done)|(simp[HC,KZ]at ab)
      obtain⟨af,op,ak,aj,ad,ah⟩:=o;cases op<;>first|exact y.elim|skip
      rename_i ao;obtain⟨ap,ae,an⟩:=ao;cases ap<;>first|exact y.elim|skip
      rename_i ag;obtain⟨v,hv,l⟩:=y;refine first (.inl ⟨A,λb ac=>?_⟩) (H l λu g=>by cases g)
      have hE:bA w b:=ac.resolve_left (by rw[ay];simp);have hx:execOp e.eval ⟨af,.call ⟨.value ag,ae,an⟩,ak,aj,ad,ah⟩=(do let d<-Deferred.ofValue (ev q ag) (Y8 q ae).toArray;invoke d.target d.args):=by
       rw[DZ z.eval,<-z.eval];simp only[execOp,resolve]
      obtain⟨bd,⟨fn,ar,aq,Y,hb,au⟩|⟨fn,ar,aq,bc,Y,G,O⟩,T⟩:=hv b hE
      ·rw[hx,JZ Y hb];exact⟨rfl,au.mono λg w3 ⟨bc,k,O⟩=>⟨by rw[k,(T _ _ O).1],(T _ _ O).2⟩⟩
      ·rw[hx,UV Y,G];exact⟨rfl,(T _ _ O).1⟩
    ·exact first (.inr ⟨A,rfl⟩) (H R λu g=>by cases g;rfl)
   ·intro p k;refine⟨(λx=>by rw[x]at G;cases G),λi s=>?_⟩;have aw:=s;rw[G]at s;have S:=ta (h p k) s;cases t:ops[i]? with
    |none=>simp only[t]at S
    |some o=>
     simp only[t]at S;obtain⟨q,z,aa,V⟩:=VQ (W:=W) S I;unfold wpOp;simp only[t];have H:∀{v:Value} {B:Option (Option Bool)} {Q:World},(∀u,B=some u->v=kv u)->GN n q o.dst v B (λa=>wq P n quiet ops m (c.setIfInBounds i true) a Q K)->
       lL P bA quiet ops (λf b=>∃a,K a b/\Ag n a f/\RB W r a) m (c.setIfInBounds i true) (e.put o.dst v) Q:=by
      intro v B Q J l;obtain⟨L,j,U,N⟩:=NO l z J (hW i o t);exact al (aa.trans N) (ih _ L _ Q j U (OV X aw))
     rcases V with⟨A,y⟩|⟨A,R⟩
     ·rw[A];refine .inl ?_;split at y
      ·exact y.elim
      rename_i ba;refine Oper.wp_mono (λf b ⟨v,g,l⟩=>?_) (U9 z.eval y);obtain⟨hE,l⟩:=qv l;rw[g];exact⟨⟨hE,λh=>(by unfold H2 at h;rw[t]at h;exact absurd h (by simpa using ba))⟩,H (λu g=>by cases g) l⟩
     ·rw[A];exact⟨⟨λ_=>bA.refl _,λ_=>bA.refl _⟩,H (λu g=>by cases g;rfl) R⟩
theorem Yx(h:bA w a):Ch g w a:=⟨h.os,h.tape,h.output,h.size,λk b _=>h.block k b⟩
theorem Xx{c:World}(h:Ch g w a)(k:Ch g a c):Ch g w c:=
 ⟨k.os.trans h.os,k.tape.trans h.tape,k.output.trans h.output,Nat.le_trans h.size k.size,λi d b=>(k.block i (by have:=h.size;omega) b).trans (h.block i d b)⟩
theorem Zp(h:Ch g w a):bA (bare w) a:=⟨h.os,h.tape,h.output,Nat.zero_le _,λk b=>absurd b (Nat.not_lt_zero k)⟩
theorem Fw(D:Nat->Prop):pw (Ch D):=⟨λ_ _ h=>Yx h,λ_ _ _ h k=>Xx h k,λ_ _ h=>Zp h⟩
theorem Rs{A:Prop}(h:Cw V K w a A):(K=true->V w a)/\A:=by
 cases K
 ·exact⟨(λe=>by cases e),h⟩
 ·exact⟨λ_=>h.1,h.2⟩
theorem tp(l:pw V){Q:dE}(f:M.eval=ev Q)(m:NN Q)(o:HC P D=true)(h:Qu P V D Q w F):
  ∃v b,(∀a,(tF P quiet D=true∨V w a)->(execOp M.eval D).run P a= .ok (.value v) a)/\F v b/\(∀c,b=some c->v=kv c):=by
 have s:FH P D Q (bare w) F-> ∃v b,(∀a,(tF P quiet D=true∨V w a)->(execOp M.eval D).run P a= .ok (.value v) a)/\F v b/\(∀c,b=some c->v=kv c):=λh=>by
  obtain⟨v,b,g,i,j⟩:=yd f m o h;exact⟨v,b,λa d=>g a (d.imp id (l.bare _ _)),i,j⟩
 obtain⟨z,r,E,C,y,A⟩:=D;cases r<;>first|exact s h|skip
 rename_i t x;obtain⟨v,B,p,hK⟩:=Gh (P:=P) (show Mu P w t (ev Q x) λv=>(∀a,V w a->Mu P a t (ev Q x) λu=>u=v)/\F v none from h);refine⟨v,none,λa d=>?_,hK,λc e=>by cases e⟩;have k:V w a:=d.resolve_left (by simp[tF]);obtain⟨u,q,e⟩:=Gh (P:=P) (p a k);subst e;simp only[execOp,f];have:=q a (bA.refl _);simp[this]
theorem yq{E:World->World->Prop}(I:pw E)(hs:Region.noSelect ops=true){W:List Nat}(hW:∀(i:Nat) (o:Oper),ops[i]?=some o-> ∀d,o.dst=some d->d∈W){K:VJ}:∀(m:Nat) (c:Array Bool) (t:dE) (e:Act) (w:World),
  Bl P n quiet ops E m c t w K->Ag n t e->Cg ops c->lL P E quiet ops (λf b=>∃a,K a b/\Ag n a f/\RB W t a) m c e w:=by
 intro m
 induction m with
 |zero=>
  intro c t e w h L _ q k;unfold Bl at h;split at h
  ·rename_i z;exact⟨z,t,h q k,L,RB.refl _ _⟩
  ·exact h.elim
 |succ m ih=>
  intro c t e w h L Q;have an:∀{p:dE} {m:Nat} {c:Array Bool} {e:Act} {w:World},RB W t p->lL P E quiet ops (λf b=>∃a,K a b/\Ag n a f/\RB W p a) m c e w->
    lL P E quiet ops (λf b=>∃a,K a b/\Ag n a f/\RB W t a) m c e w:=by
   intro p m
   induction m with
   |zero=>intro c e w O h q k;obtain⟨C,g,j,D,F⟩:=h q k;exact⟨C,g,j,D,O.trans F⟩
   |succ m ihm=>
    intro c e w O h q k;obtain⟨C,j⟩:=h q k;refine⟨λz=>?_,λi x=>wpOp_mono (λf b ⟨hE,hh⟩=>⟨hE,ihm O hh⟩) (j i x)⟩;obtain⟨g,j,D,F⟩:=C z;exact⟨g,j,D,O.trans F⟩
  unfold Bl at h;split at h
  ·rename_i z;intro q k;exact⟨λ_=>⟨t,h q k,L,RB.refl _ _⟩,λi x=>by rw[z]at x;cases x⟩
  ·rename_i r0 rs J;split at h
   ·rename_i i l;obtain⟨ay,o,s,hq,ak⟩:=LO _ l;have ac:i∈Region.ready .any ops c:=by rw[J];exact ay
    simp only[s]at h;obtain⟨p,u,ae,hc⟩:=VQ (W:=W) h L;refine an ae ?_;have au:∀{v:Value},Uj P quiet ops i=false->Yc P bA ops (tF P quiet o) o v e w->lL P E quiet ops (λf b=>∃a,K a b/\Ag n a f/\RB W p a) m (c.setIfInBounds i true) (e.put o.dst v) w->_:=λ{v} hn hy V=>
     aZ (P:=P) (E:=E) (Ei:=bA) (quiet:=quiet) I.ext (λ_ _ h=>h) (λ_ _ _ h bc=>h.trans bc) (λh=>(by rw[hn]at h;cases h)) s (Region.noSelect_spec hs) rfl hq m c e w Q (Region.free_spec s ak) ac hy V
    have first:∀{v:Value},Yc P E ops (tF P quiet o) o v e w->lL P E quiet ops (λf b=>∃a,K a b/\Ag n a f/\RB W p a) m (c.setIfInBounds i true) (e.put o.dst v) w->_:=λ{v} hy V=>
     aZ (P:=P) (E:=E) (Ei:=E) (quiet:=quiet) I.ext I.ext I.trans (λ_ _ _ h=>h) s (Region.noSelect_spec hs) rfl hq m c e w Q (Region.free_spec s ak) ac hy V
    have H:∀{v:Value} {B:Option (Option Bool)},GN n p o.dst v B (λa=>Bl P n quiet ops E m (c.setIfInBounds i true) a w K)->(∀y,B=some y->v=kv y)->
      lL P E quiet ops (λf b=>∃a,K a b/\Ag n a f/\RB W p a) m (c.setIfInBounds i true) (e.put o.dst v) w:=by
     intro v B l G;obtain⟨N,j,aa,R⟩:=NO l u G (hW i o s);have:=ih _ N _ w j aa (OV Q ac);have wk:∀{m:Nat} {c:Array Bool} {e:Act} {w:World},lL P E quiet ops (λf b=>∃a,K a b/\Ag n a f/\RB W N a) m c e w->
       lL P E quiet ops (λf b=>∃a,K a b/\Ag n a f/\RB W p a) m c e w:=by
      intro m
      induction m with
      |zero=>intro c e w h q k;obtain⟨C,g,j,D,F⟩:=h q k;exact⟨C,g,j,D,R.trans F⟩
      |succ m ihm=>
       intro c e w h q k;obtain⟨C,j⟩:=h q k;refine⟨λz=>?_,λi x=>wpOp_mono (λf b ⟨hE,hh⟩=>⟨hE,ihm hh⟩) (j i x)⟩;obtain⟨g,j,D,F⟩:=C z;exact⟨g,j,D,R.trans F⟩
     exact wk this
    rcases hc with⟨A,r⟩|⟨A,X⟩
    ·split at r
     ·rename_i S;unfold Ru at r;split at r
      ·obtain⟨v,B,ad,l,G⟩:=tp I u.eval u.ok S r;exact first (.inl ⟨A,λb M=>by rw[ad b M];exact⟨rfl,rfl⟩⟩) (H l G)
      ·rename_i ba;obtain⟨v,B,ad,l,G⟩:=yd u.eval u.ok S r;exact au ba (.inl ⟨A,λb M=>by rw[ad b M];exact⟨rfl,rfl⟩⟩) (H l G)
     ·rename_i S;have az:tF P quiet o=false:=by
       cases hm:tF P quiet o with
       |false=>rfl
       |true=>
        obtain⟨ah,op,am,al,af,aj⟩:=o;cases op<;>first|(simp[tF]at hm;done)|(simp[HC,KZ]at S)
      obtain⟨ah,op,am,al,af,aj⟩:=o;cases op<;>first|exact r.elim|skip
      rename_i ap;obtain⟨aq,ag,ao⟩:=ap;cases aq<;>first|exact r.elim|skip
      rename_i ai;obtain⟨v,hv,l⟩:=r;refine first (.inl ⟨A,λb M=>?_⟩) (H l λy g=>by cases g)
      have hE:E w b:=M.resolve_left (by rw[az];simp);have hx:execOp e.eval ⟨ah,.call ⟨.value ai,ag,ao⟩,am,al,af,aj⟩=(do let d<-Deferred.ofValue (ev p ai) (Y8 p ag).toArray;invoke d.target d.args):=by
       rw[DZ u.eval,<-u.eval];simp only[execOp,resolve]
      obtain⟨be,⟨fn,av,ar,ab,hb,aw⟩|⟨fn,av,ar,bd,ab,J,T⟩,Z⟩:=hv b hE
      ·rw[hx,JZ ab hb];exact⟨rfl,aw.mono λg w3 ⟨bd,k,T⟩=>⟨by rw[k,(Z _ _ T).1],(Z _ _ T).2⟩⟩
      ·rw[hx,UV ab,J];exact⟨rfl,(Z _ _ T).1⟩
    ·exact first (.inr ⟨A,rfl⟩) (H X λy g=>by cases g;rfl)
   ·intro q k;refine⟨(λz=>by rw[z]at J;cases J),λi x=>?_⟩;have ax:=x;rw[J]at x;have Y:=ta (h q k) x;cases s:ops[i]? with
    |none=>simp only[s]at Y
    |some o=>
     simp only[s]at Y;obtain⟨p,u,ae,hc⟩:=VQ (W:=W) Y L;unfold wpOp;simp only[s];have H:∀{v:Value} {B:Option (Option Bool)} {U:World},(∀y,B=some y->v=kv y)->GN n p o.dst v B (λa=>Bl P n quiet ops E m (c.setIfInBounds i true) a U K)->
       lL P E quiet ops (λf b=>∃a,K a b/\Ag n a f/\RB W t a) m (c.setIfInBounds i true) (e.put o.dst v) U:=by
      intro v B U G l;obtain⟨N,j,aa,R⟩:=NO l u G (hW i o s);exact an (ae.trans R) (ih _ N _ U j aa (OV Q ax))
     rcases hc with⟨A,r⟩|⟨A,X⟩
     ·rw[A];refine .inl ?_;split at r
      ·exact r.elim
      rename_i bb;refine Oper.wp_mono (λf b ⟨v,g,l⟩=>?_) (U9 u.eval r);obtain⟨hE,l⟩:=Rs l;rw[g];exact⟨⟨hE,λh=>(by unfold H2 at h;rw[s]at h;exact absurd h (by simpa using bb))⟩,H (λy g=>by cases g) l⟩
     ·rw[A];exact⟨⟨λ_=>I.ext _ _ (bA.refl _),λ_=>bA.refl _⟩,H (λy g=>by cases g;rfl) X⟩
theorem Cn{Q:dE}{K:VJ}(h:match quiet.contains 1000001 with
   |false=>∃D:Nat->Prop,Bl P n quiet ops (Ch D) ops.size (Array.replicate ops.size false) Q w K
   |true=>∃E:World->World->Prop,pw E/\Bl P n quiet ops E ops.size (Array.replicate ops.size false) Q w K):
  ∃E:World->World->Prop,pw E/\Bl P n quiet ops E ops.size (Array.replicate ops.size false) Q w K:=by
 split at h
 ·obtain⟨D,h⟩:=h;exact⟨_,Fw D,h⟩
 ·exact h
end
section
variable{P:Program}{n:Nat}
def f5:Exit->Option Ex
 | .normal=>some .nrm
 | .exit id=>some (.ext id)
 | .ret=>some .ret
 |_=>none
def zw(n:Nat)(W:List Nat)(d:dE)(Q:Ex->VJ):Exit->Act->World->Prop:=
 λe c w=>∃b a,f5 e=some b/\Q b a w/\Ag n a c/\RB W d a
theorem zw.weaken{a:List Nat}{Q c:dE}{b:Ex->VJ}(l:RB a Q c)(o:∀s,s∈m->s∈a){e:Exit}(h:zw n m c b e M w):zw n a Q b e M w:=by
 obtain⟨f,d,g,i,j,k⟩:=h;exact⟨f,d,g,i,j,l.trans (k.mono o)⟩
theorem Kc{a:Nat->Value}{Q:dE}(s:Nat):wF (dT m a Q) s=if s∈m then a s else wF Q s:=by
 induction m with
 |nil=>simp[dT]
 |cons x r ih=>
  simp only[dT,mI,ih];by_cases h:x=s
  ·subst h;simp
  ·have b:¬s=x:=λe=>h e.symm;simp[h,b]
theorem Jc{Q:dE}:∀{i:Nat} (f:Nat->Value),(∀j,j<m.length->gx y (i+j)=f (m.getD j 0))-> ∀s,wF (cT m i y Q) s=if s∈m then f s else wF Q s:=by
 induction m with
 |nil=>intro i f _ s;simp[cT]
 |cons x r ih=>
  intro i f h s;simp only[cT,mI];by_cases e:x=s
  ·subst e;have:=h 0 (by simp);simp at this;simp[this]
  ·have a:¬s=x:=λh=>e h.symm;rw[if_neg e,ih (i:=i+1) f (λj b=>by
    have:=h (j+1) (by simp;omega);simp only[List.getD_cons_succ]at this;rw[<-this];congr 1;omega) s]
   simp[a]
theorem Km{Q:dE}(j:Nat)(a:j<m.length):gx (OX m Q) (0+j)=wF Q (m.getD j 0):=by
 simp[Cu,OX,a]
theorem zr{a:Nat->Value}{Q:dE}(h:NN Q):NN (dT m a Q):=by
 induction m with
 |nil=>exact h
 |cons x r ih=>exact ih.cons λb e=>by cases e
theorem yr{Q:dE}(h:NN Q):NN (cT m f y Q):=by
 induction m generalizing f with
 |nil=>exact h
 |cons x r ih=>exact ih.cons λb e=>by cases e
theorem Ag.rebind{Q a:dE}{b:List Nat}(h:Ag n Q M)(d:RB m a Q)(i:NN a):Ag n (cT b 0 (OX b Q) (dT m (wF Q) a)) M:=by
 have g:∀s,wF (cT b 0 (OX b Q) (dT m (wF Q) a)) s=wF Q s:=by
  intro s;rw[Jc (f:=wF Q) (λj e=>Km j e),Kc];split
  ·rfl
  ·split
   ·rfl
   ·rename_i c;exact(d s c).symm
 exact⟨h.defers,h.size,λs=>by rw[g s];exact h.vals s,yr (zr i)⟩
theorem FW{Q a:dE}{c:List Nat}(d:RB m a Q):RB m a (cT c 0 (OX c Q) (dT m (wF Q) a)):=by
 intro s b;rw[Jc (f:=wF Q) (λj e=>Km j e),Kc,if_neg b];split
 ·exact d s b
 ·rfl
theorem Bn{id:Nat}{q:Bool}{Q:dE}{p:VJ}(v:P.follows .mixedOrders=true)(s:K=true->Region.noSelect O=true)
  (h:Vt P n O K q m Q w p)(j:Ag n Q M)(hQ:∀a b d,p a d->Ag n a b->RB (CZ O.toList) Q a->c .normal b d):(Code.region id O K).wp P c M w:=by
 have r:∀(t:Nat) (o:Oper),O[t]?=some o-> ∀e,o.dst=some e->e∈CZ O.toList:=λt o l e k=>
  List.mem_filterMap.2 ⟨o,by simpa using Array.mem_of_getElem? l,k⟩
 cases K with
 |false=>
  refine wp_region ?_;rw[List.range_eq_range',<-Array.length_toList,wpOps_eq_wpList O.toList 0 (by simp)];exact St (W:=CZ O.toList) O.toList Q M w h j (λo l e k=>List.mem_filterMap.2 ⟨o,l,k⟩) hQ
 |true=>
  refine wp_region_any v ?_;cases q with
  |false=>
   have:=xq (s rfl) (W:=CZ O.toList) r O.size _ Q M w h j (QW _);refine nP (λb d ⟨a,f,g,i⟩=>hQ a b d f g i) _ _ _ _ (this.later ?_);exact bA.drew w
  |true=>
   obtain⟨E,u,h⟩:=Cn h;have:=yq u (s rfl) (W:=CZ O.toList) r O.size _ Q M w h j (QW _);refine nP (λb d ⟨a,f,g,i⟩=>hQ a b d f g i) _ _ _ _ (this.later ?_);exact bA.drew w
theorem I2{W:List Nat}{Q:dE}{K:VJ}{F:VJ->Prop}(h:Jf n m W Q K F)(i:NN Q):
  ∃J:VJ,F J/\ ∀a b d,J a d->Ag n a b->RB W Q a-> ∃c,K c d/\Ag n c b/\RB W Q c:=by
 unfold Jf at h;split at h
 ·refine⟨_,h,λa b d f g e=>⟨_,f (wF a),g.rebind e i,FW e⟩⟩
 ·exact h.elim
theorem jj{Q:dE}{c:Operand}{A B:dE->Prop}(h:Tb Q c A B)(d:Ag n Q M)(W:List Nat):
  ∃b f,M.eval c= .bool b/\Ag n f M/\RB W Q f/\(if b then A f else B f):=by
 have e:M.eval c=ev Q c:=by rw[d.eval]
 have l:∀b,Gp Q c=some b->ev Q c=kv b:=by
  intro b g;cases c with
  |tmp t=>exact d.ok t b g
  |const v=>cases v<;>simp[Gp]at g;subst g;rfl
  |_=>simp[Gp]at g
 unfold Tb at h;split at h
 ·rename_i k;exact⟨true,Q,e.trans (l _ k),d,RB.refl _ _,by simpa using h⟩
 ·rename_i k;exact⟨false,Q,e.trans (l _ k),d,RB.refl _ _,by simpa using h⟩
 ·exact h.elim
 ·split at h
  ·rename_i s _;obtain⟨b,a,i,j⟩:=h;cases b
   ·exact⟨false,_,e.trans a,d.learn a,qK a,by simpa using j rfl⟩
   ·exact⟨true,_,e.trans a,d.learn a,qK a,by simpa using i rfl⟩
  ·obtain⟨b,a,i,j⟩:=h;refine⟨b,Q,e.trans a,d,RB.refl _ _,?_⟩;cases b
   ·simpa using j rfl
   ·simpa using i rfl
def gH:Code->Bool
 | .region _ ops _=>Region.noSelect ops
 | .seq a b=>gH a&&gH b
 | .cond _ a b=>gH a&&gH b
 | .block _ b=>gH b
 | .loop b=>gH b
 | .scope b=>gH b
 |_=>true
theorem uq(L:P.follows .mixedOrders=true):∀(r:Code) (h:WQ) (Q:Ex->VJ) (b:dE) (e:Act) (w:World),gH r=true->De P n r h Q b w->Ag n b e->
  r.wp P (zw n (wr r) b Q) e w:=by
 intro r
 induction r with
 |skip=>intro h Q b e w _ a f;exact wp_skip ⟨.nrm,b,rfl,a,f,RB.refl _ _⟩
 |label l=>intro h Q b e w _ a f;exact wp_label ⟨.nrm,b,rfl,a,f,RB.refl _ _⟩
 |ret=>intro h Q b e w _ a f;exact wp_ret ⟨.ret,b,rfl,a,f,RB.refl _ _⟩
 |exit id=>intro h Q b e w _ a f;exact wp_exit ⟨.ext id,b,rfl,a,f,RB.refl _ _⟩
 |rangeFunc=>intro h Q b e w _ a _;exact a.elim
 |goto=>intro h Q b e w _ a _;exact a.elim
 |refuse=>intro h Q b e w _ a _;exact a.elim
 |region id ops draw=>
  intro h Q b e w k a f;simp only[De]at a;split at a
  ·exact Bn L (λ_=>k) a f λc q p hK z A=>⟨.nrm,c,rfl,hK,z,A⟩
  ·obtain⟨J,E,hK⟩:=I2 a f.ok;exact Bn L (λ_=>k) E f λc q p Y z A=>by
    obtain⟨s,d,g,i⟩:=hK c q p Y z A;exact⟨.nrm,s,rfl,d,g,i⟩
 |seq x y ihx ihy=>
  intro h Q b e w k a f;simp only[gH,Bool.and_eq_true]at k;refine wp_seq (wp_mono (ihx (hL h) _ b e w k.1 a f) λm q p j=>?_);obtain⟨B,c,d,g,i,o⟩:=j;have D:RB (wr (.seq x y)) b c:=o.mono λH t=>by simp[wr,t]
  cases m<;>simp only[f5,Option.some.injEq]at d<;>first|(cases d;done)|skip
  ·subst d;refine wp_mono (ihy (hR h) Q c q p k.2 g i) λm e w j=>j.weaken D λH t=>by simp[wr,t]
  ·subst d;exact⟨_,c,rfl,g,i,D⟩
  ·subst d;exact⟨_,c,rfl,g,i,D⟩
 |cond r x y ihx ihy=>
  intro h Q b e w k a f;simp only[gH,Bool.and_eq_true]at k;simp only[De]at a;have I:∀(u:Ex->VJ),Tb b r (λb=>De P n x (hL h) u b w) (λb=>De P n y (hR h) u b w)->(Code.cond r x y).wp P (zw n (wr x++wr y) b u) e w:=by
   intro u X;obtain⟨v,c,C,z,A,j⟩:=jj X f (wr x++wr y);cases v
   ·exact wp_cond C (wp_mono (ihy (hR h) u c e w k.2 (by simpa using j) z) λm e w j=>j.weaken A λH t=>by simp[t])
   ·exact wp_cond C (wp_mono (ihx (hL h) u c e w k.1 (by simpa using j) z) λm e w j=>j.weaken A λH t=>by simp[t])
  split at a
  ·exact I Q a
  ·obtain⟨J,E,hK⟩:=I2 a f.ok;refine wp_mono (I (Ek J Q) E) λm q p j=>?_;obtain⟨B,c,d,g,i,o⟩:=j;cases B with
   |nrm=>
    obtain⟨s,O,R,S⟩:=hK c q p g i o;exact⟨.nrm,s,d,O,R,S⟩
   |ext ab=>exact⟨_,c,d,g,i,o⟩
   |ret=>exact⟨_,c,d,g,i,o⟩
 |block id v ih=>
  intro h Q b e w k a f;refine wp_block (wp_mono (ih h _ b e w k a f) λm q p j=>?_);obtain⟨B,c,d,g,i,o⟩:=j;cases m<;>simp only[f5,Option.some.injEq]at d<;>first|(cases d;done)|skip
  ·subst d;exact⟨_,c,rfl,g,i,o⟩
  ·rename_i ab;subst d;simp only[Exit.inBlock,kq]at g⊢;split at g
   ·rename_i m;rw[if_pos (Nat.eq_of_beq_eq_true m)];exact⟨.nrm,c,rfl,g,i,o⟩
   ·rename_i m;rw[if_neg (λh=>by subst h;simp at m)];exact⟨_,c,rfl,g,i,o⟩
  ·subst d;exact⟨_,c,rfl,g,i,o⟩
 |scope v ih=>
  intro h Q b e w k a f;refine wp_scope_straight (wp_mono (ih h _ b e w k a f) λm q p j=>?_);obtain⟨B,c,d,g,i,o⟩:=j;cases m<;>simp only[f5,Option.some.injEq]at d<;>first|(cases d;done)|skip
  all_goals (subst d;exact⟨_,c,rfl,g,i,o⟩)
 |loop v ih=>
  intro h Q b e w k a f;simp only[De]at a;split at a
  ·obtain⟨N,⟨m0,T⟩,aa⟩:=a;generalize ac:(hK h).getD []=M at*;refine wp_loop_ghost (λG q p=>∃c,Ag n c q/\RB (wr v) b c/\N G (OX M c) p) m0 ⟨b,f,RB.refl _ _,T⟩ ?_;rintro G q p ⟨c,W,K,U⟩;have C:=aa G (OX M c) p U (wF c);refine wp_mono (ih (hL h) _ _ q p k C (W.rebind K f.ok)) λm a2 w2 j=>?_;obtain⟨B,s,d,g,i,o⟩:=j;have F:RB (wr v) b s:=(FW K).trans o;cases m<;>simp only[f5,Option.some.injEq]at d<;>first|(cases d;done)|skip
   ·subst d;obtain⟨m',Z,V⟩:=g;exact⟨m',Z,s,i,F,V⟩
   ·subst d;exact⟨_,s,rfl,g,i,F⟩
   ·subst d;exact⟨_,s,rfl,g,i,F⟩
  ·exact a.elim
theorem m5:∀(l:List Value) (i s:Nat),wF (vM i l) s=if i<=s then l.getD (s-i) undef else undef
 |[],i,s=>by simp[vM,wF]
 |v::r,i,s=>by
  simp only[vM,mI,m5 r (i+1) s];by_cases h:i=s
  ·subst h;simp
  ·by_cases a:i<=s
   ·have:s-i=(s-(i+1))+1:=by omega
    simp[h,a,show i+1<=s by omega,this]
   ·simp[h,a,show¬i+1<=s by omega]
theorem Rh:∀(l:List Value) (i:Nat),NN (vM i l)
 |[],_=>λs b e=>by cases e
 |v::r,i=>(Rh r (i+1)).cons λb e=>by cases e
def Jr(b:Array Value)(x:ResultVar):Sem Value:=
 match x with
 | .tmp t=>pure (b.getD t undef)
 | .cell a t=>do loadVar t (<-asAddr (b.getD a undef))
theorem Yh{Q:dE}{i:Array Value}(c:∀s,i.getD s undef=wF Q s):∀(l:List ResultVar) (K:List Value->Prop),uk P Q w l K->
  ∃d,(l.mapM (Jr i)).run P w= .ok d w/\K d
 |[],K,h=>⟨[],by simp,h⟩
 | .tmp t::r,K,h=>by
  obtain⟨d,e,f⟩:=Yh c r _ h;refine⟨_,?_,f⟩;rw[List.mapM_cons];simp only[Sem.run_bind,Jr,Sem.run_pure,Result.andThen_ok,e,c t]
 | .cell a t::r,K,h=>by
  obtain⟨v,b,k⟩:=Gh h;obtain⟨d,e,f⟩:=Yh c r _ k;have b:=b w (bA.refl w);refine⟨_,?_,f⟩;rw[List.mapM_cons];have j:(Jr i (.cell a t)).run P w= .ok v w:=by
   simp only[Jr,c a];cases g:wF Q a with
   |pointer p=>
    cases p with
    |none=>rw[g]at b;simp[Instr.loadAt,Instr.sureAddr]at b
    |some ad=>
     rw[g]at b;simp only[Instr.loadAt,Instr.sureAddr,Sem.run_bind,Sem.run_pure,Result.andThen_ok]at b;simp only[asAddr,Sem.run_bind,Sem.run_pure,Result.andThen_ok,b]
   |_=>rw[g]at b;simp[Instr.loadAt,Instr.sureAddr]at b
  simp only[Sem.run_bind,Sem.run_pure,Result.andThen_ok,e,j]
theorem km(a:Func)(b:Array Value):results a b=(do let vs<-a.results.mapM (Jr b);pure (if h:vs.size=1 then vs[0]else .tuple vs)):=by
 unfold results
 congr 1
theorem QR{a:Func}{Q:dE}(f:∀s,h.getD s undef=wF Q s){R:Value->Prop}(c:uk P Q w a.results.toList λb=>R (Zo b)):
  ∃v,(results a h).run P w= .ok v w/\R v:=by
 obtain⟨b,d,e⟩:=Yh f a.results.toList _ c;refine⟨_,?_,e⟩;rw[km,<-Array.toArray_toList (xs:=a.results),List.mapM_toArray];simp only[Sem.run_bind,Sem.run_map,d,Result.andThen_ok,Sem.run_pure]
 congr 1
 cases b with
 |nil=>rfl
 |cons x r=>
  cases r with
  |nil=>rfl
  |cons y r=>simp[Zo]
theorem rl{a:Func}{d:Code}{h:WQ}{R:Value->World->Prop}(p:P.follows .mixedOrders=true)
  (i:P.funcs[W]?=some a)(q:(a.name== "runtime.NumGoroutine")=false)(g:a.body=some d)(t:gH d=true)(m:Nat.ble y.length a.ntmps=true)
  (o:Bw P a d h y w R):nA P W y.toArray w R:=by
 refine⟨⟨a,i,q,by rw[g];rfl⟩,calls_of_wp i g ?_⟩;have B:y.length<=a.ntmps:=Nat.le_of_ble_eq_true m;have l:Ag a.ntmps (vM 0 y) {tmps:=y.toArray++Array.replicate (a.ntmps-y.toArray.size) undef,defers:=[]}:=by
  refine⟨rfl,by simp;omega,λs=>?_,Rh _ _⟩;rw[m5];simp only[Nat.zero_le,if_true,Nat.sub_zero];by_cases b:s<y.length
  ·simp[Array.getElem?_append,b]
  ·simp only[Array.getD_eq_getD_getElem?,Array.getElem?_append,List.size_toArray,b,if_false];rw[show y.getD s undef=undef by simp[List.getD,List.getElem?_eq_none (show y.length<=s by omega)]];by_cases c:s-y.length<a.ntmps-y.length
   ·simp[c]
   ·simp[c]
 refine wp_mono (uq p d h _ _ _ w t o l) λk u j r=>?_;obtain⟨z,x,b,c,e,A⟩:=r;cases k<;>simp only[f5,Option.some.injEq]at b<;>first|(cases b;done)|skip
 ·subst b;obtain⟨v,f,hR⟩:=QR (R:=λv=>R v j) e.vals c;exact⟨e.defers,v,f,v,rfl,hR⟩
 ·subst b;exact c.elim
 ·subst b;obtain⟨v,f,hR⟩:=QR (R:=λv=>R v j) e.vals c;exact⟨e.defers,v,f,v,rfl,hR⟩
end
def GA(e:TypeId)(w:World)(b:Nat)(a:List Value):Prop:=w.heap[b]?=some (.cells a.toArray e (0,0))
theorem OE{o:Obj}(h:w.heap[x]?=some o):x<w.heap.size:=by
 rcases Nat.lt_or_ge x w.heap.size with a|a
 ·exact a
 ·simp[Array.getElem?_eq_none a]at h
theorem GA.lt(h:GA u w x y):x<w.heap.size:=OE h
theorem GA.ext{b:Nat}{cs:List Value}(h:GA u w b cs)(c:bA w a):GA u a b cs:=by
 unfold GA at*;rw[Below.block c b (OE h)];exact h
theorem GA.cell(h:GA u w x y)(i:Nat):w.cell? ⟨x,i,none⟩=y[i]?:=by
 unfold GA at h;simp[World.cell?,h]
theorem GA.frozen(h:GA u w x y)(i:Nat):w.frozen? ⟨x,i,none⟩=false:=by
 unfold GA at h;simp[World.frozen?,h]
theorem GA.set(h:GA u w x y)(i:Nat)(v:Value):GA u (w.setCell ⟨x,i,none⟩ v) x (y.set i v):=by
 unfold GA at*;simp[World.setCell,Array.getElem?_modify,h]
theorem GA.other{i:Nat}(h:GA u w x y)(a:x≠n)(v:Value):GA u (w.setCell ⟨n,i,none⟩ v) x y:=by
 unfold GA at*;rw[Below.heap_setCell _ _ _ _ a];exact h
theorem GA.new(w:World)(a:Array Value)(e:TypeId):GA e (w.alloc (.cells a e)) w.heap.size a.toList:=heap_alloc_new w _
def Sl(w:World)(v:Value)(a:List Value):Prop:=
 ∃b c,v= .slice b a.length c/\a.length<=c/\c<=9223372036854775807/\(a=[]∨ ∃d o,b=some ⟨d,o,none⟩/\ ∀i,i<a.length->w.cell? ⟨d,o+i,none⟩=a[i]?)
theorem Sl.ext(h:Sl w v y)(n:bA w a):Sl a v y:=by
 obtain⟨d,e,f,g,j,k⟩:=h;refine⟨d,e,f,g,j,k.imp id λ⟨b,o,l,m⟩=>⟨b,o,l,λi c=>?_⟩⟩;have:=m i c;rw[List.getElem?_eq_getElem c]at this⊢;exact n.cell this
theorem Sl.len(h:Sl w v y):y.length<=9223372036854775807:=let⟨_,_,_,a,b,_⟩:=h;Nat.le_trans a b
theorem Sl.nil(w:World):Sl w (.slice none 0 0) []:=⟨none,0,rfl,Nat.le_refl _,by omega,.inl rfl⟩
def JA(l:List Int):List Value:=l.map (.int .i64)
theorem SA(l:List Int):(JA l).length=l.length:=by simp[JA]
def Q9(w:World)(v:Value)(l:List Int):Prop:=Sl w v (JA l)
theorem Q9.ext{l:List Int}(h:Q9 w v l)(b:bA w a):Q9 a v l:=Sl.ext h b
theorem Q9.len{l:List Int}(h:Q9 w v l):l.length<=9223372036854775807:=by have:=Sl.len h;rwa [SA]at this
def Ow(lo:Nat)(e:TypeId)(w:World)(v:Value)(xs:List Value):Prop:=w.ownsRow lo e 1 v xs.length xs
theorem Ow.sl{xs:List Value}(h:Ow x u w v xs):Sl w v xs:=by
 obtain⟨_,h|⟨g,a,k,j,_,f,c,d,l,e⟩⟩:=h
 ·obtain⟨rfl,b⟩:=h;have:xs=[]:=List.length_eq_zero_iff.1 b;subst this;exact Sl.nil w
 ·refine⟨_,a,j,c,d,.inr ⟨g,0,rfl,λm i=>?_⟩⟩;simp only[Nat.zero_add,World.cell?,f];rw[<-e];simp only[Nat.mul_one,Option.isSome_none,Bool.false_eq_true,if_false,List.getElem?_take];rw[if_pos i];simp
theorem Ow.ext(h:Ow x u w v y)(i:bA w a):Ow x u a v y:=by
 obtain⟨b,h|⟨g,d,e,k,j,c,f⟩⟩:=h
 ·exact⟨b,.inl h⟩
 ·exact⟨b,.inr ⟨g,d,e,k,j,by rw[Below.block i g (OE c)];exact c,f⟩⟩
theorem Ow.mono(h:Ow x u w v y)(i:n<=x):Ow n u w v y:=by
 obtain⟨a,h|⟨g,b,c,j,e,f,d⟩⟩:=h
 ·exact⟨a,.inl h⟩
 ·exact⟨a,.inr ⟨g,b,c,j,Nat.le_trans i e,f,d⟩⟩
theorem Ow.nil(a:Nat)(e:TypeId)(w:World):Ow a e w (.slice none 0 0) []:=World.ownsRow_nil w a e 1
theorem Ow.blk(h:Ow x u w v y):∀k,v.ownBlock=some k->x<=k/\k<w.heap.size:=World.ownsRow.lt h
theorem Ow.other(h:Ow x u w v y){i:Nat}(k:v.ownBlock≠some n)(l:Value):Ow x u (w.setCell ⟨n,i,none⟩ l) v y:=by
 obtain⟨a,h|⟨g,c,d,b,f,j,e⟩⟩:=h
 ·exact⟨a,.inl h⟩
 ·refine⟨a,.inr ⟨g,c,d,b,f,?_,e⟩⟩;rw[Below.heap_setCell _ _ _ _ (λu=>k (by rw[b];simp[Value.ownBlock,u]))];exact j
theorem kh(h:bA w a){p:Addr}(b:w.heap.size<=p.block)(u:Value):bA w (a.setCell p u):=Below.setCell h b u
structure PI(b:Nat)(w w':World):Prop where
 os:w'.os=w.os
 tape:w'.tape=w.tape
 output:w'.output=w.output
 size:w'.heap.size=w.heap.size
 block:∀c,c≠b->w'.heap[c]?=w.heap[c]?
theorem PI.refl(b:Nat)(w:World):PI b w w:=⟨rfl,rfl,rfl,rfl,λ_ _=>rfl⟩
theorem PI.trans{b:Nat}{e:World}(h:PI b w a)(k:PI b a e):PI b w e:=
 ⟨k.os.trans h.os,k.tape.trans h.tape,k.output.trans h.output,k.size.trans h.size,λc d=>(k.block c d).trans (h.block c d)⟩
theorem PI.setCell(w:World)(b i:Nat)(v:Value):PI b w (w.setCell ⟨b,i,none⟩ v):=
 ⟨rfl,rfl,rfl,by simp,λc a=>Below.heap_setCell _ _ _ _ a⟩
theorem bA.upd{c:World}(h:bA w a)(b:PI x a c)(e:w.heap.size<=x):bA w c:=
 ⟨b.os.trans h.os,b.tape.trans h.tape,b.output.trans h.output,by rw[b.size];exact h.size,λk d=>(b.block k (by omega)).trans (h.block k d)⟩
theorem GA.upd(h:GA u w n y)(c:PI x w a)(b:n≠x):GA u a n y:=by
 unfold GA at*;rw[c.block n b];exact h
theorem Ow.upd(h:Ow x u w v y)(l:PI n w a)(k:v.ownBlock≠some n):Ow x u a v y:=by
 obtain⟨b,h|⟨g,d,e,c,i,j,f⟩⟩:=h
 ·exact⟨b,.inl h⟩
 ·exact⟨b,.inr ⟨g,d,e,c,i,by rw[l.block g (λu=>k (by rw[c];simp[Value.ownBlock,u]))];exact j,f⟩⟩
theorem DF{P:Program}:∀(b:List Value) (i:Nat) (w:World) (a:List Value),GA u w x a->i+b.length<=a.length->(∀v∈b,vA v=true)->
  ∃c,(storeCells ⟨x,0,none⟩ b i).run P w= .ok () c/\PI x w c/\GA u c x (a.take i++b++a.drop (i+b.length))
 |[],i,w,a,hb,_,_=>⟨w,by simp[storeCells],PI.refl _ _,by simpa using hb⟩
 |v::b,i,w,a,hb,hl,hc=>by
  simp only[List.length_cons]at hl;have h:(⟨x,0,none⟩:Addr).add i=⟨x,i,none⟩:=by
   simp only[Addr.add];split
   ·rename_i u;simp[u]
   ·simp
  have e:(store ⟨x,i,none⟩ v).run P w= .ok () (w.setCell ⟨x,i,none⟩ v):=by
   rw[run_store P w _ _ _ (tN (hc v (by simp))),hb.cell i,List.getElem?_eq_getElem (by omega)];simp[hb.frozen i]
  obtain⟨c,f,g,d⟩:=DF (P:=P) b (i+1) (w.setCell ⟨x,i,none⟩ v) (a.set i v) (hb.set i v) (by simp;omega) (λk j=>hc k (by simp[j]));refine⟨c,?_,(PI.setCell w x i v).trans g,?_⟩
  ·simp only[storeCells,Sem.run_bind,h,e,Result.andThen_ok,f]
  ·have:(a.set i v).take (i+1)++b++(a.set i v).drop (i+1+b.length)=a.take i++v::b++a.drop (i+(v::b).length):=by
    rw[List.take_succ_eq_append_getElem (by simp;omega),List.take_set_of_le (by omega),List.drop_set_of_lt (by omega)];simp[Nat.add_assoc,Nat.add_comm 1]
   rw[this]at d;exact d
section
variable{P:Program}{w:World}
theorem bB{a:Addr}(h:z (.pointer (some a))):IA (.pointer (some a)) z:=⟨trivial,h⟩
theorem pB{b:Nat}(h:z (.pointer (some ⟨b,n+x,none⟩))):FA x (.pointer (some ⟨b,n,none⟩)) z:=by
 refine⟨_,rfl,?_⟩;have:(⟨b,n,none⟩:Addr).add x=⟨b,n+x,none⟩:=by
  simp only[Addr.add];split
  ·rename_i e;simp[e]
  ·rfl
 rw[this];exact h
theorem DD{p:Addr}(a:w.cell? p=some v)(h:z v):kA w (.pointer (some p)) z:=⟨_,_,rfl,a,h⟩
theorem mA{b i:Nat}(a:GA u w b y)(c:y[i]?=some v)(h:z v):kA w (.pointer (some ⟨b,i,none⟩)) z:=DD (by rw[a.cell i];exact c) h
theorem DB{b:Nat}(a:GA u w b y)(c:y.length=x)(h:z (.agg y.toArray)):HA w x (.pointer (some ⟨b,0,none⟩)) z:=by
 refine⟨_,y.toArray,rfl,by simpa using c,λi d=>?_,h⟩;have:(⟨b,0,none⟩:Addr).add i=⟨b,i,none⟩:=by
  simp only[Addr.add];split
  ·rename_i u;simp[u]
  ·simp
 rw[this,a.cell i];simp
theorem pP{j:Int}(i:Sl w v y)(d:0<=j)(c:j<y.length)
  (h:∀p,w.cell? p=y[j.toNat]?->z (.pointer (some p))):wA 1 v (.int b j) z:=by
 obtain⟨k,l,rfl,m,n,f⟩:=i;rcases f with rfl|⟨a,o,rfl,g⟩
 ·simp at c;omega
 ·refine⟨_,_,_,_,_,rfl,rfl,d,c,h _ ?_⟩;have:(⟨a,o,none⟩:Addr).add (j.toNat*1)=⟨a,o+j.toNat,none⟩:=by
   simp only[Addr.add];split
   ·rename_i e;simp at e;simp[e]
   ·simp
  rw[this];exact g _ (by omega)
theorem Ev(e:Q9 w v G)(a:0<=o)(c:o<G.length)
  (h:∀p,w.cell? p=some (.int .i64 (G.getD o.toNat 0))->z (.pointer (some p))):wA 1 v (.int b o) z:=by
 refine pP e a (by rw[SA];exact c) λp d=>h p (d.trans ?_);have:o.toNat<G.length:=by omega
 simp[JA,this]
theorem XC(a:Sl w v y)(h:z (.int .i64 (y.length:Nat))):lA v z:=by
 obtain⟨b,c,rfl,_⟩:=a;exact⟨_,_,_,rfl,h⟩
theorem UY(a:Q9 w v G)(h:z (.int .i64 (G.length:Nat))):lA v z:=XC a (by rw[SA];exact h)
theorem VY{a:Option Addr}(h:z (.int .i64 (x:Nat))):lA (.slice a x n) z:=⟨_,_,_,rfl,h⟩
theorem qA{b:Int}(a:-9223372036854775808<=o+b/\o+b<=9223372036854775807)(h:z (.int .i64 (o+b))):oA .i64 (.int .i64 o) (.int .i64 b) z:=
 ⟨_,_,rfl,rfl,by rw[IntWalk.i64_in _ a];exact h⟩
theorem HB{b:Int}(a:-9223372036854775808<=o-b/\o-b<=9223372036854775807)(h:z (.int .i64 (o-b))):KB .i64 (.int .i64 o) (.int .i64 b) z:=
 ⟨_,_,rfl,rfl,by rw[IntWalk.i64_in _ a];exact h⟩
theorem Bj{b:Int}(a:-9223372036854775808<=o*b/\o*b<=9223372036854775807)(h:z (.int .i64 (o*b))):iY .i64 (.int .i64 o) (.int .i64 b) z:=
 ⟨_,_,rfl,rfl,by rw[IntWalk.i64_in _ a];exact h⟩
theorem d9{b:Int}(a:0<=o/\o<=9223372036854775807/\1<=b)(h:z (.int .i64 (o/b))):O6 .i64 (.int .i64 o) (.int .i64 b) z:=
 ⟨_,_,rfl,rfl,by omega,by rw[IntWalk.i64_quo _ _ a];exact h⟩
theorem Rq{b:Int}(a:0<=o/\b≠0)(h:z (.int .i64 (o%b))):Fi .i64 (.int .i64 o) (.int .i64 b) z:=
 ⟨_,_,rfl,rfl,a.2,by rw[IntWalk.rem_in _ _ a.1];exact h⟩
theorem BA{k:IntKind}{b:Int}(h:z (.bool (decide (o=b)))):BB k (.int k o) (.int k b) z:=⟨_,_,rfl,rfl,h⟩
theorem ZF{a:Int}(h:z (.bool (decide (¬o=a)))):zI b (.int b o) (.int b a) z:=⟨_,_,rfl,rfl,h⟩
theorem jB{k:IntKind}{a b:Int}(h:z (.bool (decide (a<b)))):lB k (.int k a) (.int k b) z:=⟨_,_,rfl,rfl,h⟩
theorem LF{a:Int}(h:z (.bool (decide (o<=a)))):hH b (.int b o) (.int b a) z:=⟨_,_,rfl,rfl,h⟩
theorem TA{b:Bool}(h:z (.bool (!b))):VA (.bool b) z:=⟨_,rfl,h⟩
theorem eD(b:h[x]?=some v)(a:z v):YA (.tuple h) x z:=⟨_,_,rfl,b,a⟩
theorem lD(h:z v):YA (.tuple #[v,i]) 0 z:=⟨_,_,rfl,rfl,h⟩
theorem mD(h:z i):YA (.tuple #[v,i]) 1 z:=⟨_,_,rfl,rfl,h⟩
theorem He(h:z v):YA (.tuple #[v,i,U]) 0 z:=⟨_,_,rfl,rfl,h⟩
theorem Ie(h:z i):YA (.tuple #[v,i,U]) 1 z:=⟨_,_,rfl,rfl,h⟩
theorem Je(h:z U):YA (.tuple #[v,i,U]) 2 z:=⟨_,_,rfl,rfl,h⟩
theorem GD{a:Array (Nat×Nat)}{b:List (Nat×Value)}{cs:Array Value}(d:Instr.fill (a[·]?) h b=some cs)(c:z (.agg cs)):zB h a b z:=⟨_,d,c⟩
theorem BR(a:-9223372036854775808<=o/\o<=9223372036854775807)(h:z (.int .i64 o)):QF .i64 (.int b o) z:=
 ⟨_,_,rfl,by rw[IntWalk.i64_in _ a];exact h⟩
theorem ZO(a:0<=o/\o<=18446744073709551615)(h:z (.int .u64 o)):QF .u64 (.int b o) z:=
 ⟨_,_,rfl,by rw[IntWalk.u64_in _ a];exact h⟩
theorem xC(a:∀b w',b=w.heap.size/\w'.heap.size=b+1->bA w w'->GA u w' b h.toList->t (.pointer (some ⟨b,0,none⟩)) w'):PA h u w t:=
 a _ _ ⟨rfl,by simp⟩ (bA.alloc w _) (GA.new w h u)
theorem QH{i:Nat}(a:GA u w x y)(b:i<y.length)(c:vA v=true)(h:GA u (w.setCell ⟨x,i,none⟩ v) x (y.set i v)->l (w.setCell ⟨x,i,none⟩ v)):
  KC w (.pointer (some ⟨x,i,none⟩)) v l:=
 ⟨_,_,rfl,by rw[a.cell i,List.getElem?_eq_getElem b],a.frozen i,c,h (a.set i v)⟩
theorem uw{z:Value}{k:IntKind}(a:x*n<=2^48)(c:(n:Int)<=9223372036854775807)(f:vA z=true)
  (h:∀b w',b=w.heap.size/\w'.heap.size=b+1->bA w w'->GA u w' b (List.replicate n z)->t (.slice (some ⟨b,0,none⟩) n n) w'):tu u (Value.cells z) 1 x (.int k (n:Int)) (.int k (n:Int)) w t:=by
 refine⟨k,k,n,n,rfl,rfl,Nat.le_refl _,c,by exact_mod_cast a,?_⟩;have d:=GA.new w ((Array.range (n*1)).map (λi=>z.cells[i%z.cells.size]!)) u;have e:((Array.range (n*1)).map (λi=>z.cells[i%z.cells.size]!)).toList=List.replicate n z:=by
  rw[sA f];apply List.ext_getElem
  ·simp
  ·intro i a c;simp[Nat.mod_one]
 rw[e]at d;exact h _ _ ⟨rfl,by simp⟩ (bA.alloc w _) d
theorem Ke{o:Nat}{j:Nat}(a:j<n)(h:z (.pointer (some ⟨x,o+j,none⟩))):wA 1 (.slice (some ⟨x,o,none⟩) n f) (.int b (j:Int)) z:=by
 refine⟨_,_,_,_,_,rfl,rfl,by omega,by omega,?_⟩;have:(⟨x,o,none⟩:Addr).add ((j:Int).toNat*1)=⟨x,o+j,none⟩:=by
  simp only[Addr.add,Int.toNat_natCast,Nat.mul_one];split
  ·rename_i e;simp[e]
  ·rfl
 rw[this];exact h
theorem Ow.ofBlk{lo:Nat}{w:World}(h:GA u w x y)(a:lo<=x)(c:y.length=n)(b:n<=9223372036854775807):Ow lo u w (.slice (some ⟨x,0,none⟩) n n) y:=by
 subst c;exact⟨by simp,.inr ⟨x,y.length,y.toArray,rfl,a,h,Nat.le_refl _,b,by simp,by simp⟩⟩
theorem Aj{j:Int}{A:IntKind}(s:Ow x u w v y)(k:0<=j)(B:j<y.length)
  (i:∀b o,v.ownBlock=some b->x<=b->b<w.heap.size->w.cell? ⟨b,o,none⟩=y[j.toNat]?->w.frozen? ⟨b,o,none⟩=false->(∀a,Ow x u (w.setCell ⟨b,o,none⟩ a) v (y.set j.toNat a))->z (.pointer (some ⟨b,o,none⟩))):
  wA 1 v (.int A j) z:=by
 obtain⟨m,rfl⟩:=Int.eq_ofNat_of_zero_le k;obtain⟨r,C|⟨g,d,h,t,e,f,l,n,p,q⟩⟩:=s
 ·omega
 ·subst t;have c:w.ownsRow x u 1 (.slice (some ⟨g,0,none⟩) y.length d) y.length y:=⟨r,.inr ⟨g,d,h,rfl,e,f,l,n,p,q⟩⟩
  refine Ke (j:=m) (by omega) ?_;rw[Nat.zero_add];refine i g m rfl e (OE f) ?_ ?_ ?_
  ·rw[Int.toNat_natCast];exact c.cellAt m (by omega)
  ·exact c.frozenAt m
  ·intro a;rw[Int.toNat_natCast];have:=c.stored m a;unfold Ow;rw[List.length_set];exact this.1
theorem rt(a:w.cell? ⟨x,n,none⟩=some v)(b:w.frozen? ⟨x,n,none⟩=false)(c:vA i=true)(h:l (w.setCell ⟨x,n,none⟩ i)):KC w (.pointer (some ⟨x,n,none⟩)) i l:=
 ⟨_,_,rfl,a,b,c,h⟩
theorem Ac(g:GA u w x y)(j:y.length=n)(f:h.size=n)(i:∀v∈h.toList,vA v=true)
  (c:∀a,PI x w a->GA u a x h.toList->l a):sD P w n (.pointer (some ⟨x,0,none⟩)) (.agg h) l:=by
 obtain⟨a,d,e,b⟩:=DF (P:=P) h.toList 0 w y g (by simp;omega) i;refine⟨_,a,rfl,by simpa[Value.cells]using f,d,c a e ?_⟩;have:y.drop (0+h.toList.length)=[]:=List.drop_of_length_le (by simp;omega);rw[this]at b;simpa using b
theorem bA.toGrown{w:World}(h:bA w a)(c:Option Nat):w.grownBy a c:=⟨h.os,h.tape,h.output,h.size,λk b _=>h.block k b⟩
theorem tc(w:World)(a:Option Nat):w.grownBy w a:=(bA.refl w).toGrown a
theorem Gf{w g:World}{c f:Option Nat}(h:w.grownBy a c)(k:a.grownBy g f)(m:∀b,f=some b->w.heap.size<=b∨c=some b):w.grownBy g c:=
 ⟨k.os.trans h.os,k.tape.trans h.tape,k.output.trans h.output,Nat.le_trans h.size k.size,λi l e=>(k.block i (by have:=h.size;omega) (λj=>by
  rcases m i j.symm with d|d
  ·omega
  ·exact e d.symm)).trans (h.block i l e)⟩
theorem bA.grown{w d:World}{c:Option Nat}(h:bA a w)(e:w.grownBy d c)(f:∀b,c=some b->a.heap.size<=b):bA a d:=
 Below.grown h e h.size f
theorem Jl{w:World}(b:w.grownBy a none):bA w a:=(bA.refl w).grown b (λc e=>by cases e)
theorem GA.grown{w:World}{b:Option Nat}(h:GA u w x y)(c:w.grownBy a b)(d:b≠some x):GA u a x y:=by
 unfold GA at*;rw[c.block x (OE h) (λu=>d u.symm)];exact h
theorem Ow.grown{w:World}{b:Option Nat}(h:Ow x u w v y)(c:w.grownBy a b)(d:v.ownBlock=none∨v.ownBlock≠b):Ow x u a v y:=
 World.ownsRow.kept h c d
theorem Ow.lt{w:World}(h:Ow x u w v y)(a:w.heap.size<=n):v.ownBlock≠some n:=λu=>by have:=(h.blk n u).2;omega
theorem Sl.ofBlk{w:World}(h:GA u w x y)(b:y.length=n)(a:n<=9223372036854775807):Sl w (.slice (some ⟨x,0,none⟩) n n) y:=by
 subst b;exact⟨_,y.length,rfl,Nat.le_refl _,a,.inr ⟨x,0,rfl,λi _=>by rw[Nat.zero_add];exact h.cell i⟩⟩
theorem PH(h:∀v w',w'.heap.size=w.heap.size+1->bA w w'->Ow w.heap.size u w' v []->t v w'):xB u (Value.cells i) 1 0 [] w t:=by
 refine⟨_,rfl,h _ _ (by simp) (bA.alloc w _) ?_⟩;exact⟨rfl,.inr ⟨w.heap.size,0,_,rfl,Nat.le_refl _,heap_alloc_new w _,Nat.le_refl _,by simp[maxLen],by simp[show Array.range 0=#[]from rfl],rfl⟩⟩
theorem fF(c:vA v=true)(a:vA i=true)(h:∀b w',b=w.heap.size/\w'.heap.size=b+1->bA w w'->GA u w' b [i]->t (.slice (some ⟨b,0,none⟩) 1 1) w'):
  xB u (Value.cells v) 1 1 [(0,i)] w t:=by
 refine⟨#[i],?_,h _ _ ⟨rfl,by simp⟩ (bA.alloc w _) (GA.new w #[i] u)⟩;rw[sA c];simp[Instr.fill,sA a,show Array.range 1=#[0]from rfl]
theorem A2{e:TypeId}(m:P.underlying u=some (.slice e))(d:(P.info? e).map (λg=>(g.zero,g.size,g.bytes))=some (some v,1,n))(T:vA v=true)
  (l:Ow x e w i y)(Q:Sl w U J)(S:∀a∈J,vA a=true)(E:(y.length+J.length)*n<=140737488355328)(M:y.length+J.length<=9223372036854775807)(L:x<=w.heap.size)
  (r:∀b h,Ow x e h b (y++J)->w.grownBy h i.ownBlock->(b.ownBlock=i.ownBlock∨ ∃k,b.ownBlock=some k/\w.heap.size<=k)->t b h):nD P (Builtin.append_ #[u,u] H #[i,U]) w t:=by
 obtain⟨g,d,s⟩:=Option.map_eq_some_iff.1 d;simp only[Prod.mk.injEq]at s;obtain⟨V,R,F⟩:=s;obtain⟨o,k,rfl,aa,Z,I⟩:=Q;have z:∀c:Addr,o=some c->(∀j a,J[j]?=some a->w.cell? (c.add j)=some a)->nD P (Builtin.append_ #[u,u] H #[i,.slice o J.length k]) w t:=by
  rintro c rfl O;obtain⟨b,h,A,B,C,_,D⟩:=run_append_own_at (P:=P) (w:=w) x u H e g v 1 n m d V R F (by rw[sA T];rfl) (by omega) i y.length y l c J.length k J (by simp) O (λa f=>tN (S a f)) (by simpa[maxLen]using M) E L;refine⟨b,h,A,r b h ?_ C (D.imp id λe=>⟨_,e,Nat.le_refl _⟩)⟩;unfold Ow;rw[List.length_append];exact B
 rcases I with rfl|⟨p,q,rfl,G⟩
 ·cases o with
  |some c=>exact z c rfl (λj a f=>by simp at f)
  |none=>
   refine⟨i,w,?_,r i w (by simpa using l) (tc w _) (.inl rfl)⟩;have hr:=run_append_owned_none (P:=P) w x u H e g 1 m d i y.length y l;rcases l.2 with⟨rfl,hn⟩|⟨Y,W,X,rfl,_,_,N,_⟩
   ·simp[Builtin.append_,run_underlying m,sizeOf,typeInfo,d,Builtin.lenOf,Builtin.firstCells]
   ·simp[Builtin.append_,run_underlying m,sizeOf,typeInfo,d,Builtin.lenOf,Builtin.firstCells,N,storeCells]
 ·refine z ⟨p,q,none⟩ rfl λj a f=>?_;have K:j<J.length:=(List.getElem?_eq_some_iff.1 f).1;have:(⟨p,q,none⟩:Addr).add j=⟨p,q+j,none⟩:=by
   simp only[Addr.add];split
   ·rename_i e;simp[e]
   ·rfl
  rw[this,G j K,f]
theorem wo{s e:TypeId}{c:Value}(p:P.underlying H=some (.slice e))(j:(P.info? e).map (λi=>(i.zero,i.size,i.bytes))=some (some v,1,n))(r:vA v=true)
  (m:Ow x e w U y)(o:Sl w c J)(q:∀u∈J,vA u=true)(g:(y.length+J.length)*n<=140737488355328)(l:y.length+J.length<=9223372036854775807)(k:x<=w.heap.size)
  (h:∀b a,Ow x e a b (y++J)->w.grownBy a U.ownBlock->t b a):nD P (Builtin.append_ #[H,H] s #[U,c]) w t:=
 A2 p j r m o q g l k λb a d f _=>h b a d f
theorem WE{e:TypeId}{g:Value}(C:P.underlying u=some (.slice e))(s:(P.info? e).map (λi=>(i.zero,i.size,i.bytes))=some (some v,1,n))(j:vA v=true)
  (B:Ow x e w U y)(h:vA g=true)(f:(y.length+1)*n<=140737488355328)(z:y.length+1<=9223372036854775807)(F:x<=w.heap.size)
  (m:∀a b,Ow x e b a (y++[g])->w.grownBy b U.ownBlock->(a.ownBlock=U.ownBlock∨ ∃c,a.ownBlock=some c/\w.heap.size<=c)->t a b):xB e (Value.cells v) 1 1 [(0,g)] w λD k=>nD P (Builtin.append_ #[u,u] H #[U,D]) k t:=by
 refine fF j h λl k E d o=>?_;refine A2 C s j (B.ext d) (Sl.ofBlk o rfl (by omega)) (by simpa using h) f z (by omega) λa b A r p=>m a b A ?_ (p.imp id λ⟨c,e,q⟩=>⟨c,e,Nat.le_trans d.size q⟩);exact Gf (d.toGrown U.ownBlock) r (λl f=>.inr f)
theorem nT{e:TypeId}{d:Value}(z:P.underlying u=some (.slice e))(p:(P.info? e).map (λi=>(i.zero,i.size,i.bytes))=some (some v,1,n))(h:vA v=true)
  (s:Ow x e w U y)(g:vA d=true)(c:(y.length+1)*n<=140737488355328)(q:y.length+1<=9223372036854775807)(C:x<=w.heap.size)
  (l:∀b a,Ow x e a b (y++[d])->w.grownBy a U.ownBlock->t b a):xB e (Value.cells v) 1 1 [(0,d)] w λA j=>nD P (Builtin.append_ #[u,u] H #[U,A]) j t:=by
 refine fF h g λk j B f m=>?_;refine wo z p h (s.ext f) (Sl.ofBlk m rfl (by omega)) (by simpa using g) c q (by omega) λb a r o=>l b a r ?_;exact Gf (f.toGrown U.ownBlock) o (λk c=>.inr c)
def CB(P:Program)(f:FuncId)(a:Array Value)(w:World)(v:Value):Prop:=nA P f a w λb c=>b=v/\bA w c
theorem aA(a:nA P W y.toArray w t):TB P (.func (.func W) #[] #[]) y w t:=⟨t,.inl ⟨W,#[],#[],rfl,by simpa using a⟩,λ_ _ h=>h⟩
theorem lQ{first:Array Value}(c:v= .func (.func W) first h)(b:nA P W (first++y.toArray++h) w t):TB P v y w t:=⟨t,.inl ⟨W,first,h,c,b⟩,λ_ _ a=>a⟩
theorem gA(a:CB P W y.toArray w v)(h:∀w',bA w w'->t v w'):TB P (.func (.func W) #[] #[]) y w t:=
 aA (a.mono λ_ _ ⟨e,b⟩=>by subst e;exact h _ b)
theorem eC(b:∀a,bA w a->CB P W y.toArray a v)(h:z v):mq P (.func (.func W) #[] #[]) y w z:=
 ⟨v,λa c=>aA (b a c),h⟩
theorem kB{b:Bool}{A B:Prop}(a:b=true->A)(c:b=false->B):eA (.bool b) A B:=⟨b,rfl,a,c⟩
theorem dA{p:Prop}[Decidable p]{A B:Prop}(a:p->A)(b:¬p->B):eA (.bool (decide p)) A B:=⟨_,rfl,λh=>a (of_decide_eq_true h),λh=>b (of_decide_eq_false h)⟩
theorem iA{A B:Prop}(a:K=true)(h:A):eA (.bool K) A B:=⟨K,rfl,λ_=>h,λe=>by rw[a]at e;cases e⟩
theorem cA{A B:Prop}(a:K=false)(h:B):eA (.bool K) A B:=⟨K,rfl,(λe=>by rw[a]at e;cases e),λ_=>h⟩
theorem Ji(h:X S):jn X S:=h
theorem MB{f:Type}(e:f->List Value)(I:f->World->Prop)(c:f->Nat)(d:f){h:(List Value->World->Prop)->List Value->World->Prop}
  (k:e d=y)(l:I d a)(j:∀s w (Kn:List Value->World->Prop),I s w->(∀b g,I b g->c b<c s->Kn (e b) g)->h Kn (e s) w):lp h y a:=by
 refine⟨λm i w=>∃s,i=e s/\I s w/\m=c s,⟨c d,d,k.symm,l,rfl⟩,?_⟩;rintro m i w ⟨s,rfl,o,rfl⟩;exact j s w _ o λb g p n=>⟨c b,n,b,rfl,p,rfl⟩
def MA(l:List Nat):List Int:=l.map Int.ofNat
theorem WA(l:List Nat):(MA l).length=l.length:=by simp[MA]
theorem Oo(l:List Nat)(k:Nat):(MA l).getD k 0=((l.getD k 0:Nat):Int):=by
 simp only[MA,List.getD_eq_getElem?_getD,List.getElem?_map];cases l[k]?<;>simp
def jL(w:World)(v:Value)(l:List Nat):Prop:=Q9 w v (MA l)
theorem jL.ext{w:World}{l:List Nat}(h:jL w v l)(b:bA w a):jL a v l:=Sl.ext h b
theorem jL.len{w:World}{l:List Nat}(h:jL w v l):l.length<=9223372036854775807:=by have:=Q9.len h;rwa [WA]at this
theorem WC{l:List Nat}(a:jL w v l)(h:z (.int .i64 (l.length:Nat))):lA v z:=UY a (by rw[WA];exact h)
theorem rh(c:Q9 w v G)(d:x<G.length)
  (h:∀p,w.cell? p=some (.int .i64 (G.getD x 0))->z (.pointer (some p))):wA 1 v (.int b (x:Int)) z:=
 Ev c (by omega) (by omega) λp a=>h p (by rw[a];simp)
theorem tE{l:List Nat}{j:Nat}(d:jL w v l)(a:j<l.length)
  (h:∀p,w.cell? p=some (.int .i64 ((l.getD j 0:Nat):Int))->z (.pointer (some p))):wA 1 v (.int b (j:Int)) z:=
 rh d (by rw[WA];exact a) λp c=>h p (by rw[c,Oo])
theorem zF(a:Nat):BitVec.ofInt 64 (a:Int)=BitVec.ofNat 64 a:=by simp
theorem ot(a:x<2^63)(b:n<2^63):g4 .i64 (x:Int) (n:Int)=((x|||n:Nat):Int):=by
 have:x|||n<2^63:=Nat.or_lt_two_pow a b
 rw[show g4 .i64 (x:Int) (n:Int)=IntKind.i64.wrap ((BitVec.ofInt 64 (x:Int)|||BitVec.ofInt 64 (n:Int)).toNat:Nat)from rfl,zF,zF];rw[BitVec.toNat_or,BitVec.toNat_ofNat,BitVec.toNat_ofNat,Nat.mod_eq_of_lt (by omega),Nat.mod_eq_of_lt (by omega)];exact IntWalk.i64_in _ (by omega)
theorem yj(b:x<2^63)(a:n<2^63):bK .i64 (x:Int) (n:Int)=((x&&& n:Nat):Int):=by
 have:x&&& n<2^63:=Nat.and_lt_two_pow _ a;rw[show bK .i64 (x:Int) (n:Int)=IntKind.i64.wrap ((BitVec.ofInt 64 (x:Int)&&& BitVec.ofInt 64 (n:Int)).toNat:Nat)from rfl,zF,zF];rw[BitVec.toNat_and,BitVec.toNat_ofNat,BitVec.toNat_ofNat,Nat.mod_eq_of_lt (by omega),Nat.mod_eq_of_lt (by omega)];exact IntWalk.i64_in _ (by omega)
def bD(a b:Nat):Nat:=a^^^(a&&& b)
theorem mP(a b i:Nat):(bD a b).testBit i=(a.testBit i&& !b.testBit i):=by
 simp only[bD,Nat.testBit_xor,Nat.testBit_and];cases a.testBit i<;>cases b.testBit i<;>rfl
theorem vd(a:x<2^f):bD x n<2^f:=Nat.xor_lt_two_pow a (Nat.lt_of_le_of_lt Nat.and_le_left a)
theorem xj(a:x<2^63)(_:n<2^63):zG .i64 (x:Int) (n:Int)=((bD x n:Nat):Int):=by
 have d:bD x n<2^63:=vd a;rw[show zG .i64 (x:Int) (n:Int)=IntKind.i64.wrap ((BitVec.ofInt 64 (x:Int)&&& ~~~ BitVec.ofInt 64 (n:Int)).toNat:Nat)from rfl,zF,zF];have:(BitVec.ofNat 64 x&&& ~~~BitVec.ofNat 64 n).toNat=bD x n:=by
  apply Nat.eq_of_testBit_eq;intro i;rw[mP];by_cases b:i<64
  ·rw[<-BitVec.getLsbD,BitVec.getLsbD_and,BitVec.getLsbD_not];simp only[b,BitVec.getLsbD_ofNat,decide_true,Bool.true_and]
  ·have:x.testBit i=false:=Nat.testBit_lt_two_pow (Nat.lt_of_lt_of_le a (Nat.pow_le_pow_right (by omega) (by omega)));rw[this,Bool.false_and];exact Nat.testBit_lt_two_pow (Nat.lt_of_lt_of_le (BitVec.isLt _) (Nat.pow_le_pow_right (by omega) (by omega)))
 rw[this];exact IntWalk.i64_in _ (by omega)
theorem Tq(b:x<63):cK .i64 1 (x:Int)=((2^x:Nat):Int):=by
 have a:min x 64=x:=by omega
 have c:(2:Nat)^x<2^63:=Nat.pow_lt_pow_right (by omega) b;simp only[cK,IntKind.bits,Int.toNat_natCast,a];rw[Int.one_mul,show((2:Int)^x)=((2^x:Nat):Int)by simp];generalize 2^x=m at*;exact IntWalk.i64_in _ (by omega)
theorem D2(a:n<=64):uM .i64 (x:Int) (n:Int)=((x>>>n:Nat):Int):=by
 simp only[uM,IntKind.bits,Int.toNat_natCast,show min n 64=n by omega];rw[show((2:Int)^n)=((2^n:Nat):Int)by simp,Nat.shiftRight_eq_div_pow];rw[Int.fdiv_eq_ediv_of_nonneg _ (Int.natCast_nonneg _)];simp
theorem ya(b:n<=64)(a:x<2^63):bK .i64 (uM .i64 (x:Int) (n:Int)) 1=(((x.testBit n).toNat:Nat):Int):=by
 rw[D2 b];have:x>>>n<2^63:=Nat.lt_of_le_of_lt (Nat.shiftRight_le _ _) a;rw[show(1:Int)=((1:Nat):Int)by rfl,yj this (by omega)]
 congr 1
 rw[Nat.and_one_is_mod,Nat.testBit_eq_decide_div_mod_eq,<-Nat.shiftRight_eq_div_pow];rcases Nat.mod_two_eq_zero_or_one (x>>>n)with h|h<;>simp[h]
theorem SV(a:x<2^63)(b:n<2^63)(h:z (.int .i64 ((x|||n:Nat):Int))):OB g4 .i64 (.int .i64 (x:Int)) (.int .i64 (n:Int)) z:=
 ⟨_,_,rfl,rfl,by rw[ot a b];exact h⟩
theorem yc{b:Nat}(a:x<2^63)(c:b<2^63)(h:z (.int .i64 ((x&&& b:Nat):Int))):OB bK .i64 (.int .i64 (x:Int)) (.int .i64 (b:Int)) z:=
 ⟨_,_,rfl,rfl,by rw[yj a c];exact h⟩
theorem VI{a b:Nat}(c:a<2^63)(d:b<2^63)(h:z (.int .i64 ((bD a b:Nat):Int))):OB zG .i64 (.int .i64 (a:Int)) (.int .i64 (b:Int)) z:=
 ⟨_,_,rfl,rfl,by rw[xj c d];exact h⟩
theorem HH{j:Nat}(a:j<63)(h:z (.int .i64 ((2^j:Nat):Int))):qU cK .i64 (.int .i64 1) (.int b (j:Int)) z:=
 ⟨_,_,_,rfl,rfl,by omega,by rw[Tq a];exact h⟩
theorem Dj{j:Nat}(a:j<=64)(h:z (.int .i64 ((x>>>j:Nat):Int))):qU uM .i64 (.int .i64 (x:Int)) (.int b (j:Int)) z:=
 ⟨_,_,_,rfl,rfl,by omega,by rw[D2 a];exact h⟩
end
set_option maxRecDepth 100000
theorem Kd:prog.follows .mixedOrders=true:=by kernel_rfl
theorem cD{a:Func}{h:WQ}{S:Prop}(e:prog.funcs[W]?=some a)(k:S)(f:(a.name== "runtime.NumGoroutine")=false:=by kernel_rfl)(c:a.body=some (a.body.getD .skip):=by kernel_rfl)(g:gH (a.body.getD .skip)=true:=by kernel_rfl)(b:Nat.ble y.length a.ntmps=true:=by kernel_rfl)(d:S=Bw prog a (a.body.getD .skip) h y w t:=by kernel_rfl):nA prog W y.toArray w t:=rl Kd e f c g b (d.mp k)
abbrev Rr:TypeId:=22
abbrev nu:TypeId:=5
theorem Gk:prog.underlying Rr=some (.slice nu):=by kernel_rfl
abbrev wM:TypeId:=24
abbrev D7:TypeId:=86
theorem zi:prog.underlying wM=some (.slice D7):=by kernel_rfl
theorem yh:(prog.info? D7).map (λi=>(i.zero,i.size,i.bytes))=some (some (.agg #[(.string ⟨#[]⟩),(.string ⟨#[]⟩),(.int .i64 0)]),3,40):=by kernel_rfl
abbrev XA:TypeId:=27
abbrev NA:TypeId:=59
theorem tJ:prog.underlying XA=some (.slice NA):=by kernel_rfl
theorem WI:(prog.info? NA).map (λi=>(i.zero,i.size,i.bytes))=some (some (.agg #[(.int .i64 0),(.int .i64 0)]),2,16):=by kernel_rfl
abbrev M6:TypeId:=31
abbrev fA:TypeId:=9
theorem IB:prog.underlying M6=some (.slice fA):=by kernel_rfl
theorem EB:(prog.info? fA).map (λi=>(i.zero,i.size,i.bytes))=some (some (.string ⟨#[]⟩),1,16):=by kernel_rfl
abbrev si:TypeId:=42
abbrev KA:TypeId:=2
theorem TH:prog.underlying si=some (.slice KA):=by kernel_rfl
theorem RH:(prog.info? KA).map (λi=>(i.zero,i.size,i.bytes))=some (some (.int .i64 0),1,8):=by kernel_rfl
abbrev ZE:TypeId:=54
theorem aF:prog.underlying ZE=some (.slice XA):=by kernel_rfl
theorem XE:(prog.info? XA).map (λi=>(i.zero,i.size,i.bytes))=some (some (.slice none 0 0),1,24):=by kernel_rfl
abbrev C0:TypeId:=298
abbrev sC:TypeId:=306
theorem D0:prog.underlying C0=some (.slice sC):=by kernel_rfl
theorem IZ:(prog.info? sC).map (λi=>(i.zero,i.size,i.bytes))=some (some (.agg #[(.string ⟨#[]⟩),(.slice none 0 0)]),2,40):=by kernel_rfl
abbrev xM:TypeId:=301
abbrev zC:TypeId:=308
theorem Ai:prog.underlying xM=some (.slice zC):=by kernel_rfl
theorem zh:(prog.info? zC).map (λi=>(i.zero,i.size,i.bytes))=some (some (.agg #[(.int .i64 0),(.int .i64 0),(.slice none 0 0)]),3,40):=by kernel_rfl
abbrev jF:TypeId:=302
abbrev UA:TypeId:=4
theorem U3:prog.underlying jF=some (.slice UA):=by kernel_rfl
theorem E2:(prog.info? UA).map (λi=>(i.zero,i.size,i.bytes))=some (some (.bool false),1,1):=by kernel_rfl
abbrev Qr:TypeId:=339
theorem Xr:prog.underlying Qr=some (.slice jF):=by kernel_rfl
theorem Wq:(prog.info? jF).map (λi=>(i.zero,i.size,i.bytes))=some (some (.slice none 0 0),1,24):=by kernel_rfl
abbrev cf(n:Nat):=TB prog (.func (.func n) #[] #[])
abbrev cq(n:Nat):=mq prog (.func (.func n) #[] #[])
abbrev iv:=Value.int .i64
abbrev RT:=Value->World->Prop
abbrev NV:=Nat->Value
abbrev lf:=WQ.leaf
abbrev nn:=WQ.node none
abbrev tt:=Value.bool true
abbrev ff:=Value.bool false
abbrev es:=Value.string ⟨#[]⟩
abbrev sn:=Value.slice none 0 0
section
variable(a b c d:Value)(w:World)(R:RT)
def lO:=cf 4 [a] w λb c=>eA b (R tt c) (cf 5 [a] c λb c=>YA b 0 λd=>YA b 1 λb=>cf 6 [d,b] c λc e=>YA c 0 λf=>YA c 1 λc=>cf 7 [d,b] e λe g=>YA e 0 λh=>YA e 1 λe=>jn (λi=>zI .i64 c e λe=>eA e (i [tt] g) (cf 8 [f,h] g λe f=>VA e λe=>i [e] f)) (λe f=>NV->eA (gx e 0) (R ff f) (cf 9 [b] f λe f=>YA e 0 λg=>YA e 1 λe=>cf 10 [b] f λf i=>YA f 0 λj=>YA f 1 λf=>jn (λk=>zI .i64 e f λe=>eA e (k [tt] i) (cf 11 [g,j] i λe f=>VA e λe=>k [e] f)) (λe f=>NV->eA (gx e 0) (R ff f) (zI .i64 c (iv 0) λc=>eA c (R tt f) (cf 12 [a,(.int .u64 3601)] f λa c=>xB 9 (Value.cells es) 1 9 [(0,(.string ⟨#[115,104,111,119,32]⟩)),(1,(.string ⟨#[108,101,116,116,101,114,115,32]⟩)),(2,(.string ⟨#[99,108,97,115,115,105,99,97,108,32]⟩)),(3,(.string ⟨#[105,110,116,32]⟩)),(4,(.string ⟨#[108,111,103,105,99,115,32]⟩)),(5,(.string ⟨#[109,111,100,97,108,32,71,76,32]⟩)),(6,(.string ⟨#[109,105,100,100,108,101,32,76,67,32]⟩)),(7,(.string ⟨#[116,114,97,99,101,32]⟩)),(8,(.string ⟨#[110,111,100,101,115,32]⟩))] c λc e=>lA c λf=>cf 13 [a,f] e λa e=>wA 1 c a λa=>kA e a λa=>xA .add a b λc=>cf 14 [d,c] e λc e=>YA c 0 λf=>YA c 1 λc=>xA .add a b λg=>cf 15 [d,g] e λe g=>YA e 0 λi=>YA e 1 λe=>jn (λk=>zI .i64 c e λe=>eA e (k [tt] g) (xA .neq f i λe=>k [e] g)) (λe f=>NV->eA (gx e 0) (R ff f) (cf 16 [h] f λe f=>xA .add a e λe=>cf 14 [d,e] f λe f=>YA e 0 λg=>YA e 1 λe=>jn (λh=>zI .i64 e c λc=>eA c (h [tt] f) (xA .neq g i λc=>h [c] f)) (λc e=>NV->eA (gx c 0) (R ff e) (lp (λc f g=>NV->lA j λh=>lB .i64 (gx f 0) h λh=>eA h (xB 9 (Value.cells es) 1 2 [(0,b),(1,(.string ⟨#[112]⟩))] g λh i=>wA 1 j (gx f 0) λj=>kA i j λj=>cf 17 [d,h,j] i λd h=>YA d 0 λi=>YA d 1 λd=>jn (λj=>zI .i64 d (iv 0) λd=>eA d (j [tt] h) (xB 2 (Value.cells (iv 0)) 1 1 [(0,(iv 0))] h λd h=>cf 18 [i,d] h λd h=>VA d λd=>j [d] h)) (λd h=>NV->eA (gx d 0) (R ff h) (oA .i64 (gx f 0) (iv 1) λd=>c [d] h))) (xA .add a b λc=>cf 19 [c] g λc d=>xA .add a b λa=>rD a λa=>hH .i64 a (iv 300) λa=>TE true c a λa=>R a d)) [(iv 0)] e))))))))))
def ra:=lA a λa=>lB .i64 (iv 4096) a λa=>R a w
def xG:=cf 20 [a] w λa b=>cf 21 [a] b λb c=>cf 22 [a,tt] c λc d=>cf 23 [a,(iv 12)] d λa d=>BB .i64 a (iv 0) λa=>jn (λe=>eA a (e [(.string ⟨#[40,36,97,38,36,98,41,62,40,36,97,124,36,98,41,38,36,114,117,108,101]⟩)] d) (e [c] d)) (λa c=>NV->R (.tuple #[b,(gx a 0)]) c)
def UH:=cf 24 [a] w λc d=>VA c λc=>eA c (R (.tuple #[sn,(iv 1)]) d) (cf 25 [b] d λc d=>zI .i64 c (iv 0) λe=>eA e (R (.tuple #[sn,c]) d) (xB 9 (Value.cells es) 1 1 [(0,b)] d λb c=>cf 26 [a,b] c λa b=>YA a 0 λc=>YA a 1 λa=>zI .i64 a (iv 0) λd=>eA d (R (.tuple #[sn,a]) b) (wA 1 c (iv 0) λa=>kA b a λa=>R (.tuple #[a,(iv 0)]) b)))
def fI:=cf 27 [a,b] w λc d=>zI .i64 c (iv 0) λe=>eA e (R (.tuple #[sn,c]) d) (cf 28 [b] d λc d=>VA c λc=>eA c (R (.tuple #[sn,(iv 6)]) d) (cf 29 [a,b] d λa b=>YA a 0 λc=>YA a 1 λa=>R (.tuple #[c,a]) b))
def aM:=lA a λc=>lA b λd=>zI .i64 c d λc=>eA c (R ff w) (lp (λc d e=>NV->lA a λf=>lB .i64 (gx d 0) f λf=>eA f (wA 2 a (gx d 0) λa=>HA e 2 a λa=>wA 2 b (gx d 0) λb=>HA e 2 b λb=>xR prog e (do eqGuard .neq 59 (.tmp 20) (.tmp 24) a b;binOp .neq 59 a b) λa=> ∀b,bA e b->eA a (R ff b) (oA .i64 (gx d 0) (iv 1) λa=>c [a] b)) (R tt e)) [(iv 0)] w)
def LL:=cf 25 [a] w λb c=>zI .i64 b (iv 0) λd=>eA d (R (.tuple #[sn,b]) c) (cf 30 [a] c λa b=>R (.tuple #[a,(iv 0)]) b)
def dM:=rD a λb=>lB .i64 (iv 300) b λb=>eA b (R (.tuple #[sn,(iv 3)]) w) (cf 28 [a] w λb c=>VA b λb=>eA b (R (.tuple #[sn,(iv 6)]) c) (cf 31 [a] c λa b=>YA a 0 λ_=>YA a 1 λa=>cf 32 [a] b λa b=>R (.tuple #[a,(iv 0)]) b))
def nO:=lA a λc=>lA b λd=>zI .i64 c d λc=>eA c (R ff w) (lp (λc d e=>NV->lA a λf=>lB .i64 (gx d 0) f λf=>eA f (wA 1 a (gx d 0) λa=>kA e a λa=>wA 1 b (gx d 0) λb=>kA e b λb=>xA .neq a b λa=> ∀b,bA e b->eA a (R ff b) (oA .i64 (gx d 0) (iv 1) λa=>c [a] b)) (R tt e)) [(iv 0)] w)
def W6:=iY .u64 b (.int .u64 7681) λb=>lA a λc=>QF .u64 c λc=>oA .u64 b c λb=>zB #[sn,(iv 0),(.int .u64 0)] #[(0,1),(1,1),(2,1)] [(0,a),(2,b)] λb=>PA (Value.cells b) 65 w λb c=>lp (λd e f=>NV->lA a λg=>lB .i64 (gx e 0) g λg=>eA g (IA b λg=>FA 2 g λg=>kA f g λg=>iY .u64 g (.int .u64 1099511628211) λg=>wA 1 a (gx e 0) λa=>kA f a λa=>QF .u64 a λa=>oA .u64 g a λa=>oA .u64 a (.int .u64 5) λa=>IA b λg=>FA 2 g λg=> ∀h,bA f h->KC h g a λa=> ∀g,bA a g->oA .i64 (gx e 0) (iv 1) λa=>d [a] g) (R b f)) [(iv 0)] c
def mO:=lB .i64 b (iv 1) λc=>eA c (R (iv 0) w) (IA a λc=>FA 2 c λc=>kA w c λc=>iY .u64 c (.int .u64 6364136223846793005) λc=>oA .u64 c (.int .u64 1442695040888963407) λc=>IA a λd=>FA 2 d λd=>KC w d c λc=>IA a λd=>FA 2 d λd=>kA c d λd=>qU uM .u64 d (.int .u64 33) λd=>OB bK .u64 d (.int .u64 16777215) λd=>QF .i64 d λd=>IA a λe=>FA 1 e λe=>kA c e λe=>IA a λf=>FA 0 f λf=>kA c f λf=>lA f λf=>lB .i64 e f λe=> ∀f,bA c f->jn (λc=>eA e (IA a λe=>FA 0 e λe=>kA f e λe=>IA a λg=>FA 1 g λg=>kA f g λg=>wA 1 e g λe=>kA f e λe=>QF .i64 e λe=>oA .i64 d e λe=> ∀g,bA f g->IA a λh=>FA 1 h λh=>kA g h λh=>oA .i64 h (iv 1) λh=>IA a λa=>FA 1 a λa=>KC g a h λa=>c [e] a) (c [d] f)) (λa c=>NV->Fi .i64 (gx a 0) b λa=>R a c))
def FM:=cf 24 [a] w λc d=>VA c λc=>eA c (R (.tuple #[es,(iv 1)]) d) (rD b λc=>lB .i64 (iv 300) c λc=>eA c (R (.tuple #[es,(iv 3)]) d) (cf 33 [b] d λb c=>YA b 0 λd=>YA b 1 λb=>PA (Value.cells (.agg #[es,es,sn])) 68 c λc e=>sD prog e 3 c d λd=>VA b λb=>eA b (R (.tuple #[es,(iv 6)]) d) (FA 2 c λb=>kA d b λb=>cf 26 [a,b] d λa b=>YA a 0 λd=>YA a 1 λa=>zI .i64 a (iv 0) λe=>eA e (R (.tuple #[es,a]) b) (HA b 3 c λa=>wA 1 d (iv 0) λe=>kA b e λe=>cq 34 [a,e] b λa=>YA a 0 λe=>YA a 1 λf=>YA a 2 λa=> ∀g,bA b g->eA a (R (.tuple #[e,f]) g) (HA g 3 c λa=>cf 35 [a,d] g λa b=>YA a 0 λc=>YA a 1 λa=>R (.tuple #[c,a]) b)))))
def YM:=cf 27 [a,b] w λc d=>zI .i64 c (iv 0) λe=>eA e (R (.tuple #[es,c]) d) (cf 36 [b] d λc d=>VA c λc=>eA c (R (.tuple #[es,(iv 6)]) d) (cf 37 [a,b] d λa b=>YA a 0 λc=>YA a 1 λa=>R (.tuple #[c,a]) b))
def Y6:=cf 38 [a] w λa b=>YA a 0 λc=>YA a 1 λ_=>R c b
def J0:=cf 39 [a,c] w λd e=>YA d 0 λ_=>YA d 1 λd=>cf 24 [a] e λa e=>VA a λa=>eA a (R (.tuple #[sn,(iv 1)]) e) (cf 40 [b,(.func (.func 41) #[] #[])] e λa e=>eA a (R (.tuple #[sn,(iv 3)]) e) (cf 40 [b,(.func (.func 42) #[] #[])] e λa e=>eA a (R (.tuple #[sn,(iv 6)]) e) (VA d λa=>eA a (R (.tuple #[sn,(iv 4)]) e) (lA b λa=>lp (λd f g=>NV->lB .i64 (gx f 1) a λa=>eA a (wA 1 b (gx f 1) λa=>kA g a λa=>cf 30 [a] g λa b=>cf 44 [a,c] b λa b=>eA a (xB 2 (Value.cells (iv 0)) 1 1 [(0,(gx f 1))] b λa c=>nD prog (Builtin.append_ #[42,42] 42 #[(gx f 0),a]) c λa c=>oA .i64 (gx f 1) (iv 1) λh=>d [a,h] c) (oA .i64 (gx f 1) (iv 1) λa=>d [(gx f 0),a] b)) (R (.tuple #[(gx f 0),(iv 0)]) g)) [sn,(iv 0)] e))))
def pS:=lA a λc=>lA b λd=>zI .i64 c d λc=>eA c (R ff w) (lp (λc d e=>NV->lA a λf=>lB .i64 (gx d 0) f λf=>eA f (wA 1 a (gx d 0) λa=>kA e a λa=>wA 1 b (gx d 0) λb=>kA e b λb=>zI .i64 a b λa=> ∀b,bA e b->eA a (R ff b) (oA .i64 (gx d 0) (iv 1) λa=>c [a] b)) (R tt e)) [(iv 0)] w)
def sU:=rD a λb=>lB .i64 (iv 300) b λb=>eA b (R ff w) (cf 33 [a] w λa b=>YA a 0 λc=>YA a 1 λa=>PA (Value.cells (.agg #[es,es,sn])) 68 b λb d=>sD prog d 3 b c λb=>R a b)
def JU:=lA a λb=>QF .u64 b λb=>oA .u64 (.int .u64 7129) b λb=>zB #[sn,(iv 0),(.int .u64 0)] #[(0,1),(1,1),(2,1)] [(0,a),(2,b)] λb=>PA (Value.cells b) 80 w λb c=>lp (λd e f=>NV->jn (λg=>lA a λh=>lB .i64 (gx e 0) h λh=>eA h (lB .i64 (gx e 0) (iv 4096) λh=>g [h] f) (g [ff] f)) (λf g=>NV->eA (gx f 0) (IA b λf=>FA 2 f λf=>kA g f λf=>iY .u64 f (.int .u64 1099511628211) λf=>wA 1 a (gx e 0) λa=>kA g a λa=>QF .u64 a λa=>oA .u64 f a λa=>oA .u64 a (.int .u64 11) λa=>IA b λf=>FA 2 f λf=> ∀h,bA g h->KC h f a λa=> ∀f,bA a f->oA .i64 (gx e 0) (iv 1) λa=>d [a] f) (R b g))) [(iv 0)] c
def rV:=xB 86 (Value.cells (.agg #[es,es,(iv 0)])) 3 0 [] w λb c=>xB 9 (Value.cells es) 1 4 [(0,(.string ⟨#[97]⟩)),(1,(.string ⟨#[98]⟩)),(2,(.string ⟨#[114,117,108,101]⟩)),(3,(.string ⟨#[120]⟩))] c λc d=>lp (λe f g=>NV->lA c λh=>lB .i64 (gx f 1) h λh=>eA h (cf 23 [a,(iv 3)] g λh i=>lB .i64 (iv 0) h λh=>eA h (cf 23 [a,(iv 7)] i λh j=>oA .i64 (iv 1) h λh=>cf 23 [a,(iv 2)] j λj k=>BB .i64 j (iv 0) λj=>cf 45 [a,h,(iv 2),j] k λh j=>cf 23 [a,(iv 3)] j λj k=>BB .i64 j (iv 0) λj=>jn (λl=>eA j (cf 47 [a] k λj m=>cf 46 [j] m λj m=>YA j 0 λn=>YA j 1 λ_=>l [n] m) (l [h] k)) (λh j=>NV-> ∃k:Nat->Prop,wA 1 c (gx f 1) λc=>kA j c λl=>(∀m,Ch k j m->kA m c λc=>c=l)/\XF prog (Ch k) (.func (.func 48) #[] #[]) [(gx h 0)] j λc=> ∀h,bA j h->cf 23 [a,(iv 4)] h λj m=>Ch k h m/\O6 .i64 j (iv 3) λh=>zB #[es,es,(iv 0)] #[(0,1),(1,1),(2,1)] [(0,l),(1,c),(2,h)] λc=> ∀h,bA m h->xB 86 (Value.cells (.agg #[es,es,(iv 0)])) 3 1 [(0,c)] h λc h=> ∀j,bA h j->nD prog (Builtin.append_ #[24,24] 24 #[(gx f 0),c]) j λc h=> ∀j,bA h j->oA .i64 (gx f 1) (iv 1) λh=>e [c,h] j)) (oA .i64 (gx f 1) (iv 1) λc=>e [(gx f 0),c] i)) (cf 23 [a,(iv 30)] g λa c=>BB .i64 a (iv 0) λe=>eA e (zB #[es,es,(iv 0)] #[(0,1),(1,1),(2,1)] [(0,(.string ⟨#[97]⟩)),(1,(.string ⟨#[112]⟩))] λe=>xB 86 (Value.cells (.agg #[es,es,(iv 0)])) 3 1 [(0,e)] c λe g=>nD prog (Builtin.append_ #[24,24] 24 #[(gx f 0),e]) g λe g=>R e g) (BB .i64 a (iv 1) λa=>eA a (lA (gx f 0) λa=>lB .i64 (iv 0) a λa=>eA a (wA 3 (gx f 0) (iv 0) λa=>FA 1 a λa=>KC c a (.string ⟨#[40,112,41]⟩) λa=>R (gx f 0) a) (R (gx f 0) c)) (R (gx f 0) c)))) [b,(iv 0)] d
def NK:=cf 23 [a,(iv 5)] w λc d=>BB .i64 c (iv 0) λe=>jn (λf=>eA e (f [(.string ⟨#[36,97]⟩)] d) (BB .i64 c (iv 1) λe=>jn (λg=>eA e (∃e:Nat->Prop,∀h,bA d h->(xB 9 (Value.cells es) 1 5 [(0,(.string ⟨#[36,97,62]⟩)),(1,(.string ⟨#[36,98,124]⟩)),(2,(.string ⟨#[91,93,36,97,38]⟩)),(3,(.string ⟨#[126,36,114,117,108,101,62]⟩)),(4,(.string ⟨#[60,62,36,120,124]⟩))] h λi j=>Ch e h j/\ ∀k,bA j k->cf 23 [a,(iv 5)] k λj k=>wA 1 i j λi=>kA k i λj=>(∀l,Ch e k l->kA l i λi=>i=j)/\ ∀i,bA k i->cf 23 [a,(iv 2)] i λk l=>Ch e i l/\ ∀i,bA l i->cf 49 [k] i λk l=>Ch e i l/\XF prog (Ch e) (.func (.func 48) #[] #[]) [k] l λi=>xA .add j i λi=> ∀j,bA l j->g [i] j)/\(cf 23 [a,(iv 5)] h λh i=> ∀j,bA i j->(xB 9 (Value.cells es) 1 5 [(0,(.string ⟨#[36,97,62]⟩)),(1,(.string ⟨#[36,98,124]⟩)),(2,(.string ⟨#[91,93,36,97,38]⟩)),(3,(.string ⟨#[126,36,114,117,108,101,62]⟩)),(4,(.string ⟨#[60,62,36,120,124]⟩))] j λi k=>Ch e j k/\wA 1 i h λi=>kA k i λl=>(∀m,Ch e k m->kA m i λi=>i=l)/\ ∀i,bA k i->cf 23 [a,(iv 2)] i λk m=>Ch e i m/\ ∀i,bA m i->cf 49 [k] i λk m=>Ch e i m/\XF prog (Ch e) (.func (.func 48) #[] #[]) [k] m λi=>xA .add l i λi=> ∀k,bA m k->g [i] k)/\(cf 23 [a,(iv 2)] j λi k=>Ch e j k/\ ∀j,bA k j->(xB 9 (Value.cells es) 1 5 [(0,(.string ⟨#[36,97,62]⟩)),(1,(.string ⟨#[36,98,124]⟩)),(2,(.string ⟨#[91,93,36,97,38]⟩)),(3,(.string ⟨#[126,36,114,117,108,101,62]⟩)),(4,(.string ⟨#[60,62,36,120,124]⟩))] j λk l=>Ch e j l/\wA 1 k h λk=>kA l k λm=>(∀n,Ch e l n->kA n k λk=>k=m)/\ ∀k,bA l k->cf 49 [i] k λl n=>Ch e k n/\XF prog (Ch e) (.func (.func 48) #[] #[]) [l] n λk=>xA .add m k λk=> ∀l,bA n l->g [k] l)/\(cf 49 [i] j λi k=>Ch e j k/\XF prog (Ch e) (.func (.func 48) #[] #[]) [i] k λi=> ∀j,bA k j->xB 9 (Value.cells es) 1 5 [(0,(.string ⟨#[36,97,62]⟩)),(1,(.string ⟨#[36,98,124]⟩)),(2,(.string ⟨#[91,93,36,97,38]⟩)),(3,(.string ⟨#[126,36,114,117,108,101,62]⟩)),(4,(.string ⟨#[60,62,36,120,124]⟩))] j λk l=>Ch e j l/\wA 1 k h λh=>kA l h λj=>(∀k,Ch e l k->kA k h λe=>e=j)/\xA .add j i λe=> ∀h,bA l h->g [e] h)))) (BB .i64 c (iv 2) λe=>jn (λh=>eA e (cf 23 [a,(iv 6)] d λe i=>oA .i64 (iv 1) e λe=>cf 45 [a,e,(iv 2),b] i λe i=>cf 48 [e] i λe i=>h [e] i) (BB .i64 c (iv 3) λc=>jn (λe=>eA c (e [(.string ⟨#[36,97,62,36,98]⟩)] d) (cf 23 [a,(iv 5)] d λc d=>oA .i64 (iv 1) c λc=>cf 45 [a,c,(iv 2),b] d λb c=>cf 48 [b] c λb c=>xA .add (.string ⟨#[40]⟩) b λb=>xA .add b (.string ⟨#[41,62,36]⟩) λb=>xB 9 (Value.cells es) 1 5 [(0,(.string ⟨#[97]⟩)),(1,(.string ⟨#[98]⟩)),(2,(.string ⟨#[114,117,108,101]⟩)),(3,(.string ⟨#[120]⟩)),(4,(.string ⟨#[110,111,110,101]⟩))] c λc d=>cf 23 [a,(iv 5)] d λd i=>wA 1 c d λc=>kA i c λc=>xA .add b c λb=>e [b] i)) (λb c=>NV->h [(gx b 0)] c))) (λb c=>NV->g [(gx b 0)] c))) (λb c=>NV->f [(gx b 0)] c))) (λb c=>NV->cf 23 [a,(iv 30)] c λc d=>BB .i64 c (iv 0) λc=>eA c (cf 50 [a,(gx b 0)] d λa c=>R a c) (R (gx b 0) d))
def MU:=lB .i64 b (iv 1) λc=>eA c (R (iv 0) w) (IA a λc=>FA 2 c λc=>kA w c λc=>iY .u64 c (.int .u64 6364136223846793005) λc=>oA .u64 c (.int .u64 1442695040888963407) λc=>IA a λd=>FA 2 d λd=>KC w d c λc=>IA a λd=>FA 2 d λd=>kA c d λd=>qU uM .u64 d (.int .u64 33) λd=>OB bK .u64 d (.int .u64 16777215) λd=>QF .i64 d λd=>IA a λe=>FA 1 e λe=>kA c e λe=>IA a λf=>FA 0 f λf=>kA c f λf=>lA f λf=>lB .i64 e f λe=> ∀f,bA c f->jn (λc=>eA e (IA a λe=>FA 0 e λe=>kA f e λe=>IA a λg=>FA 1 g λg=>kA f g λg=>wA 1 e g λe=>kA f e λe=>QF .i64 e λe=>oA .i64 d e λe=> ∀g,bA f g->IA a λh=>FA 1 h λh=>kA g h λh=>oA .i64 h (iv 1) λh=>IA a λa=>FA 1 a λa=>KC g a h λa=>c [e] a) (c [d] f)) (λa c=>NV->Fi .i64 (gx a 0) b λa=>R a c))
def YR:=lA a λb=>lp (λc d e=>NV->lB .i64 (gx d 0) b λb=>eA b (wA 3 a (gx d 0) λb=>HA e 3 b λb=>PA (Value.cells (.agg #[es,es,(iv 0)])) 86 e λf g=>sD prog g 3 f b λb=>jn (λg=>FA 0 f λh=>kA b h λh=>cq 51 [h] b λh=>VA h λh=>eA h (∀h,bA b h->g [tt] h) (FA 1 f λh=>kA b h λh=>cq 52 [h] b λh=>VA h λh=>eA h (∀h,bA b h->g [tt] h) (FA 2 f λh=>kA b h λh=>cq 53 [h,(iv 0),(iv 1)] b λh=>VA h λh=>eA h (∀h,bA b h->g [tt] h) (lB .i64 (iv 0) (gx d 0) λh=>eA h (KB .i64 (gx d 0) (iv 1) λh=>wA 3 a h λh=>FA 0 h λh=>kA b h λh=>FA 0 f λf=>kA b f λf=>xA .geq h f λf=> ∀h,bA b h->g [f] h) (∀f,bA b f->g [ff] f))))) (λb f=>NV->eA (gx b 0) (R ff f) (oA .i64 (gx d 0) (iv 1) λb=>c [b] f))) (lA a λa=>hH .i64 a (iv 12) λa=>R a e)) [(iv 0)] w
def EJ:=rD a λb=>lB .i64 (iv 300) b λb=>eA b (R (iv 3) w) (cf 43 [a] w λa b=>VA a λa=>eA a (R (iv 6) b) (R (iv 0) b))
def sP:=PA (Value.cells a) 24 w λa c=>cf 40 [b,(.func (.func 54) #[] #[a])] c λc d=>eA c (R (.tuple #[sn,(iv 4)]) d) (lA b λc=>lp (λe f g=>NV->lB .i64 (gx f 1) c λc=>eA c (wA 1 b (gx f 1) λb=>kA g b λb=>kA g a λa=>cf 56 [a,b] g λa b=>xB 27 (Value.cells sn) 1 1 [(0,a)] b λa b=>nD prog (Builtin.append_ #[54,54] 54 #[(gx f 0),a]) b λa b=>oA .i64 (gx f 1) (iv 1) λc=>e [a,c] b) (cf 57 [(gx f 0)] g λa b=>YA a 0 λc=>YA a 1 λa=>R (.tuple #[c,a]) b)) [sn,(iv 0)] d)
def gN:=cf 58 [a] w λa c=>VA a λa=>eA a (R (iv 1) c) (rD b λa=>lB .i64 (iv 300) a λa=>eA a (R (iv 3) c) (R (iv 0) c))
def pV:=cf 31 [a] w λa b=>YA a 0 λc=>YA a 1 λa=>xB 9 (Value.cells es) 1 0 [] b λb d=>lp (λe f g=>NV->lA a λh=>lB .i64 (gx f 1) h λh=>eA h (wA 1 a (gx f 1) λa=>kA g a λa=>cf 59 [a] g λa h=>VA a λa=>eA a (R ff h) (xB 9 (Value.cells es) 1 1 [(0,(.string ⟨#[112]⟩))] h λa h=>nD prog (Builtin.append_ #[31,31] 31 #[(gx f 0),a]) h λa h=>oA .i64 (gx f 1) (iv 1) λi=>e [a,i] h)) (cf 61 [c,(gx f 0)] g λa c=>cf 60 [a] c λa c=>YA a 0 λ_=>YA a 1 λa=>lB .i64 a (iv 0) λa=>R a c)) [b,(iv 0)] d
def XJ:=cf 31 [b] w λb c=>YA b 0 λd=>YA b 1 λb=>xB 9 (Value.cells es) 1 0 [] c λc e=>lp (λf g h=>NV->lA b λi=>lB .i64 (gx g 1) i λi=>eA i (wA 1 b (gx g 1) λb=>kA h b λb=>cf 62 [a,b] h λb i=>YA b 0 λj=>YA b 1 λb=>VA b λb=>eA b (R (.tuple #[sn,(iv 4)]) i) (wA 3 a j λa=>FA 1 a λa=>kA i a λa=>xB 9 (Value.cells es) 1 1 [(0,a)] i λa b=>nD prog (Builtin.append_ #[31,31] 31 #[(gx g 0),a]) b λa b=>oA .i64 (gx g 1) (iv 1) λi=>f [a,i] b)) (cf 61 [d,(gx g 0)] h λa b=>cf 60 [a] b λa b=>YA a 0 λd=>YA a 1 λ_=>cf 63 [d] b λa b=>YA a 0 λd=>YA a 1 λa=>R (.tuple #[d,a]) b)) [c,(iv 0)] e
def fO:=PA (Value.cells sn) 31 w λb c=>cf 64 [a,(.func (.func 65) #[] #[b])] c λ_ a=>kA a b λb=>cf 66 [b,sn] a λa b=>R a b
def PY:=xB 9 (Value.cells es) 1 0 [] w λb c=>xB 9 (Value.cells es) 1 0 [] c λc d=>lp (λe f g=>NV->rD a λh=>lB .i64 (gx f 3) h λh=>eA h (sm a (gx f 3) λh=>zI .u8 h (.int .u8 36) λh=>eA h (oA .i64 (gx f 3) (iv 1) λh=>e [(gx f 0),(gx f 1),(gx f 2),h] g) (oA .i64 (gx f 3) (iv 1) λh=>lp (λi j k=>NV->jn (λl=>rD a λm=>lB .i64 (gx j 0) m λm=>eA m (sm a (gx j 0) λm=>cf 67 [m] k λm n=>l [m] n) (l [ff] k)) (λk l=>NV->eA (gx k 0) (oA .i64 (gx j 0) (iv 1) λk=>i [k] l) (yM a (some (gx f 2)) (some (gx f 3)) λi=>xB 9 (Value.cells es) 1 1 [(0,i)] l λi k=>nD prog (Builtin.append_ #[31,31] 31 #[(gx f 0),i]) k λi k=>oA .i64 (gx f 3) (iv 1) λl=>yM a (some l) (some (gx j 0)) λl=>xB 9 (Value.cells es) 1 1 [(0,l)] k λk l=>nD prog (Builtin.append_ #[31,31] 31 #[(gx f 1),k]) l λk l=>KB .i64 (gx j 0) (iv 1) λm=>oA .i64 m (iv 1) λm=>e [i,k,(gx j 0),m] l))) [h] g)) (yM a (some (gx f 2)) none λa=>xB 9 (Value.cells es) 1 1 [(0,a)] g λa e=>nD prog (Builtin.append_ #[31,31] 31 #[(gx f 0),a]) e λa e=>R (.tuple #[a,(gx f 1)]) e)) [b,c,(iv 0),(iv 0)] d
def OY:=xB 9 (Value.cells es) 1 0 [] w λb c=>lp (λd e f=>NV->lA a λg=>lB .i64 (gx e 1) g λg=>eA g (wA 1 a (gx e 1) λa=>kA f a λa=>cf 68 [(gx e 0),a] f λa g=>oA .i64 (gx e 1) (iv 1) λh=>d [a,h] g) (R (gx e 0) f)) [b,(iv 0)] c
def FU:=PA (Value.cells (.agg #[es,es,sn])) 68 w λb c=>cf 69 [a,(.string ⟨#[32]⟩)] c λa c=>wA 1 a (iv 0) λd=>kA c d λd=>zB #[es,es,sn] #[(0,1),(1,1),(2,1)] [(0,d)] λd=>PA (Value.cells (.agg #[es,es,sn])) 68 c λc e=>sD prog e 3 c d λd=>FA 0 c λe=>kA d e λe=>xA .eql e (.string ⟨#[115,104,111,119]⟩) λf=>jn (λg=>eA f (g [tt] d) (xA .eql e (.string ⟨#[110,111,100,101,115]⟩) λf=>jn (λh=>eA f (h [tt] d) (xA .eql e (.string ⟨#[108,101,116,116,101,114,115]⟩) λf=>jn (λi=>eA f (i [tt] d) (xA .eql e (.string ⟨#[99,108,97,115,115,105,99,97,108]⟩) λf=>jn (λj=>eA f (j [tt] d) (xA .eql e (.string ⟨#[99,110,102]⟩) λf=>jn (λk=>eA f (k [tt] d) (xA .eql e (.string ⟨#[110,111,114,109,97,108]⟩) λf=>jn (λl=>eA f (l [tt] d) (xA .eql e (.string ⟨#[105,110,116]⟩) λf=>jn (λm=>eA f (m [tt] d) (xA .eql e (.string ⟨#[115,116,101,112,115]⟩) λf=>jn (λn=>eA f (n [tt] d) (xA .eql e (.string ⟨#[116,101,114,109]⟩) λf=>jn (λo=>eA f (o [tt] d) (xA .eql e (.string ⟨#[108,111,103,105,99,115]⟩) λf=>jn (λp=>eA f (p [tt] d) (xA .eql e (.string ⟨#[115,97,104,108,113,118,105,115,116]⟩) λf=>jn (λq=>eA f (q [tt] d) (xA .eql e (.string ⟨#[116,114,97,99,101]⟩) λf=>q [f] d)) (λd f=>NV->p [(gx d 0)] f))) (λd f=>NV->o [(gx d 0)] f))) (λd f=>NV->n [(gx d 0)] f))) (λd f=>NV->m [(gx d 0)] f))) (λd f=>NV->l [(gx d 0)] f))) (λd f=>NV->k [(gx d 0)] f))) (λd f=>NV->j [(gx d 0)] f))) (λd f=>NV->i [(gx d 0)] f))) (λd f=>NV->h [(gx d 0)] f))) (λd f=>NV->g [(gx d 0)] f))) (λd f=>NV->jn (λg=>eA (gx d 0) (g [ff,(iv 1)] f) (xA .eql e (.string ⟨#[101,113,117,97,108]⟩) λd=>jn (λh=>eA d (h [(iv 2)] f) (xA .eql e (.string ⟨#[109,105,100,100,108,101]⟩) λd=>jn (λi=>eA d (i [tt] f) (xA .eql e (.string ⟨#[109,111,100,97,108]⟩) λd=>jn (λj=>eA d (j [tt] f) (xA .eql e (.string ⟨#[119,111,114,108,100,115]⟩) λd=>jn (λk=>eA d (k [tt] f) (xA .eql e (.string ⟨#[114,97,110,107]⟩) λd=>jn (λl=>eA d (l [tt] f) (xA .eql e (.string ⟨#[102,105,120]⟩) λd=>l [d] f)) (λd e=>NV->k [(gx d 0)] e))) (λd e=>NV->j [(gx d 0)] e))) (λd e=>NV->i [(gx d 0)] e))) (λd e=>NV->eA (gx d 0) (h [(iv 1)] e) (HA e 3 c λd=>sD prog e 3 b d λd=>HA d 3 b λe=>R (.tuple #[e,ff]) d)))) (λd e=>NV->g [tt,(gx d 0)] e))) (λd e=>NV->qP 1 a (some (iv 1)) none λa=>jn (λf=>eA (gx d 0) (lA a λg=>BB .i64 g (iv 0) λg=>eA g (HA e 3 c λg=>sD prog e 3 b g λg=>HA g 3 b λh=>R (.tuple #[h,ff]) g) (∃g:Nat->Prop,wA 1 a (iv 0) λh=>kA e h λi=>(∀j,Ch g e j->kA j h λh=>h=i)/\qP 1 a (some (iv 1)) none λh=>FA 1 c λj=> ∀k,bA e k->KC k j i λi=>Ch g k i/\ ∀g,bA i g->f [h] g)) (f [a] e)) (λa e=>NV->FA 0 c λf=>kA e f λf=>xA .eql f (.string ⟨#[109,105,100,100,108,101]⟩) λg=>jn (λh=>eA g (FA 1 c λg=>kA e g λg=>cf 70 [g] e λg i=>hH .i64 (iv 0) g λg=>h [g] i) (xA .eql f (.string ⟨#[102,105,120]⟩) λf=>jn (λg=>eA f (FA 1 c λf=>kA e f λf=>cf 71 [f] e λf i=>g [f] i) (jn (λf=>VA (gx d 0) λi=>eA i (f [tt] e) (FA 1 c λi=>kA e i λi=>cf 72 [i] e λe i=>f [e] i)) (λe f=>NV->g [(gx e 0)] f))) (λe f=>NV->h [(gx e 0)] f))) (λe f=>NV->FA 2 c λg=>KC f g (gx a 0) λf=>jn (λg=> ∃h:Nat->Prop,HA f 3 c λi=>(∀j,Ch h f j->HA j 3 c λc=>c=i)/\eA (gx e 0) (lA (gx a 0) λc=>BB .i64 c (gx d 1) λc=>eA c (XF prog (Ch h) (.func (.func 40) #[] #[]) [(gx a 0),(.func (.func 73) #[] #[])] f λa=>VA a λa=> ∀c,bA f c->sD prog c 3 b i λd=>Ch h c d/\ ∀c,bA d c->g [a] c) (∀a,bA f a->sD prog a 3 b i λc=>Ch h a c/\ ∀a,bA c a->g [ff] a)) (∀a,bA f a->sD prog a 3 b i λc=>Ch h a c/\ ∀a,bA c a->g [ff] a)) (λa c=>NV->HA c 3 b λb=>R (.tuple #[b,(gx a 0)]) c)))))
def UE:=PA (Value.cells a) 68 w λa c=>FA 0 a λd=>kA c d λd=>xA .eql d (.string ⟨#[115,104,111,119]⟩) λe=>jn (λf=>eA e (cf 74 [b] c λe g=>f [e,(iv 0)] g) (xA .eql d (.string ⟨#[110,111,100,101,115]⟩) λe=>jn (λg=>eA e (cf 76 [b] c λe h=>cf 75 [e] h λe h=>g [e,(iv 0)] h) (xA .eql d (.string ⟨#[108,101,116,116,101,114,115]⟩) λe=>jn (λh=>eA e (cf 77 [b] c λe i=>h [e,(iv 0)] i) (xA .eql d (.string ⟨#[99,108,97,115,115,105,99,97,108]⟩) λe=>jn (λi=>eA e (cf 79 [b] c λe j=>YA e 0 λk=>YA e 1 λe=>cf 78 [k,e] j λe j=>YA e 0 λk=>YA e 1 λe=>i [k,e] j) (xA .eql d (.string ⟨#[99,110,102]⟩) λe=>jn (λj=>eA e (cf 80 [b] c λe k=>YA e 0 λl=>YA e 1 λe=>cf 82 [l] k λk l=>cf 81 [k,e] l λe k=>YA e 0 λl=>YA e 1 λe=>j [l,e] k) (xA .eql d (.string ⟨#[110,111,114,109,97,108]⟩) λe=>jn (λk=>eA e (cf 84 [b] c λe l=>YA e 0 λm=>YA e 1 λe=>cf 83 [m,e] l λe l=>YA e 0 λm=>YA e 1 λe=>k [m,e] l) (xA .eql d (.string ⟨#[105,110,116]⟩) λe=>jn (λl=>eA e (cf 85 [b] c λe m=>YA e 0 λn=>YA e 1 λe=>cf 78 [n,e] m λe m=>YA e 0 λn=>YA e 1 λe=>l [n,e] m) (xA .eql d (.string ⟨#[115,116,101,112,115]⟩) λe=>jn (λm=>eA e (cf 74 [b] c λe n=>cf 86 [sn,e] n λe n=>YA e 0 λo=>YA e 1 λe=>cf 87 [o] n λn o=>cf 81 [n,e] o λe n=>YA e 0 λo=>YA e 1 λe=>m [o,e] n) (xA .eql d (.string ⟨#[116,101,114,109]⟩) λe=>jn (λn=>eA e (cf 88 [b] c λe o=>YA e 0 λp=>YA e 1 λe=>n [p,e] o) (xA .eql d (.string ⟨#[109,105,100,100,108,101]⟩) λd=>eA d (FA 1 a λa=>kA c a λa=>cf 89 [a,b] c λa b=>YA a 0 λd=>YA a 1 λa=>cf 78 [d,a] b λa b=>YA a 0 λd=>YA a 1 λa=>n [d,a] b) (R (.tuple #[es,(iv 0),ff]) c))) (λa b=>NV->m [(gx a 0),(gx a 1)] b))) (λa b=>NV->l [(gx a 0),(gx a 1)] b))) (λa b=>NV->k [(gx a 0),(gx a 1)] b))) (λa b=>NV->j [(gx a 0),(gx a 1)] b))) (λa b=>NV->i [(gx a 0),(gx a 1)] b))) (λa b=>NV->h [(gx a 0),(gx a 1)] b))) (λa b=>NV->g [(gx a 0),(gx a 1)] b))) (λa b=>NV->f [(gx a 0),(gx a 1)] b))) (λa b=>NV->R (.tuple #[(gx a 0),(gx a 1),tt]) b)
def qH:=PA (Value.cells a) 68 w λa c=>wA 1 b (iv 0) λd=>kA c d λd=>cf 74 [d] c λc e=>xB 9 (Value.cells es) 1 1 [(0,c)] e λc e=>zB #[sn,sn] #[(0,1),(1,1)] [(1,c)] λc=>PA (Value.cells (.agg #[sn,sn])) 123 e λe f=>sD prog f 2 e c λc=>FA 0 a λf=>kA c f λf=>xA .eql f (.string ⟨#[109,111,100,97,108]⟩) λg=>eA g (FA 1 a λg=>kA c g λg=>HA c 2 e λh=>cf 90 [g,h] c λg h=>YA g 0 λi=>YA g 1 λg=>cf 78 [i,g] h λg h=>YA g 0 λi=>YA g 1 λg=>R (.tuple #[i,g]) h) (xA .eql f (.string ⟨#[108,111,103,105,99,115]⟩) λg=>eA g (HA c 2 e λg=>cf 91 [g] c λg h=>YA g 0 λi=>YA g 1 λg=>zI .i64 g (iv 0) λj=>eA j (R (.tuple #[es,g]) h) (cf 92 [i,(.string ⟨#[32]⟩)] h λg h=>R (.tuple #[g,(iv 0)]) h)) (xA .eql f (.string ⟨#[119,111,114,108,100,115]⟩) λg=>eA g (FA 1 a λg=>kA c g λg=>HA c 2 e λh=>cf 93 [g,h] c λg h=>YA g 0 λi=>YA g 1 λg=>PA (Value.cells (.agg #[(iv 0),sn,sn])) 130 h λh j=>sD prog j 3 h i λi=>FA 0 h λh=>FA 0 h λh=>kA i h λh=>cf 81 [h,g] i λg h=>YA g 0 λi=>YA g 1 λg=>R (.tuple #[i,g]) h) (xA .eql f (.string ⟨#[114,97,110,107]⟩) λg=>eA g (FA 1 a λg=>kA c g λg=>HA c 2 e λe=>cf 94 [g,e] c λe g=>YA e 0 λh=>YA e 1 λe=>cf 81 [h,e] g λe g=>YA e 0 λh=>YA e 1 λe=>R (.tuple #[h,e]) g) (xA .eql f (.string ⟨#[101,113,117,97,108]⟩) λe=>eA e (FA 1 a λe=>kA c e λe=>wA 1 b (iv 1) λb=>kA c b λb=>cq 95 [e,d,b] c λb=>YA b 0 λe=>YA b 1 λb=>cq 78 [e,b] c λb=>YA b 0 λe=>YA b 1 λb=> ∀g,bA c g->R (.tuple #[e,b]) g) (xA .eql f (.string ⟨#[115,97,104,108,113,118,105,115,116]⟩) λb=>eA b (cf 96 [d] c λb e=>YA b 0 λg=>YA b 1 λb=>R (.tuple #[g,b]) e) (xA .eql f (.string ⟨#[116,114,97,99,101]⟩) λb=>eA b (cf 98 [d] c λb e=>YA b 0 λf=>YA b 1 λb=>cf 97 [f,b] e λb e=>YA b 0 λf=>YA b 1 λb=>R (.tuple #[f,b]) e) (FA 1 a λa=>kA c a λa=>cf 100 [(.string ⟨#[112,113,114,115,116,117]⟩),a] c λa b=>cf 99 [d,a] b λa b=>YA a 0 λc=>YA a 1 λa=>cf 83 [c,a] b λa b=>YA a 0 λc=>YA a 1 λa=>R (.tuple #[c,a]) b)))))))
def VS:=cf 101 [a,(.int .u8 32)] w λa b=>wA 1 a (iv 0) λc=>kA b c λc=>cf 102 [c] b λb c=>jn (λd=>xA .eql b es λe=>eA e (d [tt] c) (lA a λe=>rD b λf=>oA .i64 f (iv 1) λf=>zI .i64 e f λe=>d [e] c)) (λc d=>NV->eA (gx c 0) (R ff d) (lp (λc e f=>NV->rD b λg=>lB .i64 (gx e 0) g λg=>eA g (oA .i64 (gx e 0) (iv 1) λg=>wA 1 a g λa=>kA f a λa=>sm b (gx e 0) λb=>BB .u8 b (.int .u8 69) λg=>jn (λh=>eA g (cf 28 [a] f λg i=>h [g] i) (BB .u8 b (.int .u8 76) λg=>jn (λi=>eA g (cf 103 [a] f λg j=>i [g] j) (BB .u8 b (.int .u8 77) λb=>jn (λg=>eA b (cf 104 [a] f λb j=>g [b] j) (jn (λb=>rD a λj=>BB .i64 j (iv 1) λj=>eA j (sm a (iv 0) λj=>hH .u8 (.int .u8 112) j λj=>eA j (sm a (iv 0) λa=>hH .u8 a (.int .u8 117) λa=>b [a] f) (b [ff] f)) (b [ff] f)) (λa b=>NV->g [(gx a 0)] b))) (λa b=>NV->i [(gx a 0)] b))) (λa b=>NV->h [(gx a 0)] b))) (λa b=>NV->VA (gx a 0) λa=>eA a (R ff b) (oA .i64 (gx e 0) (iv 1) λa=>c [a] b))) (R tt f)) [(iv 0)] d))
def MP:=cf 101 [b,(.int .u8 32)] w λb c=>lA b λd=>KB .i64 d (iv 1) λd=>wA 1 b d λd=>kA c d λd=>cf 29 [a,d] c λc d=>YA c 0 λe=>YA c 1 λc=>wA 1 b (iv 0) λf=>kA d f λf=>xA .eql f (.string ⟨#[101,113,117,97,108]⟩) λf=>eA f (wA 1 b (iv 2) λf=>kA d f λf=>cf 29 [a,f] d λa f=>YA a 0 λg=>YA a 1 λa=>jn (λh=>BB .i64 a (iv 4) λi=>eA i (h [tt] f) (BB .i64 c (iv 4) λi=>h [i] f)) (λf h=>NV->eA (gx f 0) (R (.tuple #[es,(iv 4)]) h) (jn (λf=>zI .i64 a (iv 0) λa=>eA a (f [tt] h) (zI .i64 c (iv 0) λa=>f [a] h)) (λa f=>NV->eA (gx a 0) (R (.tuple #[es,(iv 3)]) f) (wA 1 b (iv 1) λa=>kA f a λa=>cf 105 [a,g,e] f λa f=>YA a 0 λg=>YA a 1 λa=>cf 106 [g,a] f λa f=>YA a 0 λg=>YA a 1 λa=>R (.tuple #[g,a]) f))))) (zI .i64 c (iv 0) λa=>eA a (R (.tuple #[es,c]) d) (lA b λa=>BB .i64 a (iv 2) λa=>eA a (wA 1 b (iv 0) λa=>kA d a λa=>cf 107 [a,e] d λa c=>YA a 0 λf=>YA a 1 λa=>R (.tuple #[f,a]) c) (wA 1 b (iv 0) λa=>kA d a λa=>wA 1 b (iv 1) λb=>kA d b λb=>cq 108 [a,b,e] d λa=>YA a 0 λb=>YA a 1 λa=> ∀c,bA d c->R (.tuple #[b,a]) c)))
def ZM:=cf 109 [a] w λb c=>VA b λb=>eA b (R (.tuple #[es,(iv 1)]) c) (cf 48 [a] c λa b=>R (.tuple #[a,(iv 0)]) b)
def sY:=cf 110 [a,b,(.func (.func 111) #[] #[])] w λa b=>YA a 0 λc=>YA a 1 λa=>R (.tuple #[c,a]) b
def DC:=cf 113 [a,b] w λa b=>hH .i64 (iv 0) a λa=>R a b
def uU:=rD a λa=>lB .i64 (iv 300) a λa=>R a w
def vU:=cf 43 [a] w λa b=>VA a λa=>R a b
def PL:=cf 64 [a,(.func (.func 114) #[] #[])] w λa b=>YA a 0 λc=>YA a 1 λa=>zB #[es,(iv 0),ff] #[(0,1),(1,1),(2,1)] [(0,c)] λd=>PA (Value.cells d) 152 b λb d=>cf 115 [b] d λ_ d=>jn (λe=>eA a (IA b λa=>FA 2 a λa=>kA d a λa=>VA a λa=>eA a (IA b λa=>FA 1 a λa=>kA d a λa=>rD c λb=>BB .i64 a b λa=>e [a] d) (e [ff] d)) (e [ff] d)) (λa b=>NV->R (gx a 0) b)
def ME:=cf 116 [a,b] w λa b=>hH .i64 (iv 0) a λa=>R a b
def OU:=jn (λe=>hH .i64 b (iv 2) λf=>eA f (e [tt] w) (cf 23 [a,(iv 9)] w λf g=>BB .i64 f (iv 0) λf=>e [f] g)) (λe f=>NV->eA (gx e 0) (cf 23 [a,(iv 8)] f λe g=>BB .i64 e (iv 0) λe=>eA e (cf 117 [] g λe h=>R e h) (cf 23 [a,c] g λe g=>cf 49 [e] g λe g=>R e g)) (jn (λe=>eA d (cf 23 [a,(iv 3)] f λg h=>BB .i64 g (iv 0) λg=>e [g] h) (e [ff] f)) (λe f=>NV->eA (gx e 0) (cf 23 [a,(iv 2)] f λe g=>oA .i64 (iv 5) e λe=>KB .i64 b (iv 1) λh=>cf 45 [a,h,c,d] g λg h=>cf 118 [e,g] h λe g=>R e g) (cf 23 [a,(iv 6)] f λe f=>BB .i64 e (iv 0) λe=>eA e (KB .i64 b (iv 2) λe=>cf 45 [a,e,c,d] f λe g=>cf 119 [e] g λe g=>R e g) (KB .i64 b (iv 2) λe=>cf 23 [a,e] f λe f=>oA .i64 (iv 1) e λe=>cf 45 [a,e,c,d] f λf g=>cf 23 [a,(iv 3)] g λg h=>oA .i64 (iv 2) g λg=>KB .i64 b (iv 1) λb=>KB .i64 b e λb=>cf 45 [a,b,c,d] h λa b=>cf 120 [g,f,a] b λa b=>R a b)))))
def PU:=cf 121 [a] w λb c=>YA b 0 λd=>YA b 1 λ_=>YA b 2 λb=>jn (λe=>BB .i64 b (iv 0) λb=>eA b (cf 48 [d] c λb f=>xA .eql b a λa=>e [d,a] f) (e [d,ff] c)) (λa b=>NV->R (.tuple #[(gx a 0),(gx a 1)]) b)
def qO:=cf 23 [a,(iv 3)] w λb c=>oA .i64 (iv 1) b λb=>cf 45 [a,b,(iv 3),ff] c λb c=>cf 23 [a,(iv 3)] c λc d=>oA .i64 (iv 1) c λc=>cf 45 [a,c,(iv 3),ff] d λc d=>cf 23 [a,(iv 3)] d λd e=>cf 49 [d] e λd e=>cf 23 [a,(iv 8)] e λe f=>BB .i64 e (iv 0) λg=>eA g (cf 120 [(iv 2),b,c] f λg h=>cf 120 [(iv 2),c,b] h λh i=>cf 120 [(iv 4),g,h] i λg h=>cf 48 [g] h λg h=>R g h) (BB .i64 e (iv 1) λg=>eA g (cf 120 [(iv 3),b,c] f λg h=>cf 120 [(iv 3),c,b] h λh i=>cf 120 [(iv 4),g,h] i λg h=>cf 48 [g] h λg h=>R g h) (BB .i64 e (iv 2) λg=>eA g (cf 120 [(iv 4),c,b] f λg h=>cf 120 [(iv 4),b,g] h λg h=>cf 48 [g] h λg h=>R g h) (BB .i64 e (iv 3) λg=>eA g (cf 120 [(iv 4),b,c] f λg h=>cf 120 [(iv 4),c,d] h λh i=>cf 120 [(iv 4),b,d] i λi j=>cf 120 [(iv 4),h,i] j λh i=>cf 120 [(iv 4),g,h] i λg h=>cf 48 [g] h λg h=>R g h) (BB .i64 e (iv 4) λg=>eA g (cf 119 [b] f λg h=>cf 119 [g] h λg h=>cf 120 [(iv 4),b,g] h λg h=>cf 48 [g] h λg h=>R g h) (BB .i64 e (iv 5) λg=>eA g (cf 120 [(iv 4),c,d] f λg h=>cf 120 [(iv 4),b,g] h λg h=>cf 120 [(iv 2),b,c] h λh i=>cf 120 [(iv 4),h,d] i λd h=>cf 120 [(iv 4),g,d] h λd g=>cf 48 [d] g λd g=>R d g) (BB .i64 e (iv 6) λd=>eA d (cf 120 [(iv 2),b,b] f λd e=>cf 120 [(iv 3),d,c] e λc d=>cf 120 [(iv 4),b,c] d λb c=>cf 48 [b] c λb c=>R b c) (cf 45 [a,(iv 6),(iv 2),ff] f λa b=>cf 48 [a] b λa b=>R a b)))))))
def UU:=cf 122 [a,(iv 0)] w λa b=>R a b
def KY:=zB #[(iv 0),(iv 0)] #[(0,1),(1,1)] [(0,(iv 0)),(1,a)] λa=>xB 59 (Value.cells (.agg #[(iv 0),(iv 0)])) 2 1 [(0,a)] w λa b=>R a b
def GP:=xB 9 (Value.cells es) 1 22 [(0,(.string ⟨#[112]⟩)),(1,(.string ⟨#[113]⟩)),(2,(.string ⟨#[70]⟩)),(3,(.string ⟨#[84]⟩)),(4,(.string ⟨#[126]⟩)),(5,(.string ⟨#[38]⟩)),(6,(.string ⟨#[124]⟩)),(7,(.string ⟨#[62]⟩)),(8,(.string ⟨#[40]⟩)),(9,(.string ⟨#[41]⟩)),(10,(.string ⟨#[91,93]⟩)),(11,(.string ⟨#[60,62]⟩)),(12,(.string ⟨#[32]⟩)),(13,(.string ⟨#[44]⟩)),(14,(.string ⟨#[59]⟩)),(15,(.string ⟨#[48]⟩)),(16,(.string ⟨#[49]⟩)),(17,(.string ⟨#[46]⟩)),(18,(.string ⟨#[91]⟩)),(19,(.string ⟨#[60]⟩)),(20,(.string ⟨#[120]⟩)),(21,(.string ⟨#[10]⟩))] w λc d=>lA c λe=>cf 23 [a,e] d λd e=>wA 1 c d λc=>kA e c λc=>rD b λd=>BB .i64 d (iv 0) λd=>eA d (R c e) (rD b λd=>cf 23 [a,d] e λd e=>cf 23 [a,(iv 3)] e λa e=>BB .i64 a (iv 0) λf=>eA f (yM b none (some d) λf=>xA .add f c λf=>oA .i64 d (iv 1) λg=>yM b (some g) none λg=>xA .add f g λf=> ∀g,bA e g->R f g) (BB .i64 a (iv 1) λa=>eA a (yM b none (some d) λa=>oA .i64 d (iv 1) λf=>yM b (some f) none λf=>xA .add a f λa=> ∀f,bA e f->R a f) (yM b none (some d) λa=>xA .add a c λa=>yM b (some d) none λb=>xA .add a b λa=> ∀b,bA e b->R a b)))
def oY:=jn (λb=>rD a λc=>hH .i64 (iv 1) c λc=>eA c (rD a λc=>hH .i64 c (iv 8) λc=>eA c (cf 123 [a,(.func (.func 124) #[] #[])] w λa c=>VA a λa=>b [a] c) (b [ff] w)) (b [ff] w)) (λa b=>NV->R (gx a 0) b)
def rY:=cf 125 [a] w λb c=>jn (λd=>zg false b sn λe=>eA e (cf 74 [b] c λb e=>xA .eql b a λa=>d [a] e) (d [ff] c)) (λa b=>NV->R (gx a 0) b)
def OM:=jn (λd=>hH .i64 b a λb=>eA b (hH .i64 a c λa=>d [a] w) (d [ff] w)) (λa b=>NV->R (gx a 0) b)
def NM:=kA w b λb=>cf 55 [b,a] w λa b=>VA a λa=>R a b
def AU:=PA (Value.cells a) 24 w λa c=>cf 30 [b] c λb c=>cf 40 [b,(.func (.func 126) #[] #[a])] c λa b=>VA a λa=>R a b
def bS:=PA (Value.cells a) 24 w λa c=>cf 64 [b,(.func (.func 127) #[] #[a])] c λa b=>YA a 0 λc=>YA a 1 λ_=>cf 128 [c] b λa b=>R a b
def ZN:=cf 129 [a,(.func (.func 130) #[] #[])] w λb c=>eA b (R (.tuple #[sn,(iv 3)]) c) (R (.tuple #[a,(iv 0)]) c)
def SS:=lA a λb=>lB .i64 (iv 12) b λb=>eA b (R ff w) (lp (λb c d=>NV->lA a λe=>lB .i64 (gx c 0) e λe=>eA e (wA 3 a (gx c 0) λe=>FA 1 e λe=>kA d e λe=>cf 46 [e] d λe f=>YA e 0 λ_=>YA e 1 λe=>jn (λg=>VA e λe=>eA e (g [tt] f) (wA 3 a (gx c 0) λe=>FA 0 e λe=>kA f e λe=>cf 59 [e] f λe f=>VA e λe=>eA e (g [tt] f) (wA 3 a (gx c 0) λe=>FA 2 e λe=>kA f e λe=>zI .i64 e (iv 0) λe=>eA e (wA 3 a (gx c 0) λe=>FA 2 e λe=>kA f e λe=>zI .i64 e (iv 1) λe=>g [e] f) (g [ff] f)))) (λe f=>NV->eA (gx e 0) (R ff f) (jn (λe=>lB .i64 (iv 0) (gx c 0) λg=>eA g (wA 3 a (gx c 0) λg=>FA 0 g λg=>kA f g λg=>KB .i64 (gx c 0) (iv 1) λh=>wA 3 a h λa=>FA 0 a λa=>kA f a λa=>xA .leq g a λa=> ∀g,bA f g->e [a] g) (∀a,bA f a->e [ff] a)) (λa e=>NV->eA (gx a 0) (R ff e) (oA .i64 (gx c 0) (iv 1) λa=>b [a] e))))) (R tt d)) [(iv 0)] w)
def mV:=lp (λb c d=>NV->rD a λe=>lB .i64 (gx c 0) e λe=>eA e (jn (λe=>sm a (gx c 0) λf=>lB .u8 f (.int .u8 97) λf=>eA f (e [tt] d) (sm a (gx c 0) λf=>lB .u8 (.int .u8 122) f λf=>e [f] d)) (λe f=>NV->eA (gx e 0) (R ff f) (oA .i64 (gx c 0) (iv 1) λc=>b [c] f))) (jn (λb=>rD a λc=>hH .i64 (iv 1) c λc=>eA c (rD a λa=>hH .i64 a (iv 8) λa=>b [a] d) (b [ff] d)) (λa b=>NV->R (gx a 0) b))) [(iv 0)] w
def SU:=zB #[es,(iv 0),ff] #[(0,1),(1,1),(2,1)] [(0,a)] λb=>PA (Value.cells b) 167 w λb c=>cf 131 [b] c λc d=>jn (λe=>IA b λf=>FA 2 f λf=>kA d f λf=>eA f (e [tt] d) (IA b λf=>FA 1 f λf=>kA d f λf=>rD a λa=>lB .i64 f a λa=>e [a] d)) (λa d=>NV->eA (gx a 0) (IA b λa=>FA 1 a λa=>kA d a λa=> ∀b,bA d b->R (.tuple #[sn,a]) b) (R (.tuple #[c,(iv (-1))]) d))
def oV:=wA 1 a (iv 0) λc=>kA w c λc=>lp (λd e f=>NV->lA b λg=>lB .i64 (gx e 1) g λg=>eA g (xA .add (gx e 0) (.string ⟨#[40]⟩) λg=>wA 1 b (gx e 1) λb=>kA f b λb=>xA .add g b λb=>xA .add b (.string ⟨#[41]⟩) λb=>oA .i64 (gx e 1) (iv 1) λg=>wA 1 a g λa=>kA f a λa=>xA .add b a λa=> ∀b,bA f b->oA .i64 (gx e 1) (iv 1) λg=>d [a,g] b) (R (gx e 0) f)) [c,(iv 0)] w
def RS:=lp (λc d e=>NV->jn (λf=>lA a λg=>lB .i64 (gx d 0) g λg=>eA g (wA 3 a (gx d 0) λg=>FA 0 g λg=>kA e g λg=>xA .lss g b λg=>f [g] e) (f [ff] e)) (λe f=>NV->eA (gx e 0) (oA .i64 (gx d 0) (iv 1) λe=>c [e] f) (jn (λc=>lA a λe=>lB .i64 (gx d 0) e λe=>eA e (wA 3 a (gx d 0) λa=>FA 0 a λa=>kA f a λa=>xA .eql a b λa=> ∀b,bA f b->c [(gx d 0),a] b) (∀a,bA f a->c [(gx d 0),ff] a)) (λa b=>NV->R (.tuple #[(gx a 0),(gx a 1)]) b)))) [(iv 0)] w
def dN:=lA a λb=>lB .i64 (iv 40) b λb=>eA b (R (.tuple #[sn,(iv 3)]) w) (R (.tuple #[a,(iv 0)]) w)
def lS:=PA (Value.cells (.agg #[(.pointer none),sn])) 171 w λc d=>lp (λe f g=>NV->cf 132 [(gx f 0),(.string ⟨#[36]⟩)] g λf g=>YA f 0 λh=>YA f 1 λi=>YA f 2 λf=>cf 133 [c,h] g λ_ g=>VA f λf=>eA f (cf 134 [c] g λf h=>R (.tuple #[f,tt]) h) (cf 135 [i,(.func (.func 136) #[] #[])] g λf g=>lB .i64 f (iv 0) λh=>jn (λj=>eA h (rD i λh=>j [h] g) (j [f] g)) (λf g=>NV->yM i none (some (gx f 0)) λh=>cf 51 [h] g λg h=>VA g λg=>eA g (R (.tuple #[es,ff]) h) (yM i none (some (gx f 0)) λg=>TB prog b [g] h λb g=>xA .add (.string ⟨#[40]⟩) b λb=>xA .add b (.string ⟨#[41]⟩) λb=>cf 133 [c,b] g λ_ b=>yM i (some (gx f 0)) none λc=>e [c] b)))) [a] d
def UL:=kA w b λc=>xB 9 (Value.cells es) 1 1 [(0,a)] w λa d=>nD prog (Builtin.append_ #[31,31] 31 #[c,a]) d λa c=>KC c b a λa=>R (.string ⟨#[112]⟩) a
def pa:=xB 31 (Value.cells sn) 1 2 [(0,a),(1,b)] w λa b=>cf 137 [a] b λa b=>cf 138 [a] b λ_ b=>cf 139 [a] b λa b=>R a b
def WS:=jn (λb=>hH .u8 (.int .u8 97) a λc=>eA c (hH .u8 a (.int .u8 122) λa=>b [a] w) (b [ff] w)) (λa b=>NV->R (gx a 0) b)
def HP:=lp (λc d e=>NV->jn (λf=>lA a λg=>lB .i64 (gx d 0) g λg=>eA g (wA 1 a (gx d 0) λg=>kA e g λg=>xA .lss g b λg=>f [g] e) (f [ff] e)) (λe f=>NV->eA (gx e 0) (oA .i64 (gx d 0) (iv 1) λe=>c [e] f) (jn (λc=>lA a λe=>lB .i64 (gx d 0) e λe=>eA e (wA 1 a (gx d 0) λe=>kA f e λe=>xA .eql e b λe=>c [e] f) (c [ff] f)) (λc e=>NV->eA (gx c 0) (R a e) (xB 9 (Value.cells es) 1 0 [] e λc e=>qP 1 a none (some (gx d 0)) λf=>nD prog (Builtin.append_ #[31,31] 31 #[c,f]) e λc e=>xB 9 (Value.cells es) 1 1 [(0,b)] e λb e=>nD prog (Builtin.append_ #[31,31] 31 #[c,b]) e λb c=>qP 1 a (some (gx d 0)) none λa=>nD prog (Builtin.append_ #[31,31] 31 #[b,a]) c λa b=>R a b))))) [(iv 0)] w
def bT:=cf 140 [a,b,(iv 0),(iv (-1))] w λa b=>R a b
def FJ:=HA w 9 (.pointer (some ⟨0,0,none⟩)) λb=>lp (λc d e=>NV->lB .i64 (gx d 0) (iv 9) λf=>eA f (xR prog e (Instr.index 183 b (gx d 0)) λb=>xA .eql b a λa=>eA a (R (gx d 0) e) (oA .i64 (gx d 0) (iv 1) λa=>c [a] e)) (R (iv (-1)) e)) [(iv 0)] w
def YH:=jn (λb=>rD a λc=>BB .i64 c (iv 1) λc=>eA c (cf 141 [(.string ⟨#[112,113,114,115,116,117]⟩),a] w λa c=>b [a] c) (b [ff] w)) (λa b=>NV->R (gx a 0) b)
def IG:=cf 142 [] w λb c=>cf 44 [b,a] c λa b=>R a b
def CP:=cf 43 [a] w λa b=>VA a λa=>R a b
def V6:=cf 143 [a,(iv 0)] w λa b=>R a b
def xU:=cf 144 [a,(iv 10)] w λa b=>R a b
def LJ:=lA a λa=>R a w
def yP:=xB 27 (Value.cells sn) 1 1 [(0,a)] w λa b=>cf 145 [a] b λa b=>lA a λc=>lp (λd e f=>NV->lB .i64 (gx e 1) c λc=>eA c (wA 1 a (gx e 1) λa=>kA f a λa=>cf 146 [a] f λa c=>cf 74 [a] c λa c=>xB 9 (Value.cells es) 1 1 [(0,a)] c λa c=>nD prog (Builtin.append_ #[31,31] 31 #[(gx e 0),a]) c λa c=>oA .i64 (gx e 1) (iv 1) λg=>d [a,g] c) (cf 92 [(gx e 0),es] f λa c=>R a c)) [sn,(iv 0)] b
def qa:=zI .i64 b (iv 0) λc=>eA c (R (.tuple #[es,b]) w) (eA a (R (.tuple #[(.string ⟨#[121,101,115]⟩),(iv 0)]) w) (R (.tuple #[(.string ⟨#[110,111]⟩),(iv 0)]) w))
def GM:=xB 27 (Value.cells sn) 1 1 [(0,a)] w λb c=>cf 147 [b] c λb c=>zI .i64 b (iv 0) λd=>eA d (R (.tuple #[ff,b]) c) (cf 148 [a] c λa b=>BB .u64 a (.int .u64 18446744073709551615) λa=>R (.tuple #[a,(iv 0)]) b)
def GL:=xB 27 (Value.cells sn) 1 1 [(0,a)] w λb c=>cf 154 [b] c λb c=>zI .i64 b (iv 0) λd=>eA d (R (.tuple #[ff,b]) c) (cf 74 [a] c λa b=>cf 155 [sn,a] b λa b=>R (.tuple #[a,(iv 0)]) b)
def HM:=cf 161 [b] w λc d=>VA c λc=>eA c (R (.tuple #[ff,(iv 1)]) d) (cf 70 [a] d λc d=>lB .i64 c (iv 0) λc=>eA c (R (.tuple #[ff,(iv 4)]) d) (jn (λc=>cf 162 [b] d λd e=>VA d λd=>eA d (c [tt] e) (xA .eql a (.string ⟨#[66,68,51]⟩) λd=>eA d (c [tt] e) (xA .eql a (.string ⟨#[66,87,50]⟩) λd=>eA d (c [tt] e) (xA .eql a (.string ⟨#[66,87,51]⟩) λd=>c [d] e)))) (λc d=>NV->eA (gx c 0) (R (.tuple #[ff,(iv 5)]) d) (xB 27 (Value.cells sn) 1 1 [(0,b)] d λc d=>cf 145 [c] d λc d=>jn (λe=>xA .eql a (.string ⟨#[73,110,116]⟩) λf=>eA f (e [tt] d) (xA .eql a (.string ⟨#[75,67]⟩) λf=>e [f] d)) (λd e=>NV->eA (gx d 0) (lA b λd=>lB .i64 (iv 20) d λd=>eA d (R (.tuple #[ff,(iv 3)]) e) (xA .eql a (.string ⟨#[73,110,116]⟩) λd=>jn (λf=>eA d (f [sn] e) (f [c] e)) (λd f=>NV->cf 163 [(gx d 0)] f λd f=>cf 74 [b] f λf g=>cf 155 [d,f] g λd f=>R (.tuple #[d,(iv 0)]) f))) (jn (λd=>xA .eql a (.string ⟨#[66,68,50]⟩) λf=>eA f (lA c λf=>lB .i64 (iv 2) f λf=>d [f] e) (d [ff] e)) (λd e=>NV->eA (gx d 0) (R (.tuple #[ff,(iv 3)]) e) (cf 166 [c] e λc d=>cf 165 [a,c] d λa c=>cf 164 [a,b] c λa b=>YA a 0 λc=>YA a 1 λa=>R (.tuple #[c,a]) b))))))))
def AJ:=PA (Value.cells b) 123 w λb c=>HA c 2 b λd=>xB 123 (Value.cells (.agg #[sn,sn])) 2 1 [(0,d)] c λc d=>cf 167 [a,c] d λc d=>zI .i64 c (iv 0) λe=>eA e (R (.tuple #[ff,c]) d) (HA d 2 b λb=>cf 168 [a,b] d λa b=>R (.tuple #[a,(iv 0)]) b)
def WR:=PA (Value.cells a) 123 w λa b=>HA b 2 a λc=>xB 123 (Value.cells (.agg #[sn,sn])) 2 1 [(0,c)] b λb c=>cf 167 [(.string ⟨#[75]⟩),b] c λb c=>zI .i64 b (iv 0) λd=>eA d (R (.tuple #[sn,b]) c) (cf 142 [] c λb c=>cf 169 [b,(.func (.func 170) #[] #[a])] c λa b=>R (.tuple #[a,(iv 0)]) b)
def HU:=lA a λc=>BB .i64 c (iv 0) λc=>eA c (R (.string ⟨#[45]⟩) w) (cf 171 [a,b] w λa b=>R a b)
def FP:=PA (Value.cells a) 138 w λa c=>xB 9 (Value.cells es) 1 1 [(0,(.string ⟨#[98,117,116]⟩))] c λc d=>zI .i64 b (iv 0) λe=>eA e (R (.tuple #[es,b]) d) (jn (λb=>FA 1 a λe=>kA d e λe=>lA e λe=>BB .i64 e (iv 0) λe=>eA e (FA 0 a λe=>kA d e λe=>b [e] d) (b [ff] d)) (λb d=>NV->eA (gx b 0) (R (.tuple #[(.string ⟨#[110,111,110,101]⟩),(iv 0)]) d) (FA 1 a λb=>kA d b λb=>lA b λb=>BB .i64 b (iv 0) λb=>eA b (R (.tuple #[(.string ⟨#[97,108,108]⟩),(iv 0)]) d) (FA 0 a λb=>kA d b λb=>jn (λe=>eA b (wA 1 c (iv 0) λb=>KC d b (.string ⟨#[111,110,108,121]⟩) λb=>e [] b) (e [] d)) (λ_ b=>NV->FA 1 a λa=>kA b a λa=>lA a λd=>lp (λe f g=>NV->lB .i64 (gx f 1) d λd=>eA d (wA 1 a (gx f 1) λa=>kA g a λa=>cf 75 [a] g λa d=>xB 9 (Value.cells es) 1 1 [(0,a)] d λa d=>nD prog (Builtin.append_ #[31,31] 31 #[(gx f 0),a]) d λa d=>oA .i64 (gx f 1) (iv 1) λh=>e [a,h] d) (cf 171 [(gx f 0),(.string ⟨#[32]⟩)] g λa d=>R (.tuple #[a,(iv 0)]) d)) [c,(iv 0)] b)))))
def tU:=PA (Value.cells (.agg #[ff,sn])) 138 w λb c=>xB 27 (Value.cells sn) 1 1 [(0,a)] c λc d=>cf 183 [c] d λc d=>zI .i64 c (iv 0) λe=>eA e (zB #[ff,sn] #[(0,1),(1,1)] [] λe=>sD prog d 2 b e λe=>HA e 2 b λf=>R (.tuple #[f,c]) e) (cf 185 [a,(iv 0)] d λa c=>cf 184 [a] c λa c=>sD prog c 2 b a λa=>HA a 2 b λb=>R (.tuple #[b,(iv 0)]) a)
def ZS:=cf 190 [a,b] w λa b=>R a b
def tS:=xB 9 (Value.cells es) 1 0 [] w λc d=>lp (λe f g=>NV->rD a λh=>lB .i64 (gx f 2) h λh=>eA h (sm a (gx f 2) λh=>BB .u8 h b λb=>eA b (yM a (some (gx f 1)) (some (gx f 2)) λb=>xB 9 (Value.cells es) 1 1 [(0,b)] g λb h=>nD prog (Builtin.append_ #[31,31] 31 #[(gx f 0),b]) h λb h=>oA .i64 (gx f 2) (iv 1) λi=>oA .i64 (gx f 2) (iv 1) λj=>e [b,i,j] h) (oA .i64 (gx f 2) (iv 1) λb=>e [(gx f 0),(gx f 1),b] g)) (yM a (some (gx f 1)) none λa=>xB 9 (Value.cells es) 1 1 [(0,a)] g λa b=>nD prog (Builtin.append_ #[31,31] 31 #[(gx f 0),a]) b λa b=>R a b)) [c,(iv 0),(iv 0)] d
def YS:=xA .eql a (.string ⟨#[115,104,111,119]⟩) λb=>jn (λc=>eA b (c [tt] w) (xA .eql a (.string ⟨#[110,111,100,101,115]⟩) λb=>jn (λd=>eA b (d [tt] w) (xA .eql a (.string ⟨#[108,101,116,116,101,114,115]⟩) λb=>jn (λe=>eA b (e [tt] w) (xA .eql a (.string ⟨#[99,108,97,115,115,105,99,97,108]⟩) λb=>jn (λf=>eA b (f [tt] w) (xA .eql a (.string ⟨#[99,110,102]⟩) λb=>jn (λg=>eA b (g [tt] w) (xA .eql a (.string ⟨#[110,111,114,109,97,108]⟩) λb=>jn (λh=>eA b (h [tt] w) (xA .eql a (.string ⟨#[105,110,116]⟩) λb=>jn (λi=>eA b (i [tt] w) (xA .eql a (.string ⟨#[115,116,101,112,115]⟩) λb=>jn (λj=>eA b (j [tt] w) (xA .eql a (.string ⟨#[116,101,114,109]⟩) λb=>jn (λk=>eA b (k [tt] w) (xA .eql a (.string ⟨#[108,111,103,105,99,115]⟩) λb=>jn (λl=>eA b (l [tt] w) (xA .eql a (.string ⟨#[115,97,104,108,113,118,105,115,116]⟩) λb=>jn (λm=>eA b (m [tt] w) (xA .eql a (.string ⟨#[116,114,97,99,101]⟩) λb=>m [b] w)) (λb m=>NV->l [(gx b 0)] m))) (λb l=>NV->k [(gx b 0)] l))) (λb k=>NV->j [(gx b 0)] k))) (λb j=>NV->i [(gx b 0)] j))) (λb i=>NV->h [(gx b 0)] i))) (λb h=>NV->g [(gx b 0)] h))) (λb g=>NV->f [(gx b 0)] g))) (λb f=>NV->e [(gx b 0)] f))) (λb e=>NV->d [(gx b 0)] e))) (λb d=>NV->c [(gx b 0)] d))) (λb c=>NV->eA (gx b 0) (R (.string ⟨#[69]⟩) c) (xA .eql a (.string ⟨#[109,105,100,100,108,101]⟩) λb=>eA b (R (.string ⟨#[77,69]⟩) c) (xA .eql a (.string ⟨#[109,111,100,97,108]⟩) λb=>jn (λd=>eA b (d [tt] c) (xA .eql a (.string ⟨#[119,111,114,108,100,115]⟩) λb=>jn (λe=>eA b (e [tt] c) (xA .eql a (.string ⟨#[114,97,110,107]⟩) λb=>e [b] c)) (λb c=>NV->d [(gx b 0)] c))) (λb c=>NV->eA (gx b 0) (R (.string ⟨#[76,69]⟩) c) (xA .eql a (.string ⟨#[101,113,117,97,108]⟩) λb=>eA b (R (.string ⟨#[76,69,69]⟩) c) (xA .eql a (.string ⟨#[102,105,120]⟩) λa=>eA a (R (.string ⟨#[86,69]⟩) c) (R es c)))))))
def R0:=jn (λb=>xA .eql a (.string ⟨#[75,66]⟩) λc=>eA c (b [tt] w) (cf 191 [a] w λa c=>b [a] c)) (λa b=>NV->R (gx a 0) b)
def NP:=lp (λb c d=>NV->lB .i64 (gx c 0) (iv 9) λe=>eA e (cf 192 [(gx c 0)] d λe f=>YA e 0 λg=>YA e 1 λ_=>xA .eql g a λa=>eA a (R tt f) (oA .i64 (gx c 0) (iv 1) λa=>b [a] f)) (R ff d)) [(iv 0)] w
def qV:=zI .i64 b (iv 0) λc=>eA c (R (.tuple #[es,b]) w) (eA a (R (.tuple #[(.string ⟨#[121,101,115]⟩),b]) w) (R (.tuple #[(.string ⟨#[110,111]⟩),b]) w))
def US:=xB 9 (Value.cells es) 1 0 [] w λc d=>cf 48 [b] d λd e=>xB 9 (Value.cells es) 1 1 [(0,d)] e λd e=>zB #[sn,sn] #[(0,1),(1,1)] [(0,c),(1,d)] λc=>PA (Value.cells (.agg #[sn,sn])) 123 e λd e=>sD prog e 2 d c λc=>xA .eql a (.string ⟨#[115,104,111,119]⟩) λe=>eA e (cf 48 [b] c λe f=>R (.tuple #[e,(iv 0)]) f) (xA .eql a (.string ⟨#[110,111,100,101,115]⟩) λe=>eA e (lA b λe=>cf 195 [e] c λe f=>R (.tuple #[e,(iv 0)]) f) (xA .eql a (.string ⟨#[108,101,116,116,101,114,115]⟩) λe=>eA e (cf 196 [b] c λe f=>R (.tuple #[e,(iv 0)]) f) (xA .eql a (.string ⟨#[99,108,97,115,115,105,99,97,108]⟩) λe=>eA e (cf 197 [b] c λe f=>YA e 0 λg=>YA e 1 λe=>cf 106 [g,e] f λe f=>YA e 0 λg=>YA e 1 λe=>R (.tuple #[g,e]) f) (xA .eql a (.string ⟨#[99,110,102]⟩) λe=>eA e (cf 198 [b] c λe f=>YA e 0 λg=>YA e 1 λe=>lA g λg=>cf 199 [g,e] f λe f=>YA e 0 λg=>YA e 1 λe=>R (.tuple #[g,e]) f) (xA .eql a (.string ⟨#[110,111,114,109,97,108]⟩) λe=>eA e (cf 200 [b] c λe f=>YA e 0 λg=>YA e 1 λe=>cf 201 [g,e] f λe f=>YA e 0 λg=>YA e 1 λe=>R (.tuple #[g,e]) f) (xA .eql a (.string ⟨#[105,110,116]⟩) λe=>eA e (cf 202 [b] c λe f=>YA e 0 λg=>YA e 1 λe=>cf 106 [g,e] f λe f=>YA e 0 λg=>YA e 1 λe=>R (.tuple #[g,e]) f) (xA .eql a (.string ⟨#[115,116,101,112,115]⟩) λe=>eA e (xB 9 (Value.cells es) 1 0 [] c λe f=>cf 48 [b] f λf g=>cf 203 [e,f] g λe f=>YA e 0 λg=>YA e 1 λe=>lA g λg=>cf 199 [g,e] f λe f=>YA e 0 λg=>YA e 1 λe=>R (.tuple #[g,e]) f) (xA .eql a (.string ⟨#[116,101,114,109]⟩) λe=>eA e (xB 9 (Value.cells es) 1 0 [] c λe f=>cf 48 [b] f λf g=>cf 204 [e,f] g λe f=>YA e 0 λg=>YA e 1 λe=>zI .i64 e (iv 0) λh=>eA h (R (.tuple #[es,e]) f) (cf 205 [g] f λf g=>R (.tuple #[f,e]) g)) (xA .eql a (.string ⟨#[108,111,103,105,99,115]⟩) λe=>eA e (HA c 2 d λd=>cf 206 [d] c λd e=>YA d 0 λf=>YA d 1 λd=>jn (λg=>BB .i64 d (iv 0) λh=>eA h (lA f λh=>BB .i64 h (iv 0) λh=>g [h] e) (g [ff] e)) (λe g=>NV->eA (gx e 0) (R (.tuple #[(.string ⟨#[45]⟩),d]) g) (cf 207 [f,(.string ⟨#[32]⟩)] g λe f=>R (.tuple #[e,d]) f))) (xA .eql a (.string ⟨#[115,97,104,108,113,118,105,115,116]⟩) λa=>eA a (cf 208 [b] c λa d=>YA a 0 λe=>YA a 1 λa=>zI .i64 a (iv 0) λf=>eA f (R (.tuple #[es,a]) d) (cf 209 [e] d λd e=>R (.tuple #[d,a]) e)) (cf 210 [b] c λa b=>YA a 0 λc=>YA a 1 λa=>PA (Value.cells (.agg #[ff,sn])) 138 b λb d=>sD prog d 2 b c λc=>HA c 2 b λb=>cf 211 [b,a] c λa b=>YA a 0 λc=>YA a 1 λa=>R (.tuple #[c,a]) b)))))))))))
def TS:=xB 9 (Value.cells es) 1 0 [] w λd e=>cf 48 [c] e λe f=>xB 9 (Value.cells es) 1 1 [(0,e)] f λe f=>zB #[sn,sn] #[(0,1),(1,1)] [(0,d),(1,e)] λd=>PA (Value.cells (.agg #[sn,sn])) 123 f λe f=>sD prog f 2 e d λd=>xA .eql a (.string ⟨#[109,105,100,100,108,101]⟩) λf=>eA f (cf 212 [b,c] d λf g=>YA f 0 λh=>YA f 1 λf=>cf 106 [h,f] g λf g=>YA f 0 λh=>YA f 1 λf=>R (.tuple #[h,f]) g) (xA .eql a (.string ⟨#[109,111,100,97,108]⟩) λf=>eA f (HA d 2 e λf=>cf 213 [b,f] d λf g=>YA f 0 λh=>YA f 1 λf=>cf 106 [h,f] g λf g=>YA f 0 λh=>YA f 1 λf=>R (.tuple #[h,f]) g) (xA .eql a (.string ⟨#[119,111,114,108,100,115]⟩) λf=>eA f (HA d 2 e λf=>cf 214 [b,f] d λf g=>YA f 0 λh=>YA f 1 λf=>PA (Value.cells (.agg #[(iv 0),sn,sn])) 130 g λg i=>sD prog i 3 g h λh=>FA 0 g λg=>FA 0 g λg=>kA h g λg=>cf 199 [g,f] h λf g=>YA f 0 λh=>YA f 1 λf=>R (.tuple #[h,f]) g) (xA .eql a (.string ⟨#[114,97,110,107]⟩) λa=>eA a (HA d 2 e λa=>cf 215 [b,a] d λa e=>YA a 0 λf=>YA a 1 λa=>cf 199 [f,a] e λa e=>YA a 0 λf=>YA a 1 λa=>R (.tuple #[f,a]) e) (sm b (iv 0) λa=>KB .u8 a (.int .u8 112) λa=>QF .i64 a λa=>cf 216 [c,a] d λa b=>YA a 0 λc=>YA a 1 λa=>cf 201 [c,a] b λa b=>YA a 0 λc=>YA a 1 λa=>R (.tuple #[c,a]) b))))
def O0:=jn (λb=>lA a λc=>hH .i64 c (iv 40) λc=>eA c (cf 217 [a] w λa c=>b [a] c) (b [ff] w)) (λa b=>NV->R (gx a 0) b)
def nC:=lA a λd=>lp (λe f g=>NV->lB .i64 (gx f 0) (gx f 1) λh=>eA h (oA .i64 (gx f 0) (gx f 1) λh=>QF .u64 h λh=>qU uM .u64 h (.int .u64 1) λh=>QF .i64 h λh=>wA 3 a h λi=>HA g 3 i λi=>TB prog c [i,b] g λi j=>lB .i64 i (iv 0) λi=>eA i (oA .i64 h (iv 1) λi=>e [i,(gx f 1)] j) (e [(gx f 0),h] j)) (jn (λe=>lB .i64 (gx f 0) d λh=>eA h (wA 3 a (gx f 0) λa=>HA g 3 a λa=>TB prog c [a,b] g λa b=>BB .i64 a (iv 0) λa=>e [(gx f 0),a] b) (e [(gx f 0),ff] g)) (λa b=>NV->R (.tuple #[(gx a 0),(gx a 1)]) b))) [(iv 0),d] w
def eS:=PA (Value.cells a) 86 w λa c=>FA 0 a λa=>kA c a λa=>cf 112 [a,b] c λa b=>R a b
def sO:=cf 218 [a,b] w λa b=>R a b
def lC:=lA a λc=>lp (λd e f=>NV->lB .i64 (gx e 0) c λc=>eA c (wA 1 a (gx e 0) λa=>kA f a λa=>TB prog b [a] f λa b=>eA a (R (gx e 0) b) (oA .i64 (gx e 0) (iv 1) λa=>d [a] b)) (R (iv (-1)) f)) [(iv 0)] w
end
section
variable{a b c d:Value}{w:World}{R:RT}
theorem J1(h:lO a w R):nA prog 3 #[a] w R:=cD (h:=(nn lf (nn lf (nn lf (nn lf (nn lf (nn (nn (.reg [] (some [52])) lf) (nn lf (nn lf (nn (nn (.reg [] (some [71])) lf) (nn lf (nn lf (nn lf (nn lf (nn lf (nn lf (nn (nn (.reg [] (some [107])) lf) (nn lf (nn (nn (.reg [] (some [124])) lf) (nn (nn lf (.node (some [22]) (nn lf (nn (nn lf (nn (.reg [] (some [149])) lf)) lf)) lf)) lf)))))))))))))))))))) Tryz.func3 h
theorem ql(h:ra a w R):nA prog 4 #[a] w R:=cD (h:=lf) Tryz.func4 h
theorem oM(h:xG a w R):nA prog 5 #[a] w R:=cD (h:=(nn lf (nn lf (nn lf (nn lf (nn (nn lf (.node (some [6]) lf lf)) lf)))))) Tryz.func5 h
theorem PP(h:UH a b w R):nA prog 6 #[a,b] w R:=cD (h:=lf) Tryz.func6 h
theorem bQ(h:fI a b w R):nA prog 7 #[a,b] w R:=cD (h:=lf) Tryz.func7 h
theorem FX(h:aM a b w R):nA prog 8 #[a,b] w R:=cD (h:=(nn lf (nn lf (nn (nn lf (.node (some [5]) lf lf)) lf)))) Tryz.func8 h
theorem pX(h:LL a w R):nA prog 9 #[a] w R:=cD (h:=lf) Tryz.func9 h
theorem IX(h:dM a w R):nA prog 10 #[a] w R:=cD (h:=lf) Tryz.func10 h
theorem L1(h:nO a b w R):nA prog 11 #[a,b] w R:=cD (h:=(nn lf (nn lf (nn (nn lf (.node (some [5]) lf lf)) lf)))) Tryz.func11 h
theorem Vi(h:W6 a b w R):nA prog 12 #[a,b] w R:=cD (h:=(nn lf (nn lf (nn (nn lf (.node (some [6]) lf lf)) lf)))) Tryz.func12 h
theorem K1(h:mO a b w R):nA prog 13 #[a,b] w R:=cD (h:=(nn lf (nn lf (nn lf (nn lf (nn (nn lf (.node (some [5]) lf lf)) lf)))))) Tryz.func13 h
theorem dZ(h:FM a b w R):nA prog 14 #[a,b] w R:=cD (h:=(nn lf (nn lf (nn lf (nn lf (nn lf (nn lf (nn (nn (.reg [4] none) lf) lf)))))))) Tryz.func14 h
theorem tZ(h:YM a b w R):nA prog 15 #[a,b] w R:=cD (h:=lf) Tryz.func15 h
theorem Wi(h:Y6 a w R):nA prog 16 #[a] w R:=cD (h:=lf) Tryz.func16 h
theorem Lg(h:J0 a b c w R):nA prog 17 #[a,b,c] w R:=cD (h:=(nn lf (nn lf (nn lf (nn lf (nn (nn lf (.node (some [10,34]) lf lf)) lf)))))) Tryz.func17 h
theorem X7(h:pS a b w R):nA prog 18 #[a,b] w R:=cD (h:=(nn lf (nn lf (nn (nn lf (.node (some [5]) lf lf)) lf)))) Tryz.func18 h
theorem Ba(h:sU a w R):nA prog 19 #[a] w R:=cD (h:=lf) Tryz.func19 h
theorem Ta(h:JU a w R):nA prog 20 #[a] w R:=cD (h:=(nn lf (nn lf (nn (nn lf (.node (some [4]) (nn (nn (.reg [] (some [19])) lf) lf) lf)) lf)))) Tryz.func20 h
theorem Ob(h:rV a w R):nA prog 21 #[a] w R:=cD (h:=(nn lf (nn lf (nn (nn lf (.node (some [3,5]) (nn lf (nn (nn lf (nn (nn lf (nn (nn lf (.node (some [6]) lf lf)) (.regE [6] none))) lf)) lf)) lf)) lf)))) Tryz.func21 h
theorem MV(h:NK a b w R):nA prog 22 #[a,b] w R:=cD (h:=(nn lf (nn lf (nn (nn lf (nn lf (.node (some [5]) lf (nn lf (.node (some [5]) (.regE [8] none) (nn lf (.node (some [5]) lf (nn lf (.node (some [5]) lf lf))))))))) lf)))) Tryz.func22 h
theorem Wa(h:MU a b w R):nA prog 23 #[a,b] w R:=cD (h:=(nn lf (nn lf (nn lf (nn lf (nn (nn lf (.node (some [5]) lf lf)) lf)))))) Tryz.func23 h
theorem L7(h:YR a w R):nA prog 24 #[a] w R:=cD (h:=(nn lf (nn (nn lf (.node (some [7]) (nn lf (nn lf (nn (nn lf (nn (.reg [2,7,13] (some [42])) lf)) lf))) lf)) lf))) Tryz.func24 h
theorem LT(h:EJ a w R):nA prog 25 #[a] w R:=cD (h:=lf) Tryz.func25 h
theorem D4(h:sP a b w R):nA prog 26 #[a,b] w R:=cD (h:=(nn lf (nn lf (nn lf (nn (nn lf (.node (some [6,14]) lf lf)) lf))))) Tryz.func26 h
theorem LV(h:gN a b w R):nA prog 27 #[a,b] w R:=cD (h:=lf) Tryz.func27 h
theorem Mb(h:pV a w R):nA prog 28 #[a] w R:=cD (h:=(nn lf (nn lf (nn lf (nn (nn lf (.node (some [5,6]) lf lf)) lf))))) Tryz.func28 h
theorem dQ(h:XJ a b w R):nA prog 29 #[a,b] w R:=cD (h:=(nn lf (nn lf (nn lf (nn (nn lf (.node (some [8,9]) lf lf)) lf))))) Tryz.func29 h
theorem D1(h:fO a w R):nA prog 30 #[a] w R:=cD (h:=lf) Tryz.func30 h
theorem Be(h:PY a w R):nA prog 31 #[a] w R:=cD (h:=(nn lf (nn lf (nn lf (nn (nn lf (.node (some [4,5,6,7]) (nn lf (nn (nn lf (nn lf (nn (.node (some [8]) (nn (nn (.reg [] (some [32])) lf) lf) lf) lf))) lf)) lf)) lf))))) Tryz.func31 h
theorem Ae(h:OY a w R):nA prog 32 #[a] w R:=cD (h:=(nn lf (nn lf (nn (nn lf (.node (some [3,4]) lf lf)) lf)))) Tryz.func32 h
theorem Oa(h:FU a w R):nA prog 33 #[a] w R:=cD (h:=(nn lf (nn lf (nn lf (nn lf (nn (nn lf (nn (nn lf (.node (some [19]) lf (nn lf (.node (some [19]) lf (nn lf (.node (some [19]) lf (nn lf (.node (some [19]) lf (nn lf (.node (some [19]) lf (nn lf (.node (some [19]) lf (nn lf (.node (some [19]) lf (nn lf (.node (some [19]) lf (nn lf (.node (some [19]) lf (nn lf (.node (some [19]) lf (nn lf (.node (some [19]) lf lf)))))))))))))))))))))) (.node (some [6,7]) lf (nn lf (.node (some [7]) lf (nn (nn lf (.node (some [34]) lf (nn lf (.node (some [34]) lf (nn lf (.node (some [34]) lf (nn lf (.node (some [34]) lf lf)))))))) lf)))))) (nn lf (nn (nn lf (.node (some [8]) (nn lf (.regE [] none)) lf)) (nn lf (nn (nn lf (nn lf (.node (some [9]) lf (nn lf (.node (some [9]) lf (.reg [] (some [9]))))))) (nn lf (nn (.regE [10] (some [3])) lf)))))))))))) Tryz.func33 h
theorem vH(h:UE a b w R):nA prog 34 #[a,b] w R:=cD (h:=(nn lf (nn lf (nn lf (nn (nn lf (nn lf (.node (some [7,8]) lf (nn lf (.node (some [7,8]) lf (nn lf (.node (some [7,8]) lf (nn lf (.node (some [7,8]) lf (nn lf (.node (some [7,8]) lf (nn lf (.node (some [7,8]) lf (nn lf (.node (some [7,8]) lf (nn lf (.node (some [7,8]) lf (nn lf (.node (some [7,8]) lf lf))))))))))))))))))) lf))))) Tryz.func34 h
theorem VO(h:qH a b w R):nA prog 35 #[a,b] w R:=cD (h:=(nn lf (nn lf (nn lf (nn (nn lf (nn lf (nn lf (nn lf (nn lf (nn lf (nn lf (nn lf (nn lf (nn lf (nn (nn (.reg [6,9] none) lf) lf))))))))))) lf))))) Tryz.func35 h
theorem P8(h:VS a w R):nA prog 36 #[a] w R:=cD (h:=(nn lf (nn lf (nn lf (nn (nn (.reg [] (some [23])) lf) (nn (nn lf (.node (some [5]) (nn lf (nn (nn lf (nn (nn lf (nn lf (.node (some [7]) lf (nn lf (.node (some [7]) lf (nn lf (.node (some [7]) lf (.reg [] (some [7]))))))))) lf)) lf)) lf)) lf)))))) Tryz.func36 h
theorem Y4(h:MP a b w R):nA prog 37 #[a,b] w R:=cD (h:=(nn lf (nn lf (nn lf (nn (nn lf (nn (nn lf (nn (nn (.reg [] (some [38])) (nn lf (nn (.reg [] (some [45])) lf))) lf)) lf)) (nn lf (nn lf (nn (.reg [7] none) lf)))))))) Tryz.func37 h
theorem uZ(h:ZM a w R):nA prog 38 #[a] w R:=cD (h:=lf) Tryz.func38 h
theorem Vd(h:sY a b w R):nA prog 39 #[a,b] w R:=cD (h:=lf) Tryz.func39 h
theorem aE(h:DC a b w R):nA prog 40 #[a,b] w R:=cD (h:=lf) Tryz.func40 h
theorem Da(h:uU a w R):nA prog 41 #[a] w R:=cD (h:=lf) Tryz.func41 h
theorem Ea(h:vU a w R):nA prog 42 #[a] w R:=cD (h:=lf) Tryz.func42 h
theorem tX(h:PL a w R):nA prog 43 #[a] w R:=cD (h:=(nn lf (nn lf (nn lf (nn lf (nn (.reg [] (some [2])) lf)))))) Tryz.func43 h
theorem RI(h:ME a b w R):nA prog 44 #[a,b] w R:=cD (h:=lf) Tryz.func44 h
theorem Ya(h:OU a b c d w R):nA prog 45 #[a,b,c,d] w R:=cD (h:=(nn lf (nn (nn (.reg [] (some [17])) lf) (nn (nn (.reg [] (some [31])) lf) lf)))) Tryz.func45 h
theorem Za(h:PU a w R):nA prog 46 #[a] w R:=cD (h:=(nn lf (nn lf (nn (.reg [] (some [2,3])) lf)))) Tryz.func46 h
theorem P1(h:qO a w R):nA prog 47 #[a] w R:=cD (h:=lf) Tryz.func47 h
theorem rb(h:UU a w R):nA prog 48 #[a] w R:=cD (h:=lf) Tryz.func48 h
theorem we(h:KY a w R):nA prog 49 #[a] w R:=cD (h:=lf) Tryz.func49 h
theorem R4(h:GP a b w R):nA prog 50 #[a,b] w R:=cD (h:=lf) Tryz.func50 h
theorem Qd(h:oY a w R):nA prog 51 #[a] w R:=cD (h:=(nn lf (nn (.reg [] (some [2])) lf))) Tryz.func51 h
theorem Ud(h:rY a w R):nA prog 52 #[a] w R:=cD (h:=(nn lf (nn lf (nn (.reg [] (some [2])) lf)))) Tryz.func52 h
theorem CV(h:OM a b c w R):nA prog 53 #[a,b,c] w R:=cD (h:=(nn lf (nn (.reg [] (some [6])) lf))) Tryz.func53 h
theorem kZ(h:NM a b w R):nA prog 54 #[a,b] w R:=cD (h:=lf) Tryz.func54 h
theorem Ja(h:AU a b w R):nA prog 55 #[a,b] w R:=cD (h:=lf) Tryz.func55 h
theorem N7(h:bS a b w R):nA prog 56 #[a,b] w R:=cD (h:=lf) Tryz.func56 h
theorem r1(h:ZN a w R):nA prog 57 #[a] w R:=cD (h:=lf) Tryz.func57 h
theorem M8(h:SS a w R):nA prog 58 #[a] w R:=cD (h:=(nn lf (nn lf (nn (nn lf (.node (some [3]) (nn lf (nn (nn (nn lf (nn (.reg [] (some [50])) lf)) (nn (.reg [] (some [66])) lf)) lf)) lf)) lf)))) Tryz.func58 h
theorem Kb(h:mV a w R):nA prog 59 #[a] w R:=cD (h:=(nn lf (nn (nn lf (.node (some [3]) (nn lf (nn (nn (.reg [] (some [19])) lf) lf)) lf)) (nn (.reg [] (some [2])) lf)))) Tryz.func59 h
theorem ob(h:SU a w R):nA prog 60 #[a] w R:=cD (h:=(nn lf (nn lf (nn lf (nn (nn (.reg [] (some [23])) lf) lf))))) Tryz.func60 h
theorem Lb(h:oV a b w R):nA prog 61 #[a,b] w R:=cD (h:=(nn lf (nn lf (nn (nn lf (.node (some [5,6]) lf lf)) lf)))) Tryz.func61 h
theorem L8(h:RS a b w R):nA prog 62 #[a,b] w R:=cD (h:=(nn lf (nn lf (nn (.node (some [6]) (nn (nn (.reg [] (some [19])) lf) lf) lf) (nn (.reg [] (some [4,5])) lf))))) Tryz.func62 h
theorem HV(h:dN a w R):nA prog 63 #[a] w R:=cD (h:=lf) Tryz.func63 h
theorem U7(h:lS a b w R):nA prog 64 #[a,b] w R:=cD (h:=(nn lf (nn lf (.node (some [0]) (nn lf (nn lf (nn lf (nn lf (nn (nn lf (.node (some [10]) lf lf)) lf))))) lf)))) Tryz.func64 h
theorem zX(h:UL a b w R):nA prog 65 #[a,b] w R:=cD (h:=lf) Tryz.func65 h
theorem nl(h:pa a b w R):nA prog 66 #[a,b] w R:=cD (h:=lf) Tryz.func66 h
theorem Q8(h:WS a w R):nA prog 67 #[a] w R:=cD (h:=(nn lf (nn (.reg [] (some [2])) lf))) Tryz.func67 h
theorem S4(h:HP a b w R):nA prog 68 #[a,b] w R:=cD (h:=(nn lf (nn lf (nn (.node (some [5]) (nn (nn (.reg [] (some [18])) lf) lf) lf) (nn (nn (.reg [] (some [32])) lf) lf))))) Tryz.func68 h
theorem V8(h:bT a b w R):nA prog 69 #[a,b] w R:=cD (h:=lf) Tryz.func69 h
theorem MT(h:FJ a w R):nA prog 70 #[a] w R:=cD (h:=(nn lf (nn (nn lf (.node (some [6]) lf lf)) lf))) Tryz.func70 h
theorem UP(h:YH a w R):nA prog 71 #[a] w R:=cD (h:=(nn lf (nn (.reg [] (some [2])) lf))) Tryz.func71 h
theorem PK(h:IG a w R):nA prog 72 #[a] w R:=cD (h:=lf) Tryz.func72 h
theorem N4(h:CP a w R):nA prog 73 #[a] w R:=cD (h:=lf) Tryz.func73 h
theorem Ui(h:V6 a w R):nA prog 74 #[a] w R:=cD (h:=lf) Tryz.func74 h
theorem Ga(h:xU a w R):nA prog 75 #[a] w R:=cD (h:=lf) Tryz.func75 h
theorem TT(h:LJ a w R):nA prog 76 #[a] w R:=cD (h:=lf) Tryz.func76 h
theorem H4(h:yP a w R):nA prog 77 #[a] w R:=cD (h:=(nn lf (nn lf (nn (nn lf (.node (some [3,10]) lf lf)) lf)))) Tryz.func77 h
theorem ol(h:qa a b w R):nA prog 78 #[a,b] w R:=cD (h:=lf) Tryz.func78 h
theorem eZ(h:GM a w R):nA prog 79 #[a] w R:=cD (h:=lf) Tryz.func79 h
theorem kX(h:GL a w R):nA prog 85 #[a] w R:=cD (h:=lf) Tryz.func85 h
theorem fZ(h:HM a b w R):nA prog 89 #[a,b] w R:=cD (h:=(nn lf (nn (nn lf (nn lf (nn lf (nn lf (nn (.reg [] (some [15])) lf))))) (nn lf (nn (nn (.reg [] (some [39])) (nn (nn lf (nn (nn lf (.node (some [6]) lf lf)) lf)) lf)) (nn (nn (.reg [] (some [56])) lf) lf)))))) Tryz.func89 h
theorem HT(h:AJ a b w R):nA prog 90 #[a,b] w R:=cD (h:=lf) Tryz.func90 h
theorem J7(h:WR a w R):nA prog 91 #[a] w R:=cD (h:=lf) Tryz.func91 h
theorem Qa(h:HU a b w R):nA prog 92 #[a,b] w R:=cD (h:=lf) Tryz.func92 h
theorem Q4(h:FP a b w R):nA prog 97 #[a,b] w R:=cD (h:=(nn lf (nn lf (nn (nn lf (nn lf (nn (.reg [] (some [14])) (nn lf (nn lf (nn lf (nn lf (.node (some []) lf lf)))))))) (nn (nn lf (.node (some [6,36]) lf lf)) lf))))) Tryz.func97 h
theorem Ca(h:tU a w R):nA prog 98 #[a] w R:=cD (h:=lf) Tryz.func98 h
theorem T8(h:ZS a b w R):nA prog 100 #[a,b] w R:=cD (h:=lf) Tryz.func100 h
theorem b8(h:tS a b w R):nA prog 101 #[a,b] w R:=cD (h:=(nn lf (nn lf (nn lf (nn (nn lf (.node (some [5,6,7]) lf lf)) lf))))) Tryz.func101 h
theorem S8(h:YS a w R):nA prog 102 #[a] w R:=cD (h:=(nn lf (nn (nn lf (nn (nn lf (.node (some [4]) lf (nn lf (.node (some [4]) lf (nn lf (.node (some [4]) lf (nn lf (.node (some [4]) lf (nn lf (.node (some [4]) lf (nn lf (.node (some [4]) lf (nn lf (.node (some [4]) lf (nn lf (.node (some [4]) lf (nn lf (.node (some [4]) lf (nn lf (.node (some [4]) lf (nn lf (.node (some [4]) lf lf)))))))))))))))))))))) (nn lf (nn lf (nn lf (nn (nn lf (.node (some [19]) lf (nn lf (.node (some [19]) lf lf)))) lf)))))) lf))) Tryz.func102 h
theorem Tg(h:R0 a w R):nA prog 103 #[a] w R:=cD (h:=(nn lf (nn (.reg [] (some [2])) lf))) Tryz.func103 h
theorem Z4(h:NP a w R):nA prog 104 #[a] w R:=cD (h:=(nn lf (nn (nn lf (.node (some [3]) lf lf)) lf))) Tryz.func104 h
theorem Nb(h:qV a b w R):nA prog 106 #[a,b] w R:=cD (h:=lf) Tryz.func106 h
theorem O8(h:US a b w R):nA prog 107 #[a,b] w R:=cD (h:=(nn lf (nn lf (nn (nn lf (nn lf (nn lf (nn lf (nn lf (nn lf (nn lf (nn lf (nn lf (nn lf (nn lf (nn lf (nn lf (nn lf (nn lf (nn lf (nn lf (nn lf (nn lf (nn lf (nn (nn lf (nn (nn (.reg [] (some [136])) lf) lf)) lf))))))))))))))))))))) lf)))) Tryz.func107 h
theorem N8(h:TS a b c w R):nA prog 108 #[a,b,c] w R:=cD (h:=lf) Tryz.func108 h
theorem Qg(h:O0 a w R):nA prog 109 #[a] w R:=cD (h:=(nn lf (nn (.reg [] (some [2])) lf))) Tryz.func109 h
theorem ZD(h:nC a b c w R):nA prog 110 #[a,b,c] w R:=cD (h:=(nn lf (nn lf (nn lf (nn (.node (some [9,10]) lf lf) (nn (.reg [] (some [6,7])) lf)))))) Tryz.func110 h
theorem Q7(h:eS a b w R):nA prog 111 #[a,b] w R:=cD (h:=lf) Tryz.func111 h
theorem R1(h:sO a b w R):nA prog 112 #[a,b] w R:=cD (h:=lf) Tryz.func112 h
theorem QC(h:lC a b w R):nA prog 113 #[a,b] w R:=cD (h:=(nn lf (nn (nn lf (.node (some [8]) lf lf)) lf))) Tryz.func113 h
end
def GJ(_:Value)(w:World)(R:Value->World->Prop):Prop:=
 R (.string ⟨#[112]⟩) w
theorem NT(h:GJ v w t):nA prog 114 #[v] w t:=cD (h:=.leaf) Tryz.func114 h
section
variable(a b c:Value)(w:World)(R:RT)
def TL:=cf 219 [a] w λb c=>cf 220 [a,(.int .u8 62)] c λc d=>eA c (cf 115 [a] d λa c=>cf 221 [(iv 4),b,a] c λa c=>R a c) (R b d)
def GF:=lA a λc=>lp (λd e f=>NV->lB .i64 (gx e 0) c λc=>eA c (wA 1 a (gx e 0) λa=>kA f a λa=>xA .eql b a λa=>eA a (R (gx e 0) f) (oA .i64 (gx e 0) (iv 1) λa=>d [a] f)) (R (iv (-1)) f)) [(iv 0)] w
def vS:=zB #[(iv 0),(iv 0)] #[(0,1),(1,1)] [(0,(iv 1))] λa=>xB 59 (Value.cells (.agg #[(iv 0),(iv 0)])) 2 1 [(0,a)] w λa b=>R a b
def IY:=zB #[(iv 0),(iv 0)] #[(0,1),(1,1)] [(0,a)] λa=>xB 59 (Value.cells (.agg #[(iv 0),(iv 0)])) 2 1 [(0,a)] w λa c=>nD prog (Builtin.append_ #[27,27] 27 #[a,b]) c λa b=>R a b
def HY:=cf 117 [] w λb c=>cf 120 [(iv 4),a,b] c λa b=>R a b
def RU:=zB #[(iv 0),(iv 0)] #[(0,1),(1,1)] [(0,a)] λa=>xB 59 (Value.cells (.agg #[(iv 0),(iv 0)])) 2 1 [(0,a)] w λa d=>nD prog (Builtin.append_ #[27,27] 27 #[a,b]) d λa b=>nD prog (Builtin.append_ #[27,27] 27 #[a,c]) b λa b=>R a b
def cM:=rD a λb=>lB .i64 (iv 200) b λb=>eA b (R (.tuple #[sn,(iv 0),(iv 3)]) w) (cf 60 [a] w λa b=>YA a 0 λc=>YA a 1 λa=>hH .i64 (iv 0) a λd=>eA d (R (.tuple #[sn,a,(iv 6)]) b) (lA c λa=>lB .i64 (iv 40) a λa=>eA a (R (.tuple #[sn,(iv 0),(iv 3)]) b) (R (.tuple #[c,(iv 0),(iv 0)]) b)))
end
section
variable{a b c:Value}{w:World}{R:RT}
theorem yX(h:TL a w R):nA prog 115 #[a] w R:=cD (h:=lf) Tryz.func115 h
theorem RK(h:GF a b w R):nA prog 116 #[a,b] w R:=cD (h:=(nn lf (nn (nn lf (.node (some [8]) lf lf)) lf))) Tryz.func116 h
theorem f8(h:vS w R):nA prog 117 #[] w R:=cD (h:=lf) Tryz.func117 h
theorem ue(h:IY a b w R):nA prog 118 #[a,b] w R:=cD (h:=lf) Tryz.func118 h
theorem te(h:HY a w R):nA prog 119 #[a] w R:=cD (h:=lf) Tryz.func119 h
theorem jb(h:RU a b c w R):nA prog 120 #[a,b,c] w R:=cD (h:=lf) Tryz.func120 h
theorem HX(h:cM a w R):nA prog 121 #[a] w R:=cD (h:=lf) Tryz.func121 h
end
set_option maxRecDepth 100000
section
variable(a b c d:Value)(w:World)(R:RT)
def zS:=wA 2 a (iv 0) λc=>FA 0 c λc=>kA w c λc=>BB .i64 c (iv 0) λd=>jn (λe=>eA d (wA 2 a (iv 0) λd=>FA 1 d λd=>kA w d λd=>wA 2 a (iv 0) λf=>FA 1 f λf=>kA w f λf=>oA .i64 f (iv 1) λf=>yM (.string ⟨#[112,113,114,115,116,117]⟩) (some d) (some f) λd=> ∀f,bA w f->e [(iv 3),d] f) (BB .i64 c (iv 1) λd=>jn (λf=>eA d (f [(iv 3),(.string ⟨#[70]⟩)] w) (BB .i64 c (iv 5) λd=>jn (λg=>eA d (qP 2 a (some (iv 1)) none λd=>cf 122 [d,(iv 3)] w λd h=>xA .add (.string ⟨#[91,93]⟩) d λd=>g [(iv 3),d] h) (BB .i64 c (iv 6) λd=>jn (λh=>eA d (qP 2 a (some (iv 1)) none λd=>cf 122 [d,(iv 3)] w λd i=>xA .add (.string ⟨#[60,62]⟩) d λd=>h [(iv 3),d] i) (BB .i64 c (iv 2) λd=>jn (λi=>eA d (cf 222 [a] w λd j=>cf 122 [d,(iv 2)] j λd j=>xA .add d (.string ⟨#[38]⟩) λd=>cf 223 [a] j λj k=>cf 122 [j,(iv 3)] k λj k=>xA .add d j λd=>i [(iv 2),d] k) (BB .i64 c (iv 3) λd=>jn (λj=>eA d (cf 222 [a] w λd k=>cf 122 [d,(iv 1)] k λd k=>xA .add d (.string ⟨#[124]⟩) λd=>cf 223 [a] k λk l=>cf 122 [k,(iv 2)] l λk l=>xA .add d k λd=>j [(iv 1),d] l) (BB .i64 c (iv 4) λc=>jn (λd=>eA c (cf 225 [] w λc k=>cf 224 [a,c] k λc k=>jn (λl=>eA c (l [(iv 3),(.string ⟨#[84]⟩)] k) (cf 223 [a] k λc k=>wA 2 c (iv 0) λc=>FA 0 c λc=>kA k c λc=>BB .i64 c (iv 1) λc=>jn (λm=>eA c (cf 222 [a] k λc n=>cf 122 [c,(iv 3)] n λc n=>xA .add (.string ⟨#[126]⟩) c λc=>m [(iv 3),c] n) (cf 222 [a] k λc k=>cf 122 [c,(iv 1)] k λc k=>xA .add c (.string ⟨#[62]⟩) λc=>cf 223 [a] k λa k=>cf 122 [a,(iv 0)] k λa k=>xA .add c a λa=>m [(iv 0),a] k)) (λa c=>NV->l [(gx a 0),(gx a 1)] c))) (λa c=>NV->d [(gx a 0),(gx a 1)] c)) (d [(iv 3),es] w)) (λa c=>NV->j [(gx a 0),(gx a 1)] c))) (λa c=>NV->i [(gx a 0),(gx a 1)] c))) (λa c=>NV->h [(gx a 0),(gx a 1)] c))) (λa c=>NV->g [(gx a 0),(gx a 1)] c))) (λa c=>NV->f [(gx a 0),(gx a 1)] c))) (λa c=>NV->e [(gx a 0),(gx a 1)] c))) (λa c=>NV->lB .i64 (gx a 0) b λb=>eA b (xA .add (.string ⟨#[40]⟩) (gx a 1) λb=>xA .add b (.string ⟨#[41]⟩) λb=>R b c) (R (gx a 1) c))
def OI:=cf 135 [a,b] w λa b=>hH .i64 (iv 0) a λa=>R a b
def dS:=jn (λb=>lB .i32 a (.int .i32 97) λc=>eA c (b [tt] w) (lB .i32 (.int .i32 122) a λa=>b [a] w)) (λa b=>NV->R (gx a 0) b)
def tY:=cf 226 [a] w λa b=>YA a 0 λc=>YA a 1 λ_=>YA a 2 λ_=>R c b
def xP:=kA w b λb=>cf 39 [b,a] w λa b=>YA a 0 λ_=>YA a 1 λa=>VA a λa=>R a b
def TN:=kA w b λc=>cf 39 [c,a] w λa c=>YA a 0 λd=>YA a 1 λ_=>kA c b λa=>wA 3 a d λa=>FA 1 a λa=>kA c a λa=>R a c
def yY:=zB #[es,(iv 0),ff] #[(0,1),(1,1),(2,1)] [(0,a)] λa=>PA (Value.cells a) 152 w λa b=>cf 115 [a] b λa b=>R a b
def PB:=cf 227 [a,b] w λa b=>hH .i64 (iv 0) a λa=>R a b
def RL:=lA a λa=>lB .i64 (iv 40) a λa=>R a w
def wS:=cf 228 [a] w λb c=>cf 229 [a,(.int .u8 62)] c λc d=>eA c (cf 131 [a] d λa c=>cf 120 [(iv 4),b,a] c λa c=>R a c) (R b d)
def UO:=cf 230 [a,b] w λa b=>YA a 0 λc=>YA a 1 λd=>YA a 2 λa=>R (.tuple #[c,d,a]) b
def KF:=cf 231 [a] w λ_ c=>IA a λd=>FA 1 d λd=>kA c d λd=>nD prog (Builtin.append_ #[22,9] 22 #[d,b]) c λc d=>IA a λa=>FA 1 a λa=>KC d a c λa=>rD b λb=>R (.tuple #[b,.nilIface]) a
def tH:=IA a λb=>FA 1 b λb=>kA w b λb=>IA a λa=>FA 1 a λa=>kA w a λa=>lA a λa=> ∀c,bA w c->nD prog (Builtin.unsafeSliceData_ #[22] 246 #[b]) c λb d=>bA c d/\ ∀c,bA d c->nD prog (Builtin.unsafeString_ #[246,3] 9 #[b,a]) c λa b=> ∀c,bA b c->R a c
def gM:=cf 232 [a,b,tt] w λa b=>R a b
def gO:=jn (λb=>lB .i32 a (.int .i32 97) λc=>eA c (b [tt] w) (lB .i32 (.int .i32 122) a λa=>b [a] w)) (λa b=>NV->R (gx a 0) b)
def lF:=lA a λb=>lp (λc d e=>NV->lB .i64 (gx d 1) b λb=>eA b (wA 1 a (gx d 1) λb=>kA e b λb=>lA b λb=>oA .i64 (gx d 0) b λb=>lB .i64 b (iv 0) λf=>eA f (False) (oA .i64 (gx d 1) (iv 1) λf=>c [b,f] e)) (cf 233 [sn,(gx d 0)] e λb c=>lA a λd=>lp (λe f g=>NV->lB .i64 (gx f 1) d λd=>eA d (wA 1 a (gx f 1) λa=>kA g a λa=>nD prog (Builtin.append_ #[31,31] 31 #[(gx f 0),a]) g λa d=>oA .i64 (gx f 1) (iv 1) λh=>e [a,h] d) (R (gx f 0) g)) [b,(iv 0)] c)) [(iv 0),(iv 0)] w
def iG:=lA a λb=>QF .u64 b λc=>cf 235 [c] w λc d=>cf 234 [a,(iv 0),b,c] d λ_ a=>R (.tuple #[]) a
def bF:=lA a λb=>lB .i64 b (iv 2) λb=>eA b (R a w) (lp (λb c d=>NV->lA a λe=>lB .i64 (gx c 0) e λe=>eA e (wA 1 a (gx c 0) λe=>kA d e λe=>KB .i64 (gx c 0) (iv 1) λf=>wA 1 a f λf=>kA d f λf=>xA .eql e f λe=> ∀f,bA d f->eA e (qP 1 a (some (gx c 0)) none λe=>lp (λg h i=>NV->lA e λj=>lB .i64 (gx h 1) j λj=>eA j (wA 1 e (gx h 1) λj=>kA i j λj=>KB .i64 (gx h 1) (iv 1) λk=>wA 1 e k λk=>kA i k λk=>xA .neq j k λj=> ∀k,bA i k->eA j (wA 1 e (gx h 1) λe=>kA k e λe=>wA 1 a (gx h 0) λj=>KC k j e λe=>oA .i64 (gx h 0) (iv 1) λj=>oA .i64 (gx h 1) (iv 1) λl=>g [j,l] e) (oA .i64 (gx h 1) (iv 1) λe=>g [(gx h 0),e] k)) (qP 1 a (some (gx h 0)) none λe=>nD prog (Builtin.clear_ #[31] 0 #[e]) i λ_ e=>qP 1 a none (some (gx h 0)) λg=>R g e)) [(gx c 0),(iv 1)] f) (oA .i64 (gx c 0) (iv 1) λc=>b [c] f)) (R a d)) [(iv 1)] w)
def kN:=BB .i64 d (iv 0) λe=>eA e (R sn w) (xA .eql b es λe=>eA e (cf 236 [a,d] w λe f=>R e f) (lB .i64 d (iv 0) λe=>jn (λf=>eA e (cf 237 [a,b] w λe g=>oA .i64 e (iv 1) λe=>f [e] g) (f [d] w)) (λd e=>NV->rD a λf=>oA .i64 f (iv 1) λf=>mw (gx d 0) f λd=>tu 9 (Value.cells es) 1 16 d d e λe f=>KB .i64 d (iv 1) λd=>lp (λg h i=>NV->lB .i64 (gx h 1) d λd=>eA d (cf 100 [(gx h 0),b] i λd j=>lB .i64 d (iv 0) λk=>eA k (wA 1 e (gx h 1) λk=>KC j k (gx h 0) λk=>oA .i64 (gx h 1) (iv 1) λl=>qP 1 e none (some l) λl=>R l k) (oA .i64 d c λc=>yM (gx h 0) none (some c) λc=>wA 1 e (gx h 1) λk=>KC j k c λc=>rD b λb=>oA .i64 d b λb=>yM (gx h 0) (some b) none λb=>oA .i64 (gx h 1) (iv 1) λd=>g [b,d] c)) (wA 1 e (gx h 1) λb=>KC i b (gx h 0) λb=>oA .i64 (gx h 1) (iv 1) λc=>qP 1 e none (some c) λc=>R c b)) [a,(iv 0)] f)))
def jN:=cf 100 [a,b] w λa b=>hH .i64 (iv 0) a λa=>R a b
def gF:=xB 9 (Value.cells es) 1 8 [(0,(.string ⟨#[75]⟩)),(1,(.string ⟨#[68]⟩)),(2,(.string ⟨#[84]⟩)),(3,(.string ⟨#[75,52]⟩)),(4,(.string ⟨#[83,52]⟩)),(5,(.string ⟨#[71,76]⟩)),(6,(.string ⟨#[83,53]⟩)),(7,(.string ⟨#[75,66]⟩))] w λa b=>R a b
def xY:=cf 238 [a] w λc d=>lB .i64 c b λb=>eA b (cf 143 [a,(iv 0)] d λb c=>xA .add (.string ⟨#[40]⟩) b λb=>xA .add b (.string ⟨#[41]⟩) λb=>R b c) (wA 2 a (iv 0) λb=>FA 0 b λb=>kA d b λb=>BB .i64 b (iv 0) λc=>eA c (wA 2 a (iv 0) λc=>FA 1 c λc=>kA d c λc=>wA 2 a (iv 0) λe=>FA 1 e λe=>kA d e λe=>oA .i64 e (iv 1) λe=>yM (.string ⟨#[112,113,114,115,116,117]⟩) (some c) (some e) λc=> ∀e,bA d e->R c e) (BB .i64 b (iv 1) λc=>eA c (R (.string ⟨#[70]⟩) d) (BB .i64 b (iv 2) λc=>eA c (cf 239 [a] d λc e=>cf 143 [c,(iv 2)] e λc e=>xA .add c (.string ⟨#[38]⟩) λc=>cf 240 [a] e λe f=>cf 143 [e,(iv 3)] f λe f=>xA .add c e λc=>R c f) (BB .i64 b (iv 3) λc=>eA c (cf 239 [a] d λc e=>cf 143 [c,(iv 1)] e λc e=>xA .add c (.string ⟨#[124]⟩) λc=>cf 240 [a] e λe f=>cf 143 [e,(iv 2)] f λe f=>xA .add c e λc=>R c f) (BB .i64 b (iv 5) λc=>eA c (cf 239 [a] d λc e=>cf 143 [c,(iv 3)] e λc e=>xA .add (.string ⟨#[91,93]⟩) c λc=>R c e) (BB .i64 b (iv 6) λb=>eA b (cf 239 [a] d λb c=>cf 143 [b,(iv 3)] c λb c=>xA .add (.string ⟨#[60,62]⟩) b λb=>R b c) (cf 241 [a] d λb c=>VA b λb=>eA b (cf 239 [a] c λb d=>cf 143 [b,(iv 1)] d λb d=>xA .add b (.string ⟨#[62]⟩) λb=>cf 240 [a] d λd e=>cf 143 [d,(iv 0)] e λd e=>xA .add b d λb=>R b e) (cf 239 [a] c λb c=>cf 242 [b] c λb c=>eA b (R (.string ⟨#[84]⟩) c) (cf 239 [a] c λa b=>cf 143 [a,(iv 3)] b λa b=>xA .add (.string ⟨#[126]⟩) a λa=>R a b)))))))))
def fM:=cf 243 [a,b] w λa b=>R a b
def XM:=lA a λb=>lp (λc d e=>NV->lB .i64 (gx d 1) b λb=>eA b (wA 1 a (gx d 1) λa=>kA e a λa=>cf 244 [a] e λa b=>OB g4 .i64 (gx d 0) a λa=>oA .i64 (gx d 1) (iv 1) λf=>c [a,f] b) (cf 245 [(gx d 0)] e λa b=>R a b)) [(iv 0),(iv 0)] w
def oS:=zB #[(iv 0),(iv 0)] #[(0,1),(1,1)] [(0,(iv 0)),(1,a)] λa=>xB 59 (Value.cells (.agg #[(iv 0),(iv 0)])) 2 1 [(0,a)] w λa b=>R a b
def BP:=cf 179 [a] w λb c=>VA b λb=>eA b (R (iv 1) c) (cf 129 [a,(.func (.func 246) #[] #[])] c λa b=>eA a (R (iv 5) b) (R (iv 0) b))
def GE:=wA 2 a (iv 0) λb=>FA 0 b λb=>kA w b λb=>BB .i64 b (iv 0) λc=>eA c (wA 2 a (iv 0) λc=>FA 1 c λc=>kA w c λc=>cf 247 [c] w λc d=>R c d) (BB .i64 b (iv 1) λc=>eA c (R (.int .u64 0) w) (BB .i64 b (iv 2) λc=>eA c (cf 239 [a] w λc d=>cf 148 [c] d λc d=>cf 240 [a] d λd e=>cf 148 [d] e λd e=>OB bK .u64 c d λc=>R c e) (BB .i64 b (iv 3) λb=>eA b (cf 239 [a] w λb c=>cf 148 [b] c λb c=>cf 240 [a] c λc d=>cf 148 [c] d λc d=>OB g4 .u64 b c λb=>R b d) (cf 239 [a] w λb c=>cf 148 [b] c λb c=>xR prog c (Op.unary .xor b) λb=>cf 240 [a] c λa c=>cf 148 [a] c λa c=>OB g4 .u64 b a λa=>R a c))))
def rH:=cf 147 [a] w λb c=>zI .i64 b (iv 0) λd=>eA d (R b c) (cf 260 [a] c λa b=>lA a λa=>lB .i64 (iv 20) a λa=>eA a (R (iv 3) b) (R (iv 0) b))
def kS:=cf 157 [] w λc d=>cf 261 [c,a,b] d λa b=>R a b
def bO:=nD prog (Instr.makeMap 272 none) w λa b=>zB #[(.map none)] #[(0,1)] [(0,a)] λa=>PA (Value.cells a) 274 b λa b=>R a b
def wP:=jn (λb=>lA a λc=>hH .i64 (iv 1) c λc=>eA c (lA a λc=>hH .i64 c (iv 40) λc=>eA c (cf 273 [a,(.func (.func 274) #[] #[])] w λc d=>VA c λc=>eA c (cf 276 [a,(iv 0)] d λc e=>lA a λa=>BB .i64 c a λa=>b [a] e) (b [ff] d)) (b [ff] w)) (b [ff] w)) (λa b=>NV->R (gx a 0) b)
def QM:=cf 273 [a,(.func (.func 277) #[] #[])] w λa b=>VA a λa=>R a b
def HL:=PA (Value.cells a) 211 w λa c=>HA c 2 a λd=>xB 27 (Value.cells sn) 1 1 [(0,b)] c λc e=>cf 280 [d,c] e λc d=>zI .i64 c (iv 0) λe=>eA e (R (.tuple #[ff,c]) d) (HA d 2 a λa=>cf 281 [a,b] d λa b=>R (.tuple #[a,(iv 0)]) b)
def EP:=PA (Value.cells (.agg #[(iv 0),sn])) 211 w λc d=>xA .eql a (.string ⟨#[76,67]⟩) λe=>eA e (oA .i64 b (iv 1) λe=>cf 282 [e] d λe f=>sD prog f 2 c e λe=>HA e 2 c λf=>R f e) (xA .eql a (.string ⟨#[83,109,76]⟩) λe=>eA e (cf 282 [(iv 2)] d λe f=>sD prog f 2 c e λe=>HA e 2 c λf=>R f e) (xA .eql a (.string ⟨#[67,76]⟩) λa=>eA a (cf 282 [(iv 1)] d λa e=>sD prog e 2 c a λa=>HA a 2 c λe=>R e a) (qU cK .i64 (iv 1) b λa=>cf 283 [a] d λa b=>sD prog b 2 c a λa=>HA a 2 c λb=>R b a)))
def mS:=lA a λa=>R a w
def KJ:=cf 72 [a] w λa c=>VA a λa=>eA a (R (iv 2) c) (cf 284 [b,(.func (.func 285) #[] #[])] c λa c=>eA a (R (iv 1) c) (cf 284 [b,(.func (.func 287) #[] #[])] c λa b=>eA a (R (iv 3) b) (R (iv 0) b)))
def IJ:=PA (Value.cells b) 123 w λb c=>HA c 2 b λb=>cf 172 [a,b] c λa b=>cf 173 [a] b λa b=>lB .i64 a (iv 0) λa=>R a b
def pE:=cf 113 [a,b] w λc d=>BB .i64 c (iv (-1)) λe=>eA e (R a d) (oA .i64 c (iv 1) λe=>lp (λf g h=>NV->lA a λi=>lB .i64 (gx g 1) i λi=>eA i (wA 1 a (gx g 1) λi=>kA h i λi=>TB prog b [i] h λb j=>VA b λb=>eA b (wA 1 a (gx g 0) λb=>KC j b i λb=>oA .i64 (gx g 0) (iv 1) λi=>oA .i64 (gx g 1) (iv 1) λk=>f [i,k] b) (oA .i64 (gx g 1) (iv 1) λb=>f [(gx g 0),b] j)) (qP 1 a (some (gx g 0)) none λb=>nD prog (Builtin.clear_ #[31] 0 #[b]) h λ_ b=>qP 1 a none (some (gx g 0)) λa=>R a b)) [c,e] d)
def QN:=HA w 2 b λb=>cf 168 [a,b] w λa b=>VA a λa=>R a b
def jS:=PA (Value.cells b) 123 w λb c=>HA c 2 b λd=>cf 288 [d] c λc d=>zB #[es,sn,sn,(iv 0),sn,sn] #[(0,1),(1,1),(2,1),(3,1),(4,1),(5,1)] [(0,a),(1,c)] λa=>PA (Value.cells a) 304 d λa c=>PA (Value.cells (.pointer none)) 217 c λc d=>KC d c a λa=> ∃d:Nat->Prop,kA a c λe=>(∀f,Ch d a f->kA f c λf=>f=e)/\kA a c λf=>(∀g,Ch d a g->kA g c λg=>g=f)/\IA f λf=>FA 1 f λf=>kA a f λg=>(∀h,Ch d a h->kA h f λd=>d=g)/\lA g λd=>qU cK .i64 (iv 1) d λd=>IA e λe=>FA 3 e λe=> ∀f,bA a f->KC f e d λa=> ∀d,bA a d->kA d c λa=>IA a λa=>FA 1 a λa=>kA d a λa=>lA a λe=>lp (λf g h=>NV->lB .i64 (gx g 0) e λe=>eA e (wA 2 a (gx g 0) λa=>HA h 2 a λa=>PA (Value.cells (.agg #[es,sn])) 306 h λe i=>sD prog i 2 e a λa=>FA 1 e λi=>kA a i λi=>wA 2 i (iv 0) λi=>FA 0 i λi=>kA a i λi=>cf 278 [i] a λa i=>eA a (FA 1 e λa=>kA i a λa=>wA 2 a (iv 0) λa=>FA 0 a λa=>kA i a λa=>zB #[(iv 0),(iv 0),sn] #[(0,1),(1,1),(2,1)] [(0,(gx g 0)),(1,a)] λa=>PA (Value.cells (.agg #[(iv 0),(iv 0),sn])) 308 i λj k=>sD prog k 3 j a λa=>kA a c λk=>IA k λk=>FA 3 k λk=>kA a k λk=>lp (λl m n=>NV->lB .i64 (gx m 0) k λk=>eA k (∃k:Nat->Prop,FA 2 j λo=>kA n o λp=>(∀q,Ch k n q->kA q o λo=>o=p)/\kA n c λo=>(∀q,Ch k n q->kA q c λq=>q=o)/\FA 1 e λe=>kA n e λq=>(∀r,Ch k n r->kA r e λe=>e=q)/\ ∀e,bA n e->cf 239 [q] e λq r=>Ch k e r/\XF prog (Ch k) (.func (.func 290) #[] #[]) [o,q,(gx m 0)] r λe=> ∀o,bA r o->xB 4 (Value.cells ff) 1 1 [(0,e)] o λe q=>Ch k o q/\ ∀k,bA q k->nD prog (Builtin.append_ #[302,302] 302 #[p,e]) k λe k=>FA 2 j λo=> ∀p,bA k p->KC p o e λe=> ∀k,bA e k->oA .i64 (gx m 0) (iv 1) λe=>l [e] k) (∃e:Nat->Prop,kA n c λk=>(∀l,Ch e n l->kA l c λl=>l=k)/\kA n c λl=>(∀m,Ch e n m->kA m c λm=>m=l)/\IA l λl=>FA 2 l λl=>kA n l λm=>(∀o,Ch e n o->kA o l λl=>l=m)/\HA n 3 j λl=>(∀o,Ch e n o->HA o 3 j λj=>j=l)/\ ∀j,bA n j->xB 308 (Value.cells (.agg #[(iv 0),(iv 0),sn])) 3 1 [(0,l)] j λl n=>Ch e j n/\ ∀j,bA n j->nD prog (Builtin.append_ #[301,301] 301 #[m,l]) j λl m=>Ch e j m/\IA k λe=>FA 2 e λe=> ∀j,bA m j->KC j e l λe=> ∀j,bA e j->oA .i64 (gx g 0) (iv 1) λe=>f [e] j)) [(iv 0)] a) (oA .i64 (gx g 0) (iv 1) λa=>f [a] i)) (FA 0 b λa=>kA h a λa=>FA 1 b λb=>kA h b λb=> ∀e,bA h e->cf 291 [a] e λa f=>bA e f/\ ∀e,bA f e->cf 291 [b] e λb e=> ∀f,bA e f->kA f c λe=>IA e λe=>FA 3 e λe=>kA f e λe=>lp (λg h i=>NV->lB .i64 (gx h 0) e λe=>eA e (PA (Value.cells (iv 0)) 2 i λe j=>KC j e (gx h 0) λj=>jn (λk=> ∃l:Nat->Prop,kA j c λm=>(∀n,Ch l j n->kA n c λn=>n=m)/\kA j c λn=>(∀o,Ch l j o->kA o c λo=>o=n)/\IA n λn=>FA 4 n λn=>kA j n λo=>(∀p,Ch l j p->kA p n λn=>n=o)/\XF prog (Ch l) (.func (.func 129) #[] #[]) [a,(.func (.func 292) #[] #[c,e])] j λa=>VA a λa=>eA a (XF prog (Ch l) (.func (.func 129) #[] #[]) [b,(.func (.func 293) #[] #[c,e])] j λa=>VA a λa=> ∀b,bA j b->xB 4 (Value.cells ff) 1 1 [(0,a)] b λa n=>Ch l b n/\ ∀b,bA n b->nD prog (Builtin.append_ #[302,302] 302 #[o,a]) b λa n=>Ch l b n/\IA m λb=>FA 4 b λb=> ∀p,bA n p->KC p b a λa=> ∀b,bA a b->k [] b) (∀a,bA j a->xB 4 (Value.cells ff) 1 1 [(0,ff)] a λb j=>Ch l a j/\ ∀a,bA j a->nD prog (Builtin.append_ #[302,302] 302 #[o,b]) a λb j=>Ch l a j/\IA m λa=>FA 4 a λa=> ∀l,bA j l->KC l a b λa=> ∀b,bA a b->k [] b)) (λ_ a=>NV-> ∃b:Nat->Prop,kA a c λj=>(∀k,Ch b a k->kA k c λk=>k=j)/\kA a c λk=>(∀l,Ch b a l->kA l c λl=>l=k)/\IA k λk=>FA 5 k λk=>kA a k λl=>(∀m,Ch b a m->kA m k λk=>k=l)/\kA a c λk=>(∀m,Ch b a m->kA m c λm=>m=k)/\kA a e λm=>(∀n,Ch b a n->kA n e λe=>e=m)/\XF prog (Ch b) (.func (.func 294) #[] #[]) [k,m] a λe=> ∀k,bA a k->xB 4 (Value.cells ff) 1 1 [(0,e)] k λa e=>Ch b k e/\ ∀k,bA e k->nD prog (Builtin.append_ #[302,302] 302 #[l,a]) k λa e=>Ch b k e/\IA j λb=>FA 5 b λb=> ∀j,bA e j->KC j b a λa=> ∀b,bA a b->oA .i64 (gx h 0) (iv 1) λa=>g [a] b)) (kA i c λa=>cf 295 [a] i λ_ a=>kA a c λb=>R b a)) [(iv 0)] f)) [(iv 0)] d
def NJ:=IA a λb=>FA 3 b λb=>kA w b λb=>lp (λc d e=>NV->lB .i64 (gx d 0) b λb=>eA b (jn (λb=>IA a λf=>FA 5 f λf=>kA e f λf=>wA 1 f (gx d 0) λf=>kA e f λf=>eA f (IA a λa=>FA 4 a λa=>kA e a λa=>wA 1 a (gx d 0) λa=>kA e a λa=>b [a] e) (b [ff] e)) (λa b=>NV->eA (gx a 0) (R (gx d 0) b) (oA .i64 (gx d 0) (iv 1) λa=>c [a] b))) (R (iv (-1)) e)) [(iv 0)] w
def LM:=cf 129 [a,(.func (.func 308) #[] #[])] w λa b=>VA a λa=>R a b
def JJ:=cf 179 [a] w λb c=>VA b λb=>eA b (R (iv 1) c) (cf 145 [a] c λa b=>lA a λa=>lB .i64 (iv 0) a λa=>eA a (R (iv 5) b) (R (iv 0) b))
def GU:=PA (Value.cells (.agg #[ff,sn])) 138 w λb c=>qU uM .i64 a (.int .u64 60) λd=>OB bK .i64 d (iv 1) λd=>BB .i64 d (iv 0) λd=>zB #[ff,sn] #[(0,1),(1,1)] [(0,d)] λd=>PA (Value.cells (.agg #[ff,sn])) 138 c λc e=>sD prog e 2 c d λd=>FA 0 c λe=>kA d e λe=>VA e λe=>jn (λf=>eA e (OB zG .i64 (iv 2305843009213693951) a λe=>f [e] d) (f [a] d)) (λa d=>NV->lp (λe f g=>NV->lB .i64 (gx f 0) (iv 61) λh=>eA h (qU uM .i64 (gx a 0) (gx f 0) λa=>OB bK .i64 a (iv 1) λa=>BB .i64 a (iv 1) λa=>eA a (FA 1 c λa=>kA g a λa=>xB 2 (Value.cells (iv 0)) 1 1 [(0,(gx f 0))] g λh i=>nD prog (Builtin.append_ #[42,42] 42 #[a,h]) i λa h=>FA 1 c λi=>KC h i a λa=>oA .i64 (gx f 0) (iv 1) λh=>e [h] a) (oA .i64 (gx f 0) (iv 1) λa=>e [a] g)) (HA g 2 c λa=>sD prog g 2 b a λa=>HA a 2 b λb=>R b a)) [(iv 0)] d)
def nE:=wA 2 a (iv 0) λc=>FA 0 c λc=>kA w c λc=>BB .i64 c (iv 0) λd=>eA d (R b w) (BB .i64 c (iv 1) λd=>eA d (R (iv 0) w) (BB .i64 c (iv 5) λd=>eA d (cf 239 [a] w λd e=>cf 185 [d,b] e λd e=>cf 314 [d] e λd e=>R d e) (BB .i64 c (iv 6) λc=>eA c (cf 239 [a] w λc d=>cf 185 [c,b] d λc d=>OB zG .i64 (iv 2305843009213693951) c λc=>cf 314 [c] d λc d=>OB zG .i64 (iv 2305843009213693951) c λc=>R c d) (cf 239 [a] w λc d=>cf 185 [c,b] d λc d=>cf 240 [a] d λd e=>cf 185 [d,b] e λb d=>wA 2 a (iv 0) λa=>FA 0 a λa=>kA d a λa=>BB .i64 a (iv 2) λe=>eA e (OB bK .i64 c b λe=>R e d) (BB .i64 a (iv 3) λa=>eA a (OB g4 .i64 c b λa=>R a d) (OB zG .i64 (iv 2305843009213693951) c λa=>OB g4 .i64 a b λa=>R a d))))))
def QJ:=xB 9 (Value.cells es) 1 7 [(0,(.string ⟨#[75]⟩)),(1,(.string ⟨#[68]⟩)),(2,(.string ⟨#[84]⟩)),(3,(.string ⟨#[75,52]⟩)),(4,(.string ⟨#[83,52]⟩)),(5,(.string ⟨#[71,76]⟩)),(6,(.string ⟨#[83,53]⟩))] w λb c=>cf 329 [b,a] c λa b=>R a b
def gI:=cf 330 [] w λb c=>lA b λd=>KB .i64 d (iv 1) λd=>cf 331 [a,(iv 0),d] c λc d=>VA c λc=>eA c (R (.tuple #[es,(iv 2)]) d) (wA 1 b a λa=>kA d a λa=>R (.tuple #[a,(iv 0)]) d)
def eV:=PA (Value.cells b) 123 w λb c=>cf 103 [a] c λc d=>VA c λc=>eA c (R (.tuple #[(.pointer none),(iv 2)]) d) (HA d 2 b λc=>cf 332 [c] d λc d=>VA c λc=>eA c (R (.tuple #[(.pointer none),(iv 1)]) d) (HA d 2 b λc=>cf 333 [c] d λc d=>lA c λc=>lB .i64 (iv 8) c λc=>eA c (R (.tuple #[(.pointer none),(iv 3)]) d) (HA d 2 b λb=>cf 334 [a,b] d λa b=>R (.tuple #[a,(iv 0)]) b)))
def FSz:=PA (Value.cells b) 123 w λb c=>IA a λd=>FA 5 d λd=>kA c d λd=>lA d λd=>tu 4 (Value.cells ff) 1 1 d d c λc d=>lp (λe f g=>NV->lA c λh=>lB .i64 (gx f 0) h λh=>eA h (wA 1 c (gx f 0) λh=>KC g h tt λh=>oA .i64 (gx f 0) (iv 1) λf=>e [f] h) (lp (λe f h=>NV->FA 0 b λi=>kA h i λi=>lA i λi=>lB .i64 (gx f 0) i λi=>eA i (FA 0 b λi=>kA h i λi=>wA 1 i (gx f 0) λi=>kA h i λi=>cf 335 [a,i] h λi j=>lp (λk l m=>NV->lA i λn=>lB .i64 (gx l 0) n λn=>eA n (jn (λn=>wA 1 c (gx l 0) λo=>kA m o λo=>eA o (wA 1 i (gx l 0) λi=>kA m i λi=>wA 1 c (gx l 0) λo=>KC m o i λi=>n [] i) (wA 1 c (gx l 0) λi=>KC m i ff λi=>n [] i)) (λ_ i=>NV->oA .i64 (gx l 0) (iv 1) λl=>k [l] i)) (oA .i64 (gx f 0) (iv 1) λf=>e [f] m)) [(iv 0)] j) (lp (λe f i=>NV->FA 1 b λj=>kA i j λj=>lA j λj=>lB .i64 (gx f 0) j λj=>eA j (FA 1 b λb=>kA i b λb=>wA 1 b (gx f 0) λb=>kA i b λb=>cf 335 [a,b] i λb j=>lp (λk l m=>NV->lA b λn=>lB .i64 (gx l 0) n λn=>eA n (jn (λn=>wA 1 c (gx l 0) λo=>kA m o λo=>eA o (wA 1 b (gx l 0) λb=>kA m b λb=>VA b λb=>wA 1 c (gx l 0) λo=>KC m o b λb=>n [] b) (wA 1 c (gx l 0) λb=>KC m b ff λb=>n [] b)) (λ_ b=>NV->oA .i64 (gx l 0) (iv 1) λl=>k [l] b)) (oA .i64 (gx f 0) (iv 1) λb=>e [b] m)) [(iv 0)] j) (lp (λb e f=>NV->lA c λj=>lB .i64 (gx e 0) j λj=>eA j (wA 1 c (gx e 0) λc=>kA f c λc=>eA c (IA a λa=>FA 5 a λa=>kA f a λa=>wA 1 a (gx e 0) λa=>kA f a λa=>R a f) (oA .i64 (gx e 0) (iv 1) λa=>b [a] f)) (R (iv (-1)) f)) [(iv 0)] i)) [(iv 0)] h)) [(iv 0)] g)) [(iv 0)] d
def DY:=lB .i64 a (iv 10) λb=>eA b (oA .i64 (iv 48) a λb=>QF .u8 b λb=>xB 5 (Value.cells (.int .u8 0)) 1 1 [(0,b)] w λb c=>xR prog c (convert 22 9 b) λb=>R b c) (O6 .i64 a (iv 10) λb=>cq 195 [b] w λb=>Fi .i64 a (iv 10) λa=>oA .i64 (iv 48) a λa=>QF .u8 a λa=> ∀c,bA w c->xB 5 (Value.cells (.int .u8 0)) 1 1 [(0,a)] c λa d=>bA c d/\xR prog d (convert 22 9 a) λa=>xA .add b a λa=> ∀b,bA d b->R a b)
def rO:=cf 336 [a] w λa b=>lp (λc d e=>NV->lA a λf=>lB .i64 (gx d 1) f λf=>eA f (wA 1 a (gx d 1) λa=>kA e a λa=>cf 49 [a] e λa f=>cf 48 [a] f λa f=>xA .add (gx d 0) a λa=>oA .i64 (gx d 1) (iv 1) λg=>c [a,g] f) (xA .eql (gx d 0) es λa=>eA a (R (.string ⟨#[45]⟩) e) (R (gx d 0) e))) [es,(iv 0)] b
def aN:=xB 27 (Value.cells sn) 1 1 [(0,a)] w λb c=>cf 337 [b] c λb c=>zI .i64 b (iv 0) λd=>eA d (R (.tuple #[ff,b]) c) (cf 339 [a] c λa b=>cf 338 [a,ff] b λa b=>lB .i64 a (iv 0) λa=>R (.tuple #[a,(iv 0)]) b)
def bM:=xB 27 (Value.cells sn) 1 1 [(0,a)] w λb c=>cf 342 [b] c λb c=>zI .i64 b (iv 0) λd=>eA d (R (.tuple #[ff,b]) c) (xB 27 (Value.cells sn) 1 0 [] c λb c=>cf 343 [b,a] c λa b=>R (.tuple #[a,(iv 0)]) b)
def rS:=PA (Value.cells a) 123 w λa b=>xB 9 (Value.cells es) 1 8 [(0,(.string ⟨#[75]⟩)),(1,(.string ⟨#[68]⟩)),(2,(.string ⟨#[84]⟩)),(3,(.string ⟨#[75,52]⟩)),(4,(.string ⟨#[83,52]⟩)),(5,(.string ⟨#[71,76]⟩)),(6,(.string ⟨#[83,53]⟩)),(7,(.string ⟨#[75,66]⟩))] b λb c=>xB 9 (Value.cells es) 1 0 [] c λc d=>lp (λe f g=>NV->lA b λh=>lB .i64 (gx f 1) h λh=>eA h (wA 1 b (gx f 1) λh=>kA g h λh=>HA g 2 a λi=> ∀j,bA g j->cf 193 [h,i] j λh i=>YA h 0 λj=>YA h 1 λh=> ∀k,bA i k->zI .i64 h (iv 0) λi=>eA i (R (.tuple #[sn,h]) k) (HA k 2 a λa=>cf 194 [j,a] k λa h=>lB .i64 a (iv 0) λa=>eA a (wA 1 b (gx f 1) λa=>kA h a λa=>xB 9 (Value.cells es) 1 1 [(0,a)] h λa b=>nD prog (Builtin.append_ #[31,31] 31 #[(gx f 0),a]) b λa b=>oA .i64 (gx f 1) (iv 1) λi=>e [a,i] b) (oA .i64 (gx f 1) (iv 1) λa=>e [(gx f 0),a] h))) (R (.tuple #[(gx f 0),(iv 0)]) g)) [c,(iv 0)] d
def bV:=lp (λc d e=>NV->lA a λf=>lB .i64 (gx d 1) f λf=>eA f (lB .i64 (iv 0) (gx d 1) λf=>jn (λg=>eA f (xA .add (gx d 0) b λb=>g [b] e) (g [(gx d 0)] e)) (λb f=>NV->wA 1 a (gx d 1) λa=>kA f a λa=>xA .add (gx b 0) a λa=>oA .i64 (gx d 1) (iv 1) λb=>c [a,b] f)) (R (gx d 0) e)) [es,(iv 0)] w
def IU:=PA (Value.cells (.agg #[ff,sn])) 138 w λb c=>xB 27 (Value.cells sn) 1 1 [(0,a)] c λc d=>cf 356 [c] d λc d=>zI .i64 c (iv 0) λe=>eA e (zB #[ff,sn] #[(0,1),(1,1)] [] λe=>sD prog d 2 b e λe=>HA e 2 b λf=>R (.tuple #[f,c]) e) (cf 358 [a] d λa c=>cf 357 [a] c λa c=>sD prog c 2 b a λa=>HA a 2 b λb=>R (.tuple #[b,(iv 0)]) a)
def XS:=PA (Value.cells a) 138 w λa c=>zI .i64 b (iv 0) λd=>eA d (R (.tuple #[es,b]) c) (FA 1 a λd=>kA c d λd=>lA d λd=>BB .i64 d (iv 0) λd=>eA d (FA 0 a λd=>kA c d λd=>eA d (R (.tuple #[(.string ⟨#[110,111,110,101]⟩),b]) c) (R (.tuple #[(.string ⟨#[97,108,108]⟩),b]) c)) (FA 0 a λd=>kA c d λd=>jn (λe=>eA d (e [(.string ⟨#[111,110,108,121,32]⟩)] c) (e [(.string ⟨#[98,117,116,32]⟩)] c)) (λc d=>NV->FA 1 a λa=>kA d a λa=>cf 359 [a] d λa d=>cf 207 [a,(.string ⟨#[32]⟩)] d λa d=>xA .add (gx c 0) a λa=>R (.tuple #[a,b]) d)))
def bN:=cf 109 [b] w λc d=>VA c λc=>eA c (R (.tuple #[ff,(iv 1)]) d) (cf 360 [a] d λc d=>VA c λc=>eA c (R (.tuple #[ff,(iv 4)]) d) (jn (λc=>cf 361 [b] d λd e=>VA d λd=>eA d (c [tt] e) (xA .eql a (.string ⟨#[66,68,51]⟩) λd=>eA d (c [tt] e) (xA .eql a (.string ⟨#[66,87,50]⟩) λd=>eA d (c [tt] e) (xA .eql a (.string ⟨#[66,87,51]⟩) λd=>c [d] e)))) (λc d=>NV->eA (gx c 0) (R (.tuple #[ff,(iv 5)]) d) (cf 336 [b] d λc d=>xB 27 (Value.cells sn) 1 0 [] d λd e=>jn (λf=>xA .eql a (.string ⟨#[73,110,116]⟩) λg=>eA g (f [tt] e) (xA .eql a (.string ⟨#[75,67]⟩) λg=>f [g] e)) (λe f=>NV->eA (gx e 0) (lA b λe=>lB .i64 (iv 20) e λe=>eA e (R (.tuple #[ff,(iv 3)]) f) (lp (λe g h=>NV->jn (λi=>lA c λj=>lB .i64 (gx g 1) j λj=>eA j (xA .eql a (.string ⟨#[75,67]⟩) λj=>i [j] h) (i [ff] h)) (λh i=>NV->eA (gx h 0) (wA 1 c (gx g 1) λh=>kA i h λh=>cf 49 [h] i λh j=>cf 119 [h] j λh j=>cf 119 [h] j λj k=>cf 120 [(iv 3),h,j] k λh j=>xB 27 (Value.cells sn) 1 1 [(0,h)] j λh j=>nD prog (Builtin.append_ #[54,54] 54 #[(gx g 0),h]) j λh j=>oA .i64 (gx g 1) (iv 1) λk=>e [h,k] j) (cf 343 [(gx g 0),b] i λe g=>R (.tuple #[e,(iv 0)]) g))) [d,(iv 0)] f)) (lA c λc=>jn (λd=>xA .eql a (.string ⟨#[66,68,50]⟩) λe=>eA e (lB .i64 (iv 2) c λe=>d [e] f) (d [ff] f)) (λd e=>NV->eA (gx d 0) (R (.tuple #[ff,(iv 3)]) e) (cf 362 [a,c] e λa d=>PA (Value.cells (.agg #[(iv 0),sn])) 211 d λd e=>sD prog e 2 d a λa=>HA a 2 d λe=>cf 364 [e] a λa e=>lA a λa=>cf 363 [a,c] e λa c=>lB .i64 (iv 4096) a λa=>eA a (R (.tuple #[ff,(iv 3)]) c) (HA c 2 d λa=>cf 365 [a,b] c λa b=>R (.tuple #[a,(iv 0)]) b)))))))))
def PJ:=PA (Value.cells b) 123 w λb c=>HA c 2 b λd=>cf 193 [a,d] c λa c=>YA a 0 λd=>YA a 1 λa=>zI .i64 a (iv 0) λe=>eA e (R (.tuple #[ff,a]) c) (HA c 2 b λa=>cf 194 [d,a] c λa b=>lB .i64 a (iv 0) λa=>R (.tuple #[a,(iv 0)]) b)
end
section
variable{a b c d:Value}{w:World}{R:RT}
theorem o8(h:zS a b w R):nA prog 122 #[a,b] w R:=cD (h:=(nn lf (nn lf (nn (nn lf (nn lf (.node (some [5,6]) lf (nn lf (.node (some [5,6]) lf (nn lf (.node (some [5,6]) lf (nn lf (.node (some [5,6]) lf (nn lf (.node (some [5,6]) lf (nn lf (.node (some [5,6]) lf (nn lf (.node (some [5,6]) (nn lf (.node (some [5,6]) lf (nn lf (.node (some [5,6]) lf lf)))) lf))))))))))))))) lf)))) Tryz.func122 h
theorem tR(h:OI a b w R):nA prog 123 #[a,b] w R:=cD (h:=lf) Tryz.func123 h
theorem P7(h:dS a w R):nA prog 124 #[a] w R:=cD (h:=(nn lf (nn (.reg [] (some [2])) lf))) Tryz.func124 h
theorem Wd(h:tY a w R):nA prog 125 #[a] w R:=cD (h:=lf) Tryz.func125 h
theorem G4(h:xP a b w R):nA prog 126 #[a,b] w R:=cD (h:=lf) Tryz.func126 h
theorem c1(h:TN a b w R):nA prog 127 #[a,b] w R:=cD (h:=lf) Tryz.func127 h
theorem ie(h:yY a w R):nA prog 128 #[a] w R:=cD (h:=lf) Tryz.func128 h
theorem MC(h:PB a b w R):nA prog 129 #[a,b] w R:=cD (h:=lf) Tryz.func129 h
theorem wX(h:RL a w R):nA prog 130 #[a] w R:=cD (h:=lf) Tryz.func130 h
theorem i8(h:wS a w R):nA prog 131 #[a] w R:=cD (h:=lf) Tryz.func131 h
theorem SY(h:UO a b w R):nA prog 132 #[a,b] w R:=cD (h:=lf) Tryz.func132 h
theorem UK(h:KF a b w R):nA prog 133 #[a,b] w R:=cD (h:=lf) Tryz.func133 h
theorem YO(h:tH a w R):nA prog 134 #[a] w R:=cD (h:=lf) Tryz.func134 h
theorem MX(h:gM a b w R):nA prog 135 #[a,b] w R:=cD (h:=lf) Tryz.func135 h
theorem E1(h:gO a w R):nA prog 136 #[a] w R:=cD (h:=(nn lf (nn (.reg [] (some [2])) lf))) Tryz.func136 h
theorem YJ(h:lF a w R):nA prog 137 #[a] w R:=cD (h:=(nn lf (nn lf (nn (nn lf (.node (some [3,11]) lf lf)) (nn lf (nn (nn lf (.node (some [6,27]) lf lf)) lf)))))) Tryz.func137 h
theorem sL(h:iG a w R):nA prog 138 #[a] w R:=cD (h:=lf) Tryz.func138 h
theorem uJ(h:bF a w R):nA prog 139 #[a] w R:=cD (h:=(nn lf (nn lf (nn (nn lf (.node (some [3]) (nn lf (nn (nn lf (nn (nn lf (nn (nn lf (.node (some [3,5]) lf lf)) lf)) lf)) lf)) lf)) lf)))) Tryz.func139 h
theorem zZ(h:kN a b c d w R):nA prog 140 #[a,b,c,d] w R:=cD (h:=(nn lf (nn lf (nn lf (nn (nn lf (.node (some [3]) lf lf)) (nn lf (nn lf (nn lf (nn lf (nn (.node (some [0,10]) lf lf) lf)))))))))) Tryz.func140 h
theorem yZ(h:jN a b w R):nA prog 141 #[a,b] w R:=cD (h:=lf) Tryz.func141 h
theorem iH(h:gF w R):nA prog 142 #[] w R:=cD (h:=lf) Tryz.func142 h
theorem Zd(h:xY a b w R):nA prog 143 #[a,b] w R:=cD (h:=lf) Tryz.func143 h
theorem KX(h:fM a b w R):nA prog 144 #[a,b] w R:=cD (h:=lf) Tryz.func144 h
theorem sZ(h:XM a w R):nA prog 145 #[a] w R:=cD (h:=(nn lf (nn lf (nn (nn lf (.node (some [3,8]) lf lf)) lf)))) Tryz.func145 h
theorem W7(h:oS a w R):nA prog 146 #[a] w R:=cD (h:=lf) Tryz.func146 h
theorem M4(h:BP a w R):nA prog 147 #[a] w R:=cD (h:=lf) Tryz.func147 h
theorem kG(h:GE a w R):nA prog 148 #[a] w R:=cD (h:=lf) Tryz.func148 h
theorem WO(h:rH a w R):nA prog 154 #[a] w R:=cD (h:=lf) Tryz.func154 h
theorem T7(h:kS a b w R):nA prog 155 #[a,b] w R:=cD (h:=lf) Tryz.func155 h
theorem z1(h:bO w R):nA prog 157 #[] w R:=cD (h:=lf) Tryz.func157 h
theorem F4(h:wP a w R):nA prog 161 #[a] w R:=cD (h:=(nn lf (nn (.reg [] (some [2])) lf))) Tryz.func161 h
theorem DV(h:QM a w R):nA prog 162 #[a] w R:=cD (h:=lf) Tryz.func162 h
theorem lX(h:HL a b w R):nA prog 164 #[a,b] w R:=cD (h:=lf) Tryz.func164 h
theorem P4(h:EP a b w R):nA prog 165 #[a,b] w R:=cD (h:=lf) Tryz.func165 h
theorem V7(h:mS a w R):nA prog 166 #[a] w R:=cD (h:=lf) Tryz.func166 h
theorem ST(h:KJ a b w R):nA prog 167 #[a,b] w R:=cD (h:=lf) Tryz.func167 h
theorem PT(h:IJ a b w R):nA prog 168 #[a,b] w R:=cD (h:=lf) Tryz.func168 h
theorem KH(h:pE a b w R):nA prog 169 #[a,b] w R:=cD (h:=(nn lf (nn lf (nn lf (nn (nn lf (.node (some [5,6]) lf lf)) lf))))) Tryz.func169 h
theorem X0(h:QN a b w R):nA prog 170 #[a,b] w R:=cD (h:=lf) Tryz.func170 h
theorem S7(h:jS a b w R):nA prog 172 #[a,b] w R:=cD (h:=(nn lf (nn lf (nn (.regE [] none) (nn (nn lf (.node (some [32]) (nn lf (nn lf (nn (nn lf (nn lf (nn (nn lf (nn (nn lf (.node (some [54]) (nn lf (nn lf (nn (nn lf (.regE [7] none)) lf))) lf)) (.regE [] none))) lf))) lf))) lf)) (nn lf (nn (nn lf (.node (some [90]) (nn lf (nn lf (nn (nn lf (nn (.regE [7,12] (some [])) (.regE [7] none))) lf))) lf)) lf))))))) Tryz.func172 h
theorem WT(h:NJ a w R):nA prog 173 #[a] w R:=cD (h:=(nn lf (nn (nn lf (.node (some [8]) (nn lf (nn lf (nn (nn lf (nn (.reg [] (some [26])) lf)) lf))) lf)) lf))) Tryz.func173 h
theorem iZ(h:LM a w R):nA prog 179 #[a] w R:=cD (h:=lf) Tryz.func179 h
theorem QT(h:JJ a w R):nA prog 183 #[a] w R:=cD (h:=lf) Tryz.func183 h
theorem Pa(h:GU a w R):nA prog 184 #[a] w R:=cD (h:=(nn lf (nn lf (nn (nn lf (.node (some [0]) lf lf)) (nn (nn lf (.node (some [15]) lf lf)) lf))))) Tryz.func184 h
theorem rF(h:nE a b w R):nA prog 185 #[a,b] w R:=cD (h:=lf) Tryz.func185 h
theorem ZT(h:QJ a w R):nA prog 191 #[a] w R:=cD (h:=lf) Tryz.func191 h
theorem cQ(h:gI a w R):nA prog 192 #[a] w R:=cD (h:=lf) Tryz.func192 h
theorem Db(h:eV a b w R):nA prog 193 #[a,b] w R:=cD (h:=lf) Tryz.func193 h
theorem A8(h:FSz a b w R):nA prog 194 #[a,b] w R:=cD (h:=(nn lf (nn lf (nn (nn lf (.node (some [6]) lf lf)) (nn (nn lf (.node (some [7]) (nn lf (nn (nn lf (nn lf (.node (some [9]) (nn lf (nn (.reg [] (some [])) lf)) lf))) lf)) lf)) (nn (nn lf (.node (some [10]) (nn lf (nn (nn lf (nn lf (.node (some [12]) (nn lf (nn (.reg [] (some [])) lf)) lf))) lf)) lf)) (nn (nn lf (.node (some [13]) lf lf)) lf))))))) Tryz.func194 h
theorem oe(h:DY a w R):nA prog 195 #[a] w R:=cD (h:=(nn lf (nn lf (nn (.reg [2] none) lf)))) Tryz.func195 h
theorem Q1(h:rO a w R):nA prog 196 #[a] w R:=cD (h:=(nn lf (nn lf (nn (nn lf (.node (some [3,5]) lf lf)) lf)))) Tryz.func196 h
theorem vZ(h:aN a w R):nA prog 197 #[a] w R:=cD (h:=lf) Tryz.func197 h
theorem GX(h:bM a w R):nA prog 202 #[a] w R:=cD (h:=lf) Tryz.func202 h
theorem Z7(h:rS a w R):nA prog 206 #[a] w R:=cD (h:=(nn lf (nn lf (nn (nn lf (.node (some [5,6]) lf lf)) lf)))) Tryz.func206 h
theorem Ab(h:bV a b w R):nA prog 207 #[a,b] w R:=cD (h:=(nn lf (nn lf (nn (nn lf (.node (some [5,6]) (nn lf (nn (nn (nn lf (.node (some [5]) lf lf)) lf) lf)) lf)) lf)))) Tryz.func207 h
theorem Sa(h:IU a w R):nA prog 210 #[a] w R:=cD (h:=lf) Tryz.func210 h
theorem R8(h:XS a b w R):nA prog 211 #[a,b] w R:=cD (h:=(nn lf (nn lf (nn lf (nn lf (nn (nn lf (.node (some [6]) lf lf)) lf)))))) Tryz.func211 h
theorem wZ(h:bN a b w R):nA prog 212 #[a,b] w R:=cD (h:=(nn lf (nn (nn lf (nn lf (nn lf (nn lf (nn (.reg [] (some [20])) lf))))) (nn lf (nn (nn (.reg [] (some [44])) (nn (nn lf (nn (nn lf (.node (some [7,8]) (nn (nn (.reg [] (some [55])) lf) lf) lf)) lf)) lf)) (nn lf (nn (nn (.reg [] (some [81])) lf) lf))))))) Tryz.func212 h
theorem YT(h:PJ a b w R):nA prog 213 #[a,b] w R:=cD (h:=lf) Tryz.func213 h
end
set_option maxRecDepth 100000
section
variable(a b c d:Value)(w:World)(R:RT)
def VU:=lp (λb c d=>NV->lA a λe=>lB .i64 (gx c 0) e λe=>eA e (jn (λe=>wA 2 a (gx c 0) λf=>FA 0 f λf=>kA d f λf=>cf 331 [f,(iv 0),(iv 6)] d λf g=>VA f λf=>eA f (e [tt] g) (wA 2 a (gx c 0) λf=>FA 1 f λf=>kA g f λf=>cf 331 [f,(iv 0),(iv 5)] g λf g=>VA f λf=>eA f (e [tt] g) (wA 2 a (gx c 0) λf=>FA 0 f λf=>kA g f λf=>zI .i64 f (iv 0) λf=>eA f (wA 2 a (gx c 0) λf=>FA 1 f λf=>kA g f λf=>zI .i64 f (iv 0) λf=>e [f] g) (e [ff] g)))) (λe f=>NV->eA (gx e 0) (R ff f) (oA .i64 (gx c 0) (iv 1) λc=>b [c] f))) (jn (λb=>lA a λc=>lB .i64 (iv 0) c λc=>eA c (cf 373 [a,(iv 0)] d λc e=>lA a λa=>BB .i64 c a λa=>b [a] e) (b [ff] d)) (λa b=>NV->R (gx a 0) b))) [(iv 0)] w
def DP:=cf 375 [a] w λb c=>lp (λd e f=>NV->cf 220 [a,(.int .u8 124)] f λf g=>eA f (cf 375 [a] g λa f=>cf 221 [(iv 3),(gx e 0),a] f λa f=>d [a] f) (R (gx e 0) g)) [b] c
def VM:=jn (λc=>IA a λd=>FA 2 d λd=>kA w d λd=>eA d (∀d,bA w d->c [tt] d) (IA a λd=>FA 1 d λd=>kA w d λd=>IA a λe=>FA 0 e λe=>kA w e λe=>rD e λe=>hH .i64 e d λd=>eA d (∀d,bA w d->c [tt] d) (IA a λd=>FA 0 d λd=>kA w d λd=>IA a λe=>FA 1 e λe=>kA w e λe=>sm d e λd=>zI .u8 d b λb=> ∀d,bA w d->c [b] d))) (λb c=>NV->eA (gx b 0) (R ff c) (IA a λb=>FA 1 b λb=>kA c b λb=>oA .i64 b (iv 1) λb=>IA a λa=>FA 1 a λa=>KC c a b λa=>R tt a))
def S6:=zB #[(iv 0),(iv 0)] #[(0,1),(1,1)] [(0,a),(1,(iv 0))] λa=>xB 59 (Value.cells (.agg #[(iv 0),(iv 0)])) 2 1 [(0,a)] w λa d=>xB 27 (Value.cells sn) 1 3 [(0,a),(1,b),(2,c)] d λa b=>cf 260 [a] b λa b=>R a b
def cN:=cf 373 [a,(iv 1)] w λb c=>qP 2 a (some (iv 1)) (some b) λa=>R a c
def mL:=cf 373 [a,(iv 1)] w λb c=>qP 2 a (some b) none λa=>R a c
def uS:=lA a λc=>lA b λd=>zI .i64 c d λc=>eA c (R ff w) (lp (λc d e=>NV->lA a λf=>lB .i64 (gx d 0) f λf=>eA f (wA 2 a (gx d 0) λa=>HA e 2 a λa=>wA 2 b (gx d 0) λb=>HA e 2 b λb=>xR prog e (do eqGuard .neq 59 (.tmp 20) (.tmp 24) a b;binOp .neq 59 a b) λa=> ∀b,bA e b->eA a (R ff b) (oA .i64 (gx d 0) (iv 1) λa=>c [a] b)) (R tt e)) [(iv 0)] w)
def WU:=cf 117 [] w λa b=>cf 119 [a] b λa b=>R a b
def IL:=rD a λb=>lB .i64 (iv 200) b λb=>eA b (R (.tuple #[sn,(iv 0),(iv 3)]) w) (zB #[es,(iv 0),ff] #[(0,1),(1,1),(2,1)] [(0,a)] λb=>PA (Value.cells b) 152 w λb c=>cf 115 [b] c λc d=>jn (λe=>IA b λf=>FA 2 f λf=>kA d f λf=>eA f (e [tt] d) (IA b λf=>FA 1 f λf=>kA d f λf=>rD a λa=>lB .i64 f a λa=>e [a] d)) (λa d=>NV->eA (gx a 0) (IA b λa=>FA 1 a λa=>kA d a λa=> ∀b,bA d b->R (.tuple #[sn,a,(iv 6)]) b) (lA c λa=>lB .i64 (iv 40) a λa=>eA a (R (.tuple #[sn,(iv 0),(iv 3)]) d) (R (.tuple #[c,(iv 0),(iv 0)]) d))))
def fC:=lA a λc=>lp (λd e f=>NV->lB .i64 (gx e 0) c λc=>eA c (wA 1 a (gx e 0) λa=>kA f a λa=>TB prog b [a] f λa b=>eA a (R (gx e 0) b) (oA .i64 (gx e 0) (iv 1) λa=>d [a] b)) (R (iv (-1)) f)) [(iv 0)] w
def P0:=cf 376 [a] w λb c=>lp (λd e f=>NV->cf 229 [a,(.int .u8 124)] f λf g=>eA f (cf 376 [a] g λa f=>cf 120 [(iv 3),(gx e 0),a] f λa f=>d [a] f) (R (gx e 0) g)) [b] c
def TU:=jn (λc=>IA a λd=>FA 2 d λd=>kA w d λd=>VA d λd=>eA d (IA a λd=>FA 1 d λd=>kA w d λd=>IA a λe=>FA 0 e λe=>kA w e λe=>rD e λe=>lB .i64 d e λd=>eA d (IA a λd=>FA 0 d λd=>kA w d λd=>IA a λe=>FA 1 e λe=>kA w e λe=>sm d e λd=>BB .u8 d b λb=> ∀d,bA w d->c [b] d) (∀b,bA w b->c [ff] b)) (∀b,bA w b->c [ff] b)) (λb c=>NV->eA (gx b 0) (IA a λb=>FA 1 b λb=>kA c b λb=>oA .i64 b (iv 1) λb=>IA a λa=>FA 1 a λa=>KC c a b λa=>R tt a) (R ff c))
def oE:=cf 190 [a,b] w λc d=>hH .i64 (iv 0) c λe=>eA e (yM a none (some c) λe=>rD b λb=>oA .i64 c b λb=>yM a (some b) none λb=> ∀c,bA d c->R (.tuple #[e,b,tt]) c) (R (.tuple #[a,es,ff]) d)
def hM:=nD prog (Instr.range 9 a) w λa d=>lp (λe _ f=>NV->nD prog (Instr.next a true 0) f λa f=>YA a 0 λg=>eA g (YA a 1 λg=>YA a 2 λa=>TB prog b [a] f λa b=>TE true a c λa=>eA a (R g b) (e [] b)) (R (iv (-1)) f)) [] d
def gG:=lB .i64 b (iv 0) λc=>jn (λd=>eA c (False) (d [] w)) (λ_ c=>NV->xR prog c (Builtin.cap_ #[31] 3 #[a]) λd=>lA a λe=>KB .i64 d e λd=>KB .i64 b d λb=>lB .i64 (iv 0) b λd=>eA d (xR prog c (Builtin.cap_ #[31] 3 #[a]) λd=>qP 1 a none (some d) λd=>nD prog (Builtin.append_ #[31,3] 31 #[d,b]) c λb d=>lA a λe=>qP 1 b none (some e) λb=>R b d) (R a c))
def nF:=lp (λe f g=>NV->KB .i64 (gx f 1) (gx f 0) λh=>hH .i64 h (iv 12) λi=>eA i (cf 378 [a,(gx f 0),(gx f 1)] g λ_ i=>R (.tuple #[]) i) (BB .i64 (gx f 2) (iv 0) λi=>eA i (cf 379 [a,(gx f 0),(gx f 1)] g λ_ i=>R (.tuple #[]) i) (VA (gx f 3) λi=>jn (λj=>eA i (cf 380 [a,(gx f 0),(gx f 1)] g λ_ i=>KB .i64 (gx f 2) (iv 1) λk=>j [k] i) (j [(gx f 2)] g)) (λg i=>NV->cf 381 [a,(gx f 0),(gx f 1)] i λi j=>YA i 0 λk=>YA i 1 λi=>BB .i64 i (iv 2) λl=>jn (λm=>eA l (cf 382 [a,(gx f 0),(gx f 1)] j λ_ l=>KB .i64 (gx f 1) (iv 1) λn=>KB .i64 k (gx f 0) λo=>KB .i64 n o λn=>m [n,(iv 1)] l) (m [k,i] j)) (λi j=>NV->jn (λk=>eA (gx f 3) (eA (gx f 4) (BB .i64 (gx i 1) (iv 1) λl=>k [l] j) (k [ff] j)) (k [ff] j)) (λj k=>NV->jn (λl=>eA (gx j 0) (cf 383 [a,(gx f 0),(gx f 1)] k λj m=>eA j (R (.tuple #[]) m) (l [] m)) (l [] k)) (λ_ j=>NV->jn (λk=>lB .i64 (iv 0) (gx f 0) λl=>eA l (KB .i64 (gx f 0) (iv 1) λl=>wA 1 a l λl=>kA j l λl=>wA 1 a (gx i 0) λm=>kA j m λm=>cq 384 [l,m] j λl=>VA l λl=> ∀m,bA j m->k [l] m) (∀l,bA j l->k [ff] l)) (λj k=>NV->eA (gx j 0) (cf 385 [a,(gx f 0),(gx f 1),(gx i 0)] k λj l=>e [j,(gx f 1),(gx g 0),(gx f 3),(gx f 4)] l) (cf 386 [a,(gx f 0),(gx f 1),(gx i 0)] k λi j=>YA i 0 λk=>YA i 1 λi=>KB .i64 k (gx f 0) λl=>KB .i64 (gx f 1) k λm=>O6 .i64 h (iv 8) λh=>lB .i64 l m λn=>eA n (hH .i64 h l λl=>cf 234 [a,(gx f 0),k,(gx g 0)] j λ_ n=>oA .i64 k (iv 1) λo=>e [o,(gx f 1),(gx g 0),l,i] n) (hH .i64 h m λh=>oA .i64 k (iv 1) λl=>cf 234 [a,l,(gx f 1),(gx g 0)] j λ_ a=>e [(gx f 0),k,(gx g 0),h,i] a)))))))))) [b,c,d,tt,tt] w
def qS:=cf 388 [a] w λa b=>R a b
def CU:=jn (λb=>wA 2 a (iv 0) λc=>FA 0 c λc=>kA w c λc=>BB .i64 c (iv 4) λc=>eA c (cf 241 [a] w λc d=>VA c λc=>b [c] d) (b [ff] w)) (λb c=>NV->eA (gx b 0) (R (iv 0) c) (wA 2 a (iv 0) λb=>FA 0 b λb=>kA c b λb=>BB .i64 b (iv 3) λb=>eA b (R (iv 1) c) (wA 2 a (iv 0) λa=>FA 0 a λa=>kA c a λa=>BB .i64 a (iv 2) λa=>eA a (R (iv 2) c) (R (iv 3) c))))
def K0:=cf 392 [a,(iv 1)] w λa b=>R a b
def wY:=cf 276 [a,(iv 1)] w λb c=>cf 392 [a,b] c λa b=>R a b
def WN:=jn (λb=>wA 2 a (iv 0) λc=>FA 0 c λc=>kA w c λc=>BB .i64 c (iv 4) λc=>eA c (cf 240 [a] w λa c=>cf 242 [a] c λa c=>b [a] c) (b [ff] w)) (λa b=>NV->R (gx a 0) b)
def cS:=wA 2 a (iv 0) λa=>FA 0 a λa=>kA w a λa=>BB .i64 a (iv 1) λa=>R a w
def YL:=lA a λb=>lp (λc d e=>NV->lB .i64 (gx d 1) b λb=>eA b (wA 2 a (gx d 1) λa=>HA e 2 a λa=>PA (Value.cells (.agg #[(iv 0),(iv 0)])) 59 e λb f=>sD prog f 2 b a λa=>FA 0 b λf=>kA a f λf=>BB .i64 f (iv 0) λf=>eA f (FA 1 b λb=>kA a b λb=>qU cK .i64 (iv 1) b λb=>OB g4 .i64 (gx d 0) b λb=>oA .i64 (gx d 1) (iv 1) λf=>c [b,f] a) (oA .i64 (gx d 1) (iv 1) λb=>c [(gx d 0),b] a)) (R (gx d 0) e)) [(iv 0),(iv 0)] w
def zP:=lp (λb c d=>NV->qU uM .i64 a (gx c 1) λe=>lB .i64 (iv 0) e λe=>eA e (cf 305 [a,(gx c 1)] d λa e=>eA a (xB 2 (Value.cells (iv 0)) 1 1 [(0,(gx c 1))] e λa f=>nD prog (Builtin.append_ #[42,42] 42 #[(gx c 0),a]) f λa f=>oA .i64 (gx c 1) (iv 1) λg=>b [a,g] f) (oA .i64 (gx c 1) (iv 1) λa=>b [(gx c 0),a] e)) (R (gx c 0) d)) [sn,(iv 0)] w
def TM:=cf 162 [a] w λa b=>VA a λa=>R a b
def ZL:=lp (λb c d=>NV->lB .i64 (gx c 1) (iv 64) λe=>eA e (cf 305 [(gx c 1),a] d λa e=>eA a (qU cK .u64 (.int .u64 1) (gx c 1) λa=>OB g4 .u64 (gx c 0) a λa=>oA .i64 (gx c 1) (iv 1) λf=>b [a,f] e) (oA .i64 (gx c 1) (iv 1) λa=>b [(gx c 0),a] e)) (R (gx c 0) d)) [(.int .u64 0),(iv 0)] w
def cI:=zg true a sn λb=>eA b (R sn w) (xB 2 (Value.cells (iv 0)) 1 0 [] w λb c=>nD prog (Builtin.append_ #[42,42] 42 #[b,a]) c λa b=>R a b)
def UD:=lA a λb=>lp (λc d e=>NV->lB .i64 (gx d 1) b λb=>eA b (wA 1 a (gx d 1) λb=>kA e b λb=>lA b λb=>oA .i64 (gx d 0) b λb=>lB .i64 b (iv 0) λf=>eA f (False) (oA .i64 (gx d 1) (iv 1) λf=>c [b,f] e)) (cf 413 [sn,(gx d 0)] e λb c=>lA a λd=>lp (λe f g=>NV->lB .i64 (gx f 1) d λd=>eA d (wA 1 a (gx f 1) λa=>kA g a λa=>nD prog (Builtin.append_ #[27,27] 27 #[(gx f 0),a]) g λa d=>oA .i64 (gx f 1) (iv 1) λh=>e [a,h] d) (R (gx f 0) g)) [b,(iv 0)] c)) [(iv 0),(iv 0)] w
def XH:=cf 66 [b,sn] w λb d=>zB #[sn,es] #[(0,1),(1,1)] [(0,b),(1,c)] λb=>cf 414 [a,b] d λa b=>R a b
def FF:=zg true a sn λb=>eA b (R sn w) (xB 9 (Value.cells es) 1 0 [] w λb c=>nD prog (Builtin.append_ #[31,31] 31 #[b,a]) c λa b=>R a b)
def YB:=cf 438 [a,b] w λa b=>hH .i64 (iv 0) a λa=>R a b
def PM:=PA (Value.cells a) 59 w λa b=>HA b 2 a λa=>cf 275 [a] b λa b=>VA a λa=>R a b
def pY:=PA (Value.cells a) 59 w λa b=>FA 0 a λc=>kA b c λc=>BB .i64 c (iv 0) λc=>eA c (FA 1 a λc=>kA b c λc=>cf 315 [c] b λc d=>R c d) (jn (λc=>FA 0 a λd=>kA b d λd=>cf 53 [d,(iv 1),(iv 6)] b λb d=>eA b (FA 1 a λa=>kA d a λa=>BB .i64 a (iv 0) λa=>c [a] d) (c [ff] d)) (λa b=>NV->R (gx a 0) b))
def SM:=lp (λc d e=>NV->lB .i64 (iv 0) (gx d 1) λf=>eA f (lA a λf=>hH .i64 f (gx d 0) λf=>eA f (R (iv (-1)) e) (wA 2 a (gx d 0) λa=>FA 0 a λa=>kA e a λa=>cf 439 [a] e λa f=>KB .i64 a (iv 1) λa=>oA .i64 (gx d 1) a λa=>oA .i64 (gx d 0) (iv 1) λg=>c [g,a] f)) (R (gx d 0) e)) [b,(iv 1)] w
def WJ:=PA (Value.cells a) 59 w λa b=>FA 0 a λa=>kA b a λa=>cf 278 [a] b λa b=>R a b
def GI:=jn (λb=>BB .i64 a (iv 5) λc=>eA c (b [tt] w) (BB .i64 a (iv 6) λa=>b [a] w)) (λa b=>NV->R (gx a 0) b)
def fS:=cf 320 [] w λb c=>cf 221 [(iv 4),a,b] c λa b=>R a b
def HI:=PA (Value.cells a) 211 w λa c=>jn (λd=>HA c 2 a λe=>cf 440 [e] c λc e=>VA c λc=>eA c (d [tt] e) (cf 179 [b] e λc e=>VA c λc=>d [c] e)) (λc d=>NV->eA (gx c 0) (R (iv 1) d) (cf 441 [b] d λc d=>VA c λc=>eA c (R (iv 5) d) (HA d 2 a λa=>cf 443 [a] d λa c=>lA a λa=>cf 145 [b] c λb c=>lA b λb=>cf 442 [a,b] c λa b=>VA a λa=>eA a (R (iv 3) b) (R (iv 0) b))))
def FK:=PA (Value.cells a) 211 w λa c=>HA c 2 a λa=>cf 444 [a,b] c λa b=>YA a 0 λ_=>YA a 1 λ_=>YA a 2 λa=>VA a λa=>R a b
def wU:=PA (Value.cells (.agg #[(iv 0),sn])) 211 w λb c=>lp (λd e f=>NV->lB .i64 (gx e 1) a λg=>eA g (qU cK .i64 (iv 1) a λa=>KB .i64 a (iv 1) λa=>qU cK .i64 (iv 1) (gx e 1) λg=>KB .i64 g (iv 1) λg=>OB zG .i64 a g λa=> ∀g,bA f g->xB 2 (Value.cells (iv 0)) 1 1 [(0,a)] g λa g=> ∀h,bA g h->nD prog (Builtin.append_ #[42,42] 42 #[(gx e 0),a]) h λa g=> ∀h,bA g h->oA .i64 (gx e 1) (iv 1) λg=>d [a,g] h) (cf 445 [(gx e 0)] f λa d=>sD prog d 2 b a λa=>HA a 2 b λb=>R b a)) [sn,(iv 0)] c
def QB:=cf 446 [a,b] w λa b=>hH .i64 (iv 0) a λa=>R a b
def ZH:=PA (Value.cells a) 123 w λa b=>HA b 2 a λa=>cf 286 [a] b λa b=>VA a λa=>R a b
def HJ:=PA (Value.cells a) 123 w λa b=>jn (λc=>FA 0 a λd=>kA b d λd=>lA d λd=>hH .i64 d (iv 16) λd=>eA d (FA 1 a λd=>kA b d λd=>lA d λd=>hH .i64 d (iv 16) λd=>eA d (FA 0 a λd=>kA b d λd=>cf 447 [d] b λd e=>eA d (FA 1 a λa=>kA e a λa=>cf 447 [a] e λa d=>c [a] d) (c [ff] e)) (c [ff] b)) (c [ff] b)) (λa b=>NV->R (gx a 0) b)
def aI:=PA (Value.cells a) 123 w λa b=>HA b 2 a λa=>cf 288 [a] b λa b=>lA a λa=>lB .i64 (iv 8) a λa=>R a b
def EI:=PA (Value.cells a) 123 w λa b=>HA b 2 a λa=>cf 449 [a] b λa b=>cf 291 [a] b λa b=>cf 448 [a] b λa b=>lA a λc=>lp (λd e f=>NV->lB .i64 (gx e 1) c λc=>eA c (wA 1 a (gx e 1) λa=>kA f a λa=>cf 125 [a] f λc g=>jn (λh=>wA 2 c (iv 0) λi=>FA 0 i λi=>kA g i λi=>BB .i64 i (iv 0) λi=>eA i (h [tt] g) (wA 2 c (iv 0) λi=>FA 0 i λi=>kA g i λi=>cf 278 [i] g λg i=>h [g] i)) (λg h=>NV->eA (gx g 0) (zB #[es,sn] #[(0,1),(1,1)] [(0,a),(1,c)] λa=>xB 306 (Value.cells (.agg #[es,sn])) 2 1 [(0,a)] h λa c=>nD prog (Builtin.append_ #[298,298] 298 #[(gx e 0),a]) c λa c=>oA .i64 (gx e 1) (iv 1) λg=>d [a,g] c) (oA .i64 (gx e 1) (iv 1) λa=>d [(gx e 0),a] h))) (R (gx e 0) f)) [sn,(iv 0)] b
def LC:=PA (Value.cells b) 27 w λb d=>kA d b λe=>wA 2 e (iv 0) λe=>FA 0 e λe=>kA d e λe=>BB .i64 e (iv 1) λf=>eA f (R ff d) (BB .i64 e (iv 2) λf=>eA f (jn (λf=>kA d b λg=>cf 239 [g] d λg h=>cf 290 [a,g,c] h λg h=>eA g (kA h b λg=>cf 240 [g] h λg i=>cf 290 [a,g,c] i λg i=>f [g] i) (f [ff] h)) (λf g=>NV->R (gx f 0) g)) (BB .i64 e (iv 3) λf=>eA f (jn (λf=>kA d b λg=>cf 239 [g] d λg h=>cf 290 [a,g,c] h λg h=>eA g (f [tt] h) (kA h b λg=>cf 240 [g] h λg h=>cf 290 [a,g,c] h λg h=>f [g] h)) (λf g=>NV->R (gx f 0) g)) (BB .i64 e (iv 4) λe=>eA e (jn (λe=>kA d b λf=>cf 239 [f] d λf g=>cf 290 [a,f,c] g λf g=>VA f λf=>eA f (e [tt] g) (kA g b λf=>cf 240 [f] g λf g=>cf 290 [a,f,c] g λf g=>e [f] g)) (λe f=>NV->R (gx e 0) f)) (IA a λa=>FA 1 a λa=>kA d a λa=>cf 451 [a,(.func (.func 452) #[] #[b])] d λa b=>cf 305 [c,a] b λa b=>R a b))))
def FI:=lA a λb=>lp (λc d e=>NV->lB .i64 (gx d 1) b λb=>eA b (wA 1 a (gx d 1) λa=>kA e a λa=>cf 125 [a] e λa b=>xB 27 (Value.cells sn) 1 1 [(0,a)] b λa b=>nD prog (Builtin.append_ #[54,54] 54 #[(gx d 0),a]) b λa b=>oA .i64 (gx d 1) (iv 1) λf=>c [a,f] b) (R (gx d 0) e)) [sn,(iv 0)] w
def cO:=kA w b λb=>kA w c λc=>cf 290 [b,a,c] w λa b=>R a b
def JI:=PA (Value.cells b) 2 w λb c=>IA a λd=>FA 0 d λd=>kA c d λd=>cf 454 [d] c λc d=>VA c λc=>eA c (R tt d) (IA a λa=>FA 2 a λa=>kA d a λa=>cf 455 [a,(.func (.func 456) #[] #[b])] d λa b=>VA a λa=>R a b)
def II:=lp (λb c d=>NV->eA (gx c 0) (IA a λc=>FA 3 c λc=>kA d c λc=>lp (λe f g=>NV->lB .i64 (gx f 1) c λc=>eA c (jn (λc=>IA a λh=>FA 5 h λh=>kA g h λh=>wA 1 h (gx f 1) λh=>kA g h λh=>eA h (cf 458 [a,(gx f 1)] g λh i=>VA h λh=>c [h] i) (c [ff] g)) (λc h=>NV->eA (gx c 0) (IA a λa=>FA 5 a λa=>kA h a λa=>wA 1 a (gx f 1) λa=>KC h a ff λa=>oA .i64 (gx f 1) (iv 1) λc=>e [tt,c] a) (oA .i64 (gx f 1) (iv 1) λa=>e [(gx f 0),a] h))) (b [(gx f 0)] g)) [ff,(iv 0)] d) (R (.tuple #[]) d)) [tt] w
def SL:=PA (Value.cells a) 308 w λa c=>FA 0 a λd=>kA c d λd=>cq 305 [b,d] c λb=>FA 1 a λa=>kA c a λa=>BB .i64 a (iv 5) λa=>TE true b a λa=> ∀b,bA c b->R a b
def mF:=cf 459 [a,b] w λa b=>hH .i64 (iv 0) a λa=>R a b
def KI:=PA (Value.cells b) 308 w λb e=>jn (λf=>cf 302 [a,c,d] e λc e=>eA c (HA e 3 b λc=>cf 457 [c,d] e λc g=>VA c λc=>eA c (IA a λa=>FA 0 a λa=>kA g a λa=>xA .neq a (.string ⟨#[71,76]⟩) λa=>eA a (f [tt] g) (HA g 3 b λa=>cf 296 [a,d] g λa b=>f [a] b)) (f [ff] g)) (f [ff] e)) (λa b=>NV->R (gx a 0) b)
def fH:=PA (Value.cells b) 308 w λb d=>IA a λe=>FA 3 e λe=>kA d e λe=>lp (λf g h=>NV->lB .i64 (gx g 0) e λe=>eA e (jn (λe=>IA a λi=>FA 5 i λi=>kA h i λi=>wA 1 i (gx g 0) λi=>kA h i λi=>eA i (HA h 3 b λb=>cf 299 [a,b,c,(gx g 0)] h λa b=>e [a] b) (e [ff] h)) (λa b=>NV->eA (gx a 0) (R (gx g 0) b) (oA .i64 (gx g 0) (iv 1) λa=>f [a] b))) (R (iv (-1)) h)) [(iv 0)] d
def kO:=PA (Value.cells b) 2 w λb d=>PA (Value.cells c) 2 d λc d=>IA a λe=>FA 0 e λe=>kA d e λe=>xA .eql e (.string ⟨#[83,53]⟩) λf=>eA f (IA a λf=>FA 2 f λf=>kA d f λf=>cf 455 [f,(.func (.func 460) #[] #[b,c])] d λf g=>VA f λf=>R f g) (xA .eql e (.string ⟨#[75,66]⟩) λf=>eA f (jn (λf=>kA d b λg=>kA d c λh=>cf 461 [a,g,h] d λg h=>eA g (kA h c λg=>kA h b λi=>cf 461 [a,g,i] h λg i=>f [g] i) (f [ff] h)) (λf g=>NV->R (gx f 0) g)) (xA .eql e (.string ⟨#[71,76]⟩) λe=>eA e (jn (λe=>kA d b λf=>kA d c λg=>cf 461 [a,f,g] d λf g=>eA f (IA a λf=>FA 2 f λf=>kA g f λf=>cf 455 [f,(.func (.func 462) #[] #[c,b])] g λf h=>e [f] h) (e [ff] g)) (λe f=>NV->R (gx e 0) f)) (kA d b λb=>kA d c λc=>cf 461 [a,b,c] d λa b=>R a b)))
def LI:=IA a λc=>FA 3 c λc=>kA w c λc=>lp (λd e f=>NV->lB .i64 (gx e 0) c λc=>eA c (jn (λc=>IA a λg=>FA 5 g λg=>kA f g λg=>wA 1 g (gx e 0) λg=>kA f g λg=>eA g (cf 302 [a,b,(gx e 0)] f λa b=>c [a] b) (c [ff] f)) (λa b=>NV->eA (gx a 0) (R (gx e 0) b) (oA .i64 (gx e 0) (iv 1) λa=>d [a] b))) (R (iv (-1)) f)) [(iv 0)] w
def yU:=PA (Value.cells (.agg #[(iv 0),sn])) 128 w λb c=>cf 166 [a] c λc d=>zB #[(iv 0),sn] #[(0,1),(1,1)] [(0,c),(1,a)] λa=>sD prog d 2 b a λa=>HA a 2 b λb=>R b a
def oa:=qU uM .i64 a b λa=>OB bK .i64 a (iv 1) λa=>BB .i64 a (iv 1) λa=>R a w
def GK:=cf 161 [a] w λa b=>VA a λa=>R a b
def ZR:=lp (λb c d=>NV->lB .i64 (gx c 1) (iv 61) λe=>eA e (qU cK .i64 (iv 1) (gx c 1) λe=>KB .i64 e (iv 1) λe=>OB bK .i64 a e λa=>BB .i64 a e λa=>eA a (qU cK .i64 (iv 1) (gx c 1) λa=>OB g4 .i64 (gx c 0) a λa=>oA .i64 (gx c 1) (iv 1) λe=>b [a,e] d) (oA .i64 (gx c 1) (iv 1) λa=>b [(gx c 0),a] d)) (R (gx c 0) d)) [(iv 0),(iv 0)] w
def YN:=cf 53 [a,(iv 0),(iv 5)] w λa b=>R a b
def M0:=wA 2 a (iv 0) λb=>FA 0 b λb=>kA w b λb=>cf 439 [b] w λb c=>BB .i64 b (iv 1) λd=>eA d (cf 239 [a] c λd e=>xB 27 (Value.cells sn) 1 1 [(0,d)] e λd e=>R d e) (BB .i64 b (iv 2) λb=>eA b (cf 239 [a] c λb d=>cf 240 [a] d λa d=>xB 27 (Value.cells sn) 1 2 [(0,b),(1,a)] d λa b=>R a b) (R sn c))
def mY:=zB #[(iv 0),(iv 0)] #[(0,1),(1,1)] [(0,(iv 1)),(1,(iv 0))] λa=>xB 59 (Value.cells (.agg #[(iv 0),(iv 0)])) 2 1 [(0,a)] w λa b=>R a b
def N0:=zB #[(iv 0),(iv 0)] #[(0,1),(1,1)] [(0,(iv 4)),(1,(iv 0))] λa=>zB #[(iv 0),(iv 0)] #[(0,1),(1,1)] [(0,(iv 1)),(1,(iv 0))] λb=>zB #[(iv 0),(iv 0)] #[(0,1),(1,1)] [(0,(iv 1)),(1,(iv 0))] λc=>xB 59 (Value.cells (.agg #[(iv 0),(iv 0)])) 2 3 [(0,a),(1,b),(2,c)] w λa b=>R a b
def NU:=lp (λc d e=>NV->lA a λf=>lB .i64 (gx d 0) f λf=>eA f (wA 1 a (gx d 0) λa=>kA e a λa=>xA .eql a b λa=>eA a (R tt e) (oA .i64 (gx d 0) (iv 1) λa=>c [a] e)) (R ff e)) [(iv 0)] w
def nL:=xB 9 (Value.cells es) 1 9 [(0,(.string ⟨#[66,68,50]⟩)),(1,(.string ⟨#[66,68,51]⟩)),(2,(.string ⟨#[66,87,50]⟩)),(3,(.string ⟨#[66,87,51]⟩)),(4,(.string ⟨#[67,76]⟩)),(5,(.string ⟨#[73,110,116]⟩)),(6,(.string ⟨#[75,67]⟩)),(7,(.string ⟨#[76,67]⟩)),(8,(.string ⟨#[83,109,76]⟩))] w λa b=>R a b
def ZQ:=jn (λd=>hH .i64 b a λb=>eA b (hH .i64 a c λa=>d [a] w) (d [ff] w)) (λa b=>NV->R (gx a 0) b)
def Q0:=PA (Value.cells a) 123 w λa b=>jn (λc=>FA 0 a λd=>kA b d λd=>cf 484 [d] b λb d=>eA b (FA 1 a λa=>kA d a λa=>cf 484 [a] d λa b=>c [a] b) (c [ff] d)) (λa b=>NV->R (gx a 0) b)
def KK:=PA (Value.cells a) 123 w λa b=>xB 9 (Value.cells es) 1 0 [] b λb c=>HA c 2 a λa=>cf 485 [a] c λa c=>lp (λd e f=>NV->lA a λg=>lB .i64 (gx e 1) g λg=>eA g (wA 1 a (gx e 1) λg=>kA f g λg=>cf 46 [g] f λg h=>YA g 0 λi=>YA g 1 λ_=>jn (λg=>wA 2 i (iv 0) λj=>FA 0 j λj=>kA h j λj=>BB .i64 j (iv 0) λj=>eA j (g [tt] h) (wA 2 i (iv 0) λj=>FA 0 j λj=>kA h j λj=>BB .i64 j (iv 5) λj=>eA j (g [tt] h) (wA 2 i (iv 0) λi=>FA 0 i λi=>kA h i λi=>BB .i64 i (iv 6) λi=>g [i] h))) (λg h=>NV->eA (gx g 0) (wA 1 a (gx e 1) λa=>kA h a λa=>xB 9 (Value.cells es) 1 1 [(0,a)] h λa g=>nD prog (Builtin.append_ #[31,31] 31 #[(gx e 0),a]) g λa g=>oA .i64 (gx e 1) (iv 1) λi=>d [a,i] g) (oA .i64 (gx e 1) (iv 1) λa=>d [(gx e 0),a] h))) (R (gx e 0) f)) [b,(iv 0)] c
def fV:=PA (Value.cells b) 123 w λb c=>HA c 2 b λb=>cf 333 [b] c λb c=>xB 2 (Value.cells (iv 0)) 1 0 [] c λc d=>xB 27 (Value.cells sn) 1 0 [] d λd e=>zB #[es,sn,sn,sn,sn,sn,sn,sn] #[(0,1),(1,1),(2,1),(3,1),(4,1),(5,1),(6,1),(7,1)] [(0,a),(1,b),(2,c),(3,d)] λa=>PA (Value.cells a) 341 e λa b=>lp (λc d e=>NV->IA a λf=>FA 1 f λf=>kA e f λf=>lA f λf=>lB .i64 (gx d 0) f λf=>eA f (IA a λf=>FA 1 f λf=>kA e f λf=>wA 1 f (gx d 0) λf=>kA e f λf=>cf 46 [f] e λf g=>YA f 0 λh=>YA f 1 λ_=>IA a λf=>FA 2 f λf=>kA g f λf=>wA 2 h (iv 0) λi=>FA 0 i λi=>kA g i λi=> ∀j,bA g j->xB 2 (Value.cells (iv 0)) 1 1 [(0,i)] j λg i=>bA j i/\ ∀j,bA i j->nD prog (Builtin.append_ #[42,42] 42 #[f,g]) j λf g=>IA a λi=>FA 2 i λi=> ∀j,bA g j->KC j i f λf=> ∀g,bA f g->IA a λf=>FA 3 f λf=>kA g f λf=>qP 2 h (some (iv 1)) none λh=> ∀i,bA g i->xB 27 (Value.cells sn) 1 1 [(0,h)] i λg h=>bA i h/\ ∀i,bA h i->nD prog (Builtin.append_ #[54,54] 54 #[f,g]) i λf g=>IA a λh=>FA 3 h λh=> ∀i,bA g i->KC i h f λf=> ∀g,bA f g->oA .i64 (gx d 0) (iv 1) λd=>c [d] g) (xB 2 (Value.cells (iv 0)) 1 0 [] e λc d=>lp (λe f g=>NV->IA a λh=>FA 1 h λh=>kA g h λh=>lA h λh=>cf 486 [h] g λg h=>lB .i64 (gx f 1) g λg=>eA g (lp (λg i j=>NV->IA a λk=>FA 3 k λk=>kA j k λk=>lA k λk=>lB .i64 (gx i 1) k λk=>eA k (jn (λk=>IA a λl=>FA 2 l λl=>kA j l λl=>wA 1 l (gx i 1) λl=>kA j l λl=>zI .i64 l (iv 0) λl=>eA l (IA a λl=>FA 3 l λl=>kA j l λl=>wA 1 l (gx i 1) λl=>kA j l λl=>cf 487 [a,(gx f 1),l] j λl m=>k [l] m) (k [ff] j)) (λk l=>NV->eA (gx k 0) (cf 486 [(gx i 1)] l λk m=>OB g4 .i64 (gx i 0) k λk=>oA .i64 (gx i 1) (iv 1) λn=>g [k,n] m) (oA .i64 (gx i 1) (iv 1) λk=>g [(gx i 0),k] l))) (IA a λg=>FA 4 g λg=>kA j g λg=>xB 2 (Value.cells (iv 0)) 1 1 [(0,(gx i 0))] j λi j=>nD prog (Builtin.append_ #[42,42] 42 #[g,i]) j λg i=>IA a λj=>FA 4 j λj=>KC i j g λg=>cf 488 [a,(gx f 1)] g λg i=>eA g (xB 2 (Value.cells (iv 0)) 1 1 [(0,(gx f 1))] i λg j=>nD prog (Builtin.append_ #[42,42] 42 #[(gx f 0),g]) j λg j=>oA .i64 (gx f 1) (iv 1) λk=>e [g,k] j) (oA .i64 (gx f 1) (iv 1) λg=>e [(gx f 0),g] i))) [(iv 0),(iv 0)] h) (lp (λe g i=>NV->xB 2 (Value.cells (iv 0)) 1 0 [] i λi j=>lp (λk l m=>NV->lA (gx g 0) λn=>lB .i64 (gx l 1) n λn=>eA n (wA 1 (gx g 0) (gx l 1) λn=>kA m n λn=>cf 489 [a,n,(gx g 0)] m λn o=>eA n (wA 1 (gx g 0) (gx l 1) λn=>kA o n λn=>xB 2 (Value.cells (iv 0)) 1 1 [(0,n)] o λn p=>nD prog (Builtin.append_ #[42,42] 42 #[(gx l 0),n]) p λn p=>oA .i64 (gx l 1) (iv 1) λq=>k [n,q] p) (oA .i64 (gx l 1) (iv 1) λn=>k [(gx l 0),n] o)) (lA (gx l 0) λk=>lA (gx g 0) λn=>BB .i64 k n λk=>eA k (IA a λk=>FA 5 k λk=>KC m k (gx g 0) λg=>R a g) (e [(gx l 0)] m))) [i,(iv 0)] j) [(gx f 0)] h)) [c,(iv 0)] d)) [(iv 0)] b
def MY:=lp (λc d e=>NV->IA a λf=>FA 6 f λf=>kA e f λf=>lA f λf=>lB .i64 (gx d 0) f λf=>eA f (IA a λf=>FA 6 f λf=>kA e f λf=>wA 1 f (gx d 0) λf=>kA e f λf=>xA .eql f b λf=>eA f (IA a λf=>FA 7 f λf=>kA e f λf=>wA 1 f (gx d 0) λf=>kA e f λf=>R f e) (oA .i64 (gx d 0) (iv 1) λd=>c [d] e)) (cf 46 [b] e λc d=>YA c 0 λe=>YA c 1 λ_=>xB 4 (Value.cells ff) 1 0 [] d λc d=>lp (λf g h=>NV->IA a λi=>FA 5 i λi=>kA h i λi=>lA i λi=>lB .i64 (gx g 1) i λi=>eA i (IA a λi=>FA 5 i λi=>kA h i λi=>wA 1 i (gx g 1) λi=>kA h i λi=>cf 487 [a,i,e] h λe i=>xB 4 (Value.cells ff) 1 1 [(0,e)] i λe i=>nD prog (Builtin.append_ #[302,302] 302 #[(gx g 0),e]) i λe i=>oA .i64 (gx g 1) (iv 1) λj=>f [e,j] i) (IA a λe=>FA 6 e λe=>kA h e λe=>xB 9 (Value.cells es) 1 1 [(0,b)] h λb f=>nD prog (Builtin.append_ #[31,31] 31 #[e,b]) f λb e=>IA a λf=>FA 6 f λf=>KC e f b λb=>IA a λe=>FA 7 e λe=>kA b e λe=>xB 302 (Value.cells sn) 1 1 [(0,(gx g 0))] b λb f=>nD prog (Builtin.append_ #[339,339] 339 #[e,b]) f λb e=>IA a λa=>FA 7 a λa=>KC e a b λa=>R (gx g 0) a)) [c,(iv 0)] d)) [(iv 0)] w
def eM:=lp (λb c d=>NV->lA a λe=>lB .i64 (gx c 1) e λe=>eA e (wA 2 a (gx c 1) λe=>FA 0 e λe=>kA d e λe=>BB .i64 e (iv 0) λe=>eA e (wA 2 a (gx c 1) λa=>FA 1 a λa=>kA d a λa=>cf 486 [a] d λa e=>OB g4 .i64 (gx c 0) a λa=>oA .i64 (gx c 1) (iv 1) λf=>b [a,f] e) (oA .i64 (gx c 1) (iv 1) λa=>b [(gx c 0),a] d)) (cf 490 [(gx c 0)] d λa b=>R a b)) [(iv 0),(iv 0)] w
def XU:=lp (λb c d=>NV->lA a λe=>lB .i64 (gx c 0) e λe=>eA e (wA 1 a (gx c 0) λe=>kA d e λe=>cf 109 [e] d λe f=>VA e λe=>eA e (R (iv 1) f) (oA .i64 (gx c 0) (iv 1) λc=>b [c] f)) (lp (λb c e=>NV->lA a λf=>lB .i64 (gx c 0) f λf=>eA f (wA 1 a (gx c 0) λa=>kA e a λa=>cf 361 [a] e λa f=>VA a λa=>eA a (R (iv 5) f) (oA .i64 (gx c 0) (iv 1) λa=>b [a] f)) (R (iv 0) e)) [(iv 0)] d)) [(iv 0)] w
def BS:=lp (λc d e=>NV->lA a λf=>lB .i64 (gx d 0) f λf=>eA f (wA 1 a (gx d 0) λa=>kA e a λa=>TE true a b λa=>eA a (R (gx d 0) e) (oA .i64 (gx d 0) (iv 1) λa=>c [a] e)) (R (iv (-1)) e)) [(iv 0)] w
def CS:=xB 4 (Value.cells ff) 1 0 [] w λb c=>lp (λd e f=>NV->lB .i64 (gx e 1) (iv 64) λg=>eA g (cf 491 [a,(gx e 1)] f λa g=>xB 4 (Value.cells ff) 1 1 [(0,a)] g λa g=>nD prog (Builtin.append_ #[302,302] 302 #[(gx e 0),a]) g λa g=>oA .i64 (gx e 1) (iv 1) λh=>d [a,h] g) (R (gx e 0) f)) [b,(iv 0)] c
def fN:=lp (λb c d=>NV->lA a λe=>lB .i64 (gx c 2) e λe=>eA e (wA 1 a (gx c 2) λe=>kA d e λe=>cf 109 [e] d λe f=>VA e λe=>eA e (R (iv 1) f) (wA 1 a (gx c 2) λe=>kA f e λe=>lA e λe=>oA .i64 (gx c 0) e λe=>jn (λg=>eA (gx c 1) (wA 1 a (gx c 2) λa=>kA f a λa=>cf 361 [a] f λa h=>g [a] h) (g [ff] f)) (λa f=>NV->oA .i64 (gx c 2) (iv 1) λg=>b [e,(gx a 0),g] f))) (VA (gx c 1) λa=>eA a (R (iv 5) d) (lB .i64 (iv 20) (gx c 0) λa=>eA a (R (iv 3) d) (R (iv 0) d)))) [(iv 0),tt,(iv 0)] w
def LP:=jn (λc=>cf 499 [a,b] w λd e=>eA d (c [tt] e) (cf 117 [] e λd e=>cf 499 [a,d] e λd e=>c [d] e)) (λc d=>NV->eA (gx c 0) (R tt d) (lp (λc e f=>NV->lA a λg=>lB .i64 (gx e 0) g λg=>eA g (wA 1 a (gx e 0) λg=>kA f g λg=>qP 1 a none (some (gx e 0)) λh=>oA .i64 (gx e 0) (iv 1) λi=>qP 1 a (some i) none λi=> ∀j,bA f j->xB 27 (Value.cells sn) 1 0 [] j λk l=>bA j l/\ ∀j,bA l j->nD prog (Builtin.append_ #[54,54] 54 #[k,h]) j λh k=>bA j k/\ ∀j,bA k j->nD prog (Builtin.append_ #[54,54] 54 #[h,i]) j λh i=> ∀j,bA i j->cf 500 [h,g] j λi j=>eA i (cf 343 [h,b] j λi k=>R i k) (wA 2 g (iv 0) λi=>FA 0 i λi=>kA j i λi=>BB .i64 i (iv 2) λi=>eA i (cf 222 [g] j λi k=>cf 223 [g] k λk l=>xB 27 (Value.cells sn) 1 2 [(0,i),(1,k)] l λi k=>cf 501 [h,i] k λi k=>cf 343 [i,b] k λi k=>R i k) (wA 2 g (iv 0) λi=>FA 0 i λi=>kA j i λi=>BB .i64 i (iv 3) λi=>eA i (jn (λi=>cf 222 [g] j λk l=>xB 27 (Value.cells sn) 1 1 [(0,k)] l λk l=>cf 501 [h,k] l λk l=>cf 343 [k,b] l λk l=>eA k (cf 223 [g] l λk m=>xB 27 (Value.cells sn) 1 1 [(0,k)] m λk m=>cf 501 [h,k] m λk m=>cf 343 [k,b] m λk m=>i [k] m) (i [ff] l)) (λi k=>NV->R (gx i 0) k)) (wA 2 g (iv 0) λi=>FA 0 i λi=>kA j i λi=>zI .i64 i (iv 4) λi=>eA i (oA .i64 (gx e 0) (iv 1) λi=>c [i] j) (cf 222 [g] j λi j=>cf 223 [g] j λg j=>wA 2 i (iv 0) λk=>FA 0 k λk=>kA j k λk=>BB .i64 k (iv 2) λk=>eA k (cf 222 [i] j λk l=>cf 223 [i] l λl m=>cf 120 [(iv 4),l,g] m λl m=>cf 120 [(iv 4),k,l] m λk l=>xB 27 (Value.cells sn) 1 1 [(0,k)] l λk l=>cf 501 [h,k] l λk l=>cf 343 [k,b] l λk l=>R k l) (wA 2 i (iv 0) λk=>FA 0 k λk=>kA j k λk=>BB .i64 k (iv 3) λk=>eA k (cf 222 [i] j λk l=>cf 120 [(iv 4),k,g] l λk l=>cf 223 [i] l λl m=>cf 120 [(iv 4),l,g] m λl m=>xB 27 (Value.cells sn) 1 2 [(0,k),(1,l)] m λk l=>cf 501 [h,k] l λk l=>cf 343 [k,b] l λk l=>R k l) (cf 499 [h,i] j λi j=>eA i (xB 27 (Value.cells sn) 1 1 [(0,g)] j λg i=>cf 501 [h,g] i λg h=>cf 343 [g,b] h λg h=>R g h) (oA .i64 (gx e 0) (iv 1) λe=>c [e] j)))))))) (wA 2 b (iv 0) λc=>FA 0 c λc=>kA f c λc=>BB .i64 c (iv 2) λe=>eA e (jn (λe=>cf 222 [b] f λg h=>cf 343 [a,g] h λg h=>eA g (cf 223 [b] h λg i=>cf 343 [a,g] i λg i=>e [g] i) (e [ff] h)) (λe g=>NV->R (gx e 0) g)) (BB .i64 c (iv 4) λe=>eA e (cf 222 [b] f λe g=>xB 27 (Value.cells sn) 1 1 [(0,e)] g λe g=>cf 501 [a,e] g λe g=>cf 223 [b] g λg h=>cf 343 [e,g] h λe g=>R e g) (BB .i64 c (iv 3) λc=>jn (λe=>eA c (jn (λc=>cf 222 [b] f λg h=>cf 343 [a,g] h λg h=>eA g (c [tt] h) (cf 223 [b] h λg h=>cf 343 [a,g] h λg h=>c [g] h)) (λc g=>NV->eA (gx c 0) (R tt g) (e [] g))) (e [] f)) (λ_ c=>NV->lp (λe f g=>NV->lA a λh=>lB .i64 (gx f 0) h λh=>eA h (wA 1 a (gx f 0) λh=>kA g h λh=>jn (λi=>wA 2 h (iv 0) λj=>FA 0 j λj=>kA g j λj=>zI .i64 j (iv 4) λj=>eA j (i [tt] g) (cf 222 [h] g λj k=>wA 2 j (iv 0) λj=>FA 0 j λj=>kA k j λj=>zI .i64 j (iv 4) λj=>i [j] k)) (λi j=>NV->eA (gx i 0) (oA .i64 (gx f 0) (iv 1) λi=>e [i] j) (qP 1 a none (some (gx f 0)) λi=>oA .i64 (gx f 0) (iv 1) λk=>qP 1 a (some k) none λa=> ∀k,bA j k->xB 27 (Value.cells sn) 1 0 [] k λj l=>bA k l/\ ∀k,bA l k->nD prog (Builtin.append_ #[54,54] 54 #[j,i]) k λi j=>bA k j/\ ∀k,bA j k->nD prog (Builtin.append_ #[54,54] 54 #[i,a]) k λa i=> ∀j,bA i j->cf 222 [h] j λi j=>cf 223 [h] j λh j=>jn (λk=>cf 223 [i] j λj l=>cf 120 [(iv 4),j,h] l λj l=>cf 222 [i] l λl m=>xB 27 (Value.cells sn) 1 2 [(0,j),(1,l)] m λj l=>cf 501 [a,j] l λj l=>cf 223 [i] l λi l=>cf 343 [j,i] l λi j=>eA i (xB 27 (Value.cells sn) 1 1 [(0,h)] j λh i=>cf 501 [a,h] i λa h=>cf 343 [a,b] h λa b=>k [a] b) (k [ff] j)) (λa b=>NV->eA (gx a 0) (R tt b) (oA .i64 (gx f 0) (iv 1) λa=>e [a] b))))) (R ff g)) [(iv 0)] c))))) [(iv 0)] d))
end
section
variable{a b c d:Value}{w:World}{R:RT}
theorem sb(h:VU a w R):nA prog 217 #[a] w R:=cD (h:=(nn lf (nn (nn lf (.node (some [3]) (nn lf (nn (nn (.reg [] (some [41])) lf) lf)) lf)) (nn (.reg [] (some [2])) lf)))) Tryz.func217 h
theorem O4(h:DP a w R):nA prog 219 #[a] w R:=cD (h:=(nn lf (nn lf (nn (.node (some [3]) lf lf) lf)))) Tryz.func219 h
theorem qZ(h:VM a b w R):nA prog 220 #[a,b] w R:=cD (h:=(nn lf (nn (nn (.reg [] (some [33])) lf) lf))) Tryz.func220 h
theorem Ri(h:S6 a b c w R):nA prog 221 #[a,b,c] w R:=cD (h:=lf) Tryz.func221 h
theorem GV(h:cN a w R):nA prog 222 #[a] w R:=cD (h:=lf) Tryz.func222 h
theorem eT(h:mL a w R):nA prog 223 #[a] w R:=cD (h:=lf) Tryz.func223 h
theorem d8(h:uS a b w R):nA prog 224 #[a,b] w R:=cD (h:=(nn lf (nn lf (nn (nn lf (.node (some [5]) lf lf)) lf)))) Tryz.func224 h
theorem ub(h:WU w R):nA prog 225 #[] w R:=cD (h:=lf) Tryz.func225 h
theorem mX(h:IL a w R):nA prog 226 #[a] w R:=cD (h:=(nn lf (nn lf (nn lf (nn lf (nn (nn (.reg [] (some [15])) lf) lf)))))) Tryz.func226 h
theorem gD(h:fC a b w R):nA prog 227 #[a,b] w R:=cD (h:=(nn lf (nn (nn lf (.node (some [8]) lf lf)) lf))) Tryz.func227 h
theorem Rg(h:P0 a w R):nA prog 228 #[a] w R:=cD (h:=(nn lf (nn lf (nn (.node (some [3]) lf lf) lf)))) Tryz.func228 h
theorem pb(h:TU a b w R):nA prog 229 #[a,b] w R:=cD (h:=(nn lf (nn (nn (.reg [] (some [34])) lf) lf))) Tryz.func229 h
theorem KG(h:oE a b w R):nA prog 230 #[a,b] w R:=cD (h:=lf) Tryz.func230 h
theorem NX(h:hM a b c w R):nA prog 232 #[a,b,c] w R:=cD (h:=(nn lf (nn (nn lf (.node (some []) lf lf)) lf))) Tryz.func232 h
theorem rL(h:gG a b w R):nA prog 233 #[a,b] w R:=cD (h:=(nn lf (nn (nn lf (.node (some []) lf lf)) lf))) Tryz.func233 h
theorem aK(h:nF a b c d w R):nA prog 234 #[a,b,c,d] w R:=cD (h:=(nn lf (nn lf (.node (some [1,2,3,8,9]) (nn lf (nn lf (nn lf (nn (nn lf (.node (some [3]) lf lf)) (nn lf (nn (nn lf (.node (some [11,12]) lf lf)) (nn (nn (.reg [] (some [68])) (.node (some []) lf lf)) (nn (nn (.reg [12] (some [87])) lf) lf)))))))) lf)))) Tryz.func234 h
theorem Y7(h:qS a w R):nA prog 235 #[a] w R:=cD (h:=lf) Tryz.func235 h
theorem La(h:CU a w R):nA prog 238 #[a] w R:=cD (h:=(nn lf (nn (nn (.reg [] (some [3])) lf) lf))) Tryz.func238 h
theorem Mg(h:K0 a w R):nA prog 239 #[a] w R:=cD (h:=lf) Tryz.func239 h
theorem Yd(h:wY a w R):nA prog 240 #[a] w R:=cD (h:=lf) Tryz.func240 h
theorem j1(h:WN a w R):nA prog 241 #[a] w R:=cD (h:=(nn lf (nn (.reg [] (some [2])) lf))) Tryz.func241 h
theorem O7(h:cS a w R):nA prog 242 #[a] w R:=cD (h:=lf) Tryz.func242 h
theorem DX(h:YL a w R):nA prog 244 #[a] w R:=cD (h:=(nn lf (nn lf (nn (nn lf (.node (some [3,8]) lf lf)) lf)))) Tryz.func244 h
theorem I4(h:zP a w R):nA prog 245 #[a] w R:=cD (h:=(nn lf (nn lf (nn (nn lf (.node (some [3,4]) lf lf)) lf)))) Tryz.func245 h
theorem nZ(h:TM a w R):nA prog 246 #[a] w R:=cD (h:=lf) Tryz.func246 h
theorem EX(h:ZL a w R):nA prog 247 #[a] w R:=cD (h:=(nn lf (nn lf (nn (nn lf (.node (some [3,5]) lf lf)) lf)))) Tryz.func247 h
theorem YP(h:cI a w R):nA prog 251 #[a] w R:=cD (h:=lf) Tryz.func251 h
theorem jH(h:UD a w R):nA prog 260 #[a] w R:=cD (h:=(nn lf (nn lf (nn (nn lf (.node (some [3,11]) lf lf)) (nn lf (nn (nn lf (.node (some [6,27]) lf lf)) lf)))))) Tryz.func260 h
theorem SP(h:XH a b c w R):nA prog 261 #[a,b,c] w R:=cD (h:=lf) Tryz.func261 h
theorem QK(h:FF a w R):nA prog 266 #[a] w R:=cD (h:=lf) Tryz.func266 h
theorem VC(h:YB a b w R):nA prog 273 #[a,b] w R:=cD (h:=lf) Tryz.func273 h
theorem lZ(h:PM a w R):nA prog 274 #[a] w R:=cD (h:=lf) Tryz.func274 h
theorem Sd(h:pY a w R):nA prog 275 #[a] w R:=cD (h:=(nn lf (nn lf (nn (.reg [] (some [2])) lf)))) Tryz.func275 h
theorem EV(h:SM a b w R):nA prog 276 #[a,b] w R:=cD (h:=(nn lf (nn (nn lf (.node (some [1,5]) lf lf)) lf))) Tryz.func276 h
theorem TP(h:WJ a w R):nA prog 277 #[a] w R:=cD (h:=lf) Tryz.func277 h
theorem lN(h:GI a w R):nA prog 278 #[a] w R:=cD (h:=(nn lf (nn (.reg [] (some [2])) lf))) Tryz.func278 h
theorem R7(h:fS a w R):nA prog 279 #[a] w R:=cD (h:=lf) Tryz.func279 h
theorem lR(h:HI a b w R):nA prog 280 #[a,b] w R:=cD (h:=(nn lf (nn (nn (.reg [] (some [5])) lf) lf))) Tryz.func280 h
theorem yV(h:FK a b w R):nA prog 281 #[a,b] w R:=cD (h:=lf) Tryz.func281 h
theorem Fa(h:wU a w R):nA prog 282 #[a] w R:=cD (h:=(nn lf (nn lf (nn (nn lf (.node (some [3,6]) lf lf)) lf)))) Tryz.func282 h
theorem tD(h:QB a b w R):nA prog 284 #[a,b] w R:=cD (h:=lf) Tryz.func284 h
theorem VP(h:ZH a w R):nA prog 285 #[a] w R:=cD (h:=lf) Tryz.func285 h
theorem OT(h:HJ a w R):nA prog 286 #[a] w R:=cD (h:=(nn lf (nn (.reg [] (some [2])) lf))) Tryz.func286 h
theorem WP(h:aI a w R):nA prog 287 #[a] w R:=cD (h:=lf) Tryz.func287 h
theorem kR(h:EI a w R):nA prog 288 #[a] w R:=cD (h:=(nn lf (nn lf (nn (nn lf (.node (some [3,12]) (nn lf (nn lf (nn (nn lf (nn lf (nn (.reg [] (some [29])) lf))) lf))) lf)) lf)))) Tryz.func288 h
theorem FD(h:LC a b c w R):nA prog 290 #[a,b,c] w R:=cD (h:=(nn lf (nn (nn lf (nn lf (nn lf (nn lf (nn (nn (.reg [] (some [6])) lf) (nn lf (nn (nn (.reg [] (some [6])) lf) (nn lf (nn (nn (.reg [] (some [6])) lf) lf))))))))) lf))) Tryz.func290 h
theorem uO(h:FI a w R):nA prog 291 #[a] w R:=cD (h:=(nn lf (nn lf (nn (nn lf (.node (some [3,8]) lf lf)) lf)))) Tryz.func291 h
theorem A1(h:cO a b c w R):nA prog 293 #[a,b,c] w R:=cD (h:=lf) Tryz.func293 h
theorem oR(h:JI a b w R):nA prog 294 #[a,b] w R:=cD (h:=lf) Tryz.func294 h
theorem mR(h:II a w R):nA prog 295 #[a] w R:=cD (h:=(nn lf (.node (some [2]) (nn lf (nn lf (nn lf (.node (some [2,9]) (nn lf (nn lf (nn (nn lf (nn (.reg [] (some [24])) lf)) lf))) lf)))) lf))) Tryz.func295 h
theorem xX(h:SL a b w R):nA prog 296 #[a,b] w R:=cD (h:=(nn lf (nn (.reg [3] none) lf))) Tryz.func296 h
theorem ZJ(h:mF a b w R):nA prog 297 #[a,b] w R:=cD (h:=lf) Tryz.func297 h
theorem pR(h:KI a b c d w R):nA prog 299 #[a,b,c,d] w R:=cD (h:=(nn lf (nn (.reg [] (some [8])) lf))) Tryz.func299 h
theorem MN(h:fH a b c w R):nA prog 300 #[a,b,c] w R:=cD (h:=(nn lf (nn (nn lf (.node (some [12]) (nn lf (nn lf (nn (nn lf (nn (.reg [] (some [28])) lf)) lf))) lf)) lf))) Tryz.func300 h
theorem I1(h:kO a b c w R):nA prog 302 #[a,b,c] w R:=cD (h:=(nn lf (nn (nn lf (nn lf (nn lf (nn lf (nn (nn (.reg [] (some [6])) lf) (nn lf (nn (nn (.reg [] (some [6])) lf) lf))))))) lf))) Tryz.func302 h
theorem qR(h:LI a b w R):nA prog 303 #[a,b] w R:=cD (h:=(nn lf (nn (nn lf (.node (some [10]) (nn lf (nn lf (nn (nn lf (nn (.reg [] (some [25])) lf)) lf))) lf)) lf))) Tryz.func303 h
theorem Ha(h:yU a w R):nA prog 304 #[a] w R:=cD (h:=lf) Tryz.func304 h
theorem ml(h:oa a b w R):nA prog 305 #[a,b] w R:=cD (h:=lf) Tryz.func305 h
theorem zV(h:GK a w R):nA prog 308 #[a] w R:=cD (h:=lf) Tryz.func308 h
theorem M7(h:ZR a w R):nA prog 314 #[a] w R:=cD (h:=(nn lf (nn lf (nn (nn lf (.node (some [3,6]) lf lf)) lf)))) Tryz.func314 h
theorem p1(h:YN a w R):nA prog 315 #[a] w R:=cD (h:=lf) Tryz.func315 h
theorem Og(h:M0 a w R):nA prog 316 #[a] w R:=cD (h:=lf) Tryz.func316 h
theorem Od(h:mY w R):nA prog 320 #[] w R:=cD (h:=lf) Tryz.func320 h
theorem Pg(h:N0 w R):nA prog 321 #[] w R:=cD (h:=lf) Tryz.func321 h
theorem Xa(h:NU a b w R):nA prog 329 #[a,b] w R:=cD (h:=(nn lf (nn (nn lf (.node (some [5]) lf lf)) lf))) Tryz.func329 h
theorem gT(h:nL w R):nA prog 330 #[] w R:=cD (h:=lf) Tryz.func330 h
theorem N1(h:ZQ a b c w R):nA prog 331 #[a,b,c] w R:=cD (h:=(nn lf (nn (.reg [] (some [6])) lf))) Tryz.func331 h
theorem Sg(h:Q0 a w R):nA prog 332 #[a] w R:=cD (h:=(nn lf (nn (.reg [] (some [2])) lf))) Tryz.func332 h
theorem JV(h:KK a w R):nA prog 333 #[a] w R:=cD (h:=(nn lf (nn lf (nn (nn lf (.node (some [3,5]) (nn lf (nn (nn lf (nn (.reg [] (some [43])) lf)) lf)) lf)) lf)))) Tryz.func333 h
theorem Eb(h:fV a b w R):nA prog 334 #[a,b] w R:=cD (h:=(nn lf (nn lf (nn (nn lf (.node (some [6]) lf lf)) (nn lf (nn (nn lf (.node (some [9,10]) (nn lf (nn (nn lf (nn (nn lf (.node (some [11,12]) (nn lf (nn (nn (.reg [] (some [105])) lf) lf)) lf)) lf)) lf)) lf)) (.node (some [9]) (nn lf (nn (nn lf (.node (some [13,14]) lf lf)) lf)) lf))))))) Tryz.func334 h
theorem ye(h:MY a b w R):nA prog 335 #[a,b] w R:=cD (h:=(nn lf (nn (nn lf (.node (some [5]) lf lf)) (nn lf (nn lf (nn (nn lf (.node (some [8,9]) lf lf)) lf)))))) Tryz.func335 h
theorem JX(h:eM a w R):nA prog 336 #[a] w R:=cD (h:=(nn lf (nn lf (nn (nn lf (.node (some [3,4]) lf lf)) lf)))) Tryz.func336 h
theorem wb(h:XU a w R):nA prog 337 #[a] w R:=cD (h:=(nn lf (nn (nn lf (.node (some [3]) lf lf)) (nn (nn lf (.node (some [4]) lf lf)) lf)))) Tryz.func337 h
theorem r8(h:BS a b w R):nA prog 338 #[a,b] w R:=cD (h:=(nn lf (nn (nn lf (.node (some [5]) lf lf)) lf))) Tryz.func338 h
theorem t8(h:CS a w R):nA prog 339 #[a] w R:=cD (h:=(nn lf (nn lf (nn (nn lf (.node (some [3,4]) lf lf)) lf)))) Tryz.func339 h
theorem xZ(h:fN a w R):nA prog 342 #[a] w R:=cD (h:=(nn lf (nn lf (nn (nn lf (.node (some [3,4,5]) (nn lf (nn (nn lf (nn lf (.reg [] (some [4])))) lf)) lf)) lf)))) Tryz.func342 h
theorem W4(h:LP a b w R):nA prog 343 #[a,b] w R:=cD (h:=(nn lf (nn (nn (.reg [] (some [22])) lf) (nn (nn lf (.node (some [5]) (nn lf (nn (nn lf (nn lf (nn (nn lf (nn lf (nn lf (nn lf (nn lf (nn (nn (.reg [] (some [4])) lf) lf)))))) lf))) lf)) lf)) (nn (nn lf (nn lf (nn (nn (.reg [] (some [4])) lf) (nn lf (nn lf (nn lf (.node (some []) (nn (.reg [] (some [181])) lf) lf))))))) (nn (nn lf (.node (some [10]) (nn lf (nn (nn lf (nn (nn (.reg [] (some [204])) lf) (nn lf (nn lf (nn (.reg [] (some [238])) lf))))) lf)) lf)) lf)))))) Tryz.func343 h
end
set_option maxRecDepth 100000
section
variable(a b c d:Value)(w:World)(R:RT)
def lV:=lp (λb c d=>NV->lA a λe=>lB .i64 (gx c 0) e λe=>eA e (wA 1 a (gx c 0) λe=>kA d e λe=>cf 109 [e] d λe f=>VA e λe=>eA e (R (iv 1) f) (oA .i64 (gx c 0) (iv 1) λc=>b [c] f)) (lp (λb c e=>NV->lA a λf=>lB .i64 (gx c 0) f λf=>eA f (wA 1 a (gx c 0) λa=>kA e a λa=>cf 530 [a] e λa f=>VA a λa=>eA a (R (iv 5) f) (oA .i64 (gx c 0) (iv 1) λa=>b [a] f)) (R (iv 0) e)) [(iv 0)] d)) [(iv 0)] w
def QS:=PA (Value.cells (.agg #[ff,sn])) 138 w λb c=>lA a λd=>KB .i64 d (iv 1) λd=>wA 1 a d λd=>kA c d λd=>VA d λd=>xB 2 (Value.cells (iv 0)) 1 0 [] c λc e=>zB #[ff,sn] #[(0,1),(1,1)] [(0,d),(1,c)] λc=>PA (Value.cells (.agg #[ff,sn])) 138 e λe f=>sD prog f 2 e c λc=>lp (λf g h=>NV->lA a λi=>lB .i64 (gx g 0) i λi=>eA i (wA 1 a (gx g 0) λa=>kA h a λa=>TE true a d λa=>eA a (FA 1 e λa=>kA h a λa=>xB 2 (Value.cells (iv 0)) 1 1 [(0,(gx g 0))] h λd i=>nD prog (Builtin.append_ #[42,42] 42 #[a,d]) i λa d=>FA 1 e λi=>KC d i a λa=>oA .i64 (gx g 0) (iv 1) λd=>f [d] a) (oA .i64 (gx g 0) (iv 1) λa=>f [a] h)) (HA h 2 e λa=>sD prog h 2 b a λa=>HA a 2 b λb=>R b a)) [(iv 0)] c
def VE:=tu 4 (Value.cells ff) 1 1 (iv 61) (iv 61) w λb c=>wA 2 a (iv 0) λd=>FA 0 d λd=>kA c d λd=>BB .i64 d (iv 1) λe=>eA e (R b c) (BB .i64 d (iv 5) λe=>jn (λf=>eA e (f [tt] c) (BB .i64 d (iv 6) λd=>f [d] c)) (λc d=>NV->eA (gx c 0) (qP 2 a (some (iv 1)) none λc=>wA 2 a (iv 0) λe=>FA 0 e λe=>kA d e λe=>BB .i64 e (iv 5) λe=> ∀f,bA d f->cf 358 [c] f λc g=>bA f g/\ ∀f,bA g f->lp (λg h i=>NV->lA b λj=>lB .i64 (gx h 1) j λj=>eA j (wA 1 b (gx h 1) λj=>KC i j (gx h 0) λj=>wA 1 c (gx h 1) λc=>kA j c λc=>TE false c e λc=>eA c (VA e λc=>oA .i64 (gx h 1) (iv 1) λk=>g [c,k] j) (oA .i64 (gx h 1) (iv 1) λc=>g [(gx h 0),c] j)) (R b i)) [e,(iv 0)] f) (cf 222 [a] d λc d=>cf 358 [c] d λc d=>cf 223 [a] d λd e=>cf 358 [d] e λd e=>lp (λf g h=>NV->lA b λi=>lB .i64 (gx g 0) i λi=>eA i (wA 2 a (iv 0) λa=>FA 0 a λa=>kA h a λa=>BB .i64 a (iv 2) λi=>eA i (jn (λi=>wA 1 c (gx g 0) λj=>kA h j λj=>eA j (wA 1 d (gx g 0) λj=>kA h j λj=>wA 1 b (gx g 0) λk=>KC h k j λj=>i [] j) (wA 1 b (gx g 0) λj=>KC h j ff λj=>i [] j)) (λ_ i=>NV->oA .i64 (gx g 0) (iv 1) λj=>f [j] i)) (BB .i64 a (iv 3) λa=>eA a (jn (λa=>wA 1 c (gx g 0) λi=>kA h i λi=>eA i (wA 1 b (gx g 0) λi=>KC h i tt λi=>a [] i) (wA 1 d (gx g 0) λi=>kA h i λi=>wA 1 b (gx g 0) λj=>KC h j i λi=>a [] i)) (λ_ a=>NV->oA .i64 (gx g 0) (iv 1) λi=>f [i] a)) (jn (λa=>wA 1 c (gx g 0) λc=>kA h c λc=>VA c λc=>eA c (wA 1 b (gx g 0) λc=>KC h c tt λc=>a [] c) (wA 1 d (gx g 0) λc=>kA h c λc=>wA 1 b (gx g 0) λd=>KC h d c λc=>a [] c)) (λ_ a=>NV->oA .i64 (gx g 0) (iv 1) λc=>f [c] a)))) (R b h)) [(iv 0)] e)))
def aV:=xB 9 (Value.cells es) 1 0 [] w λb c=>lp (λd e f=>NV->lA a λg=>lB .i64 (gx e 1) g λg=>eA g (wA 1 a (gx e 1) λa=>kA f a λa=>cf 195 [a] f λa g=>xB 9 (Value.cells es) 1 1 [(0,a)] g λa g=>nD prog (Builtin.append_ #[31,31] 31 #[(gx e 0),a]) g λa g=>oA .i64 (gx e 1) (iv 1) λh=>d [a,h] g) (R (gx e 0) f)) [b,(iv 0)] c
def OS:=cf 330 [] w λb c=>cf 531 [b,a] c λa b=>hH .i64 (iv 0) a λa=>R a b
def yS:=lp (λb c d=>NV->lA a λe=>lB .i64 (gx c 0) e λe=>eA e (jn (λe=>wA 2 a (gx c 0) λf=>FA 0 f λf=>kA d f λf=>BB .i64 f (iv 5) λf=>eA f (e [tt] d) (wA 2 a (gx c 0) λa=>FA 0 a λa=>kA d a λa=>BB .i64 a (iv 6) λa=>e [a] d)) (λa e=>NV->eA (gx a 0) (R ff e) (oA .i64 (gx c 0) (iv 1) λa=>b [a] e))) (R tt d)) [(iv 0)] w
def PS:=PA (Value.cells (.agg #[(iv 0),sn])) 211 w λc d=>xA .eql a (.string ⟨#[76,67]⟩) λe=>eA e (oA .i64 b (iv 1) λe=>cf 532 [e] d λe f=>sD prog f 2 c e λe=>HA e 2 c λf=>R f e) (xA .eql a (.string ⟨#[83,109,76]⟩) λe=>eA e (cf 532 [(iv 2)] d λe f=>sD prog f 2 c e λe=>HA e 2 c λf=>R f e) (xA .eql a (.string ⟨#[66,68,50]⟩) λa=>eA a (cf 486 [b] d λa b=>cf 533 [a] b λa b=>sD prog b 2 c a λa=>HA a 2 c λb=>R b a) (cf 532 [(iv 1)] d λa b=>sD prog b 2 c a λa=>HA a 2 c λb=>R b a)))
def LS:=lp (λc d e=>NV->jn (λf=>lB .i64 (iv 0) (gx d 0) λg=>eA g (hH .i64 (gx d 1) (iv 4096) λg=>f [g] e) (f [ff] e)) (λe f=>NV->eA (gx e 0) (iY .i64 (gx d 1) a λa=>KB .i64 (gx d 0) (iv 1) λe=>c [e,a] f) (R (gx d 1) f))) [b,(iv 1)] w
def JP:=PA (Value.cells a) 211 w λa b=>xB 2 (Value.cells (iv 0)) 1 0 [] b λb c=>lp (λd e f=>NV->FA 0 a λg=>kA f g λg=>cf 534 [g] f λf g=>hH .i64 (gx e 1) f λf=>eA f (FA 1 a λa=>kA g a λa=>cf 535 [a,(gx e 1)] g λa f=>BB .i64 a (gx e 1) λa=>eA a (xB 2 (Value.cells (iv 0)) 1 1 [(0,(gx e 1))] f λa h=>nD prog (Builtin.append_ #[42,42] 42 #[(gx e 0),a]) h λa h=>oA .i64 (gx e 1) (iv 1) λi=>d [a,i] h) (oA .i64 (gx e 1) (iv 1) λa=>d [(gx e 0),a] f)) (R (gx e 0) g)) [b,(iv 0)] c
def MS:=PA (Value.cells a) 211 w λa c=>HA c 2 a λa=>cf 536 [a,b] c λa b=>YA a 0 λ_=>YA a 1 λ_=>YA a 2 λa=>VA a λa=>R a b
def eN:=lp (λc d e=>NV->lB .i64 (iv 0) (gx d 1) λf=>eA f (lA a λf=>hH .i64 f (gx d 0) λf=>eA f (R (iv (-1)) e) (KB .i64 (gx d 1) (iv 1) λf=>wA 2 a (gx d 0) λa=>FA 0 a λa=>kA e a λa=>cf 543 [a] e λa g=>oA .i64 f a λa=>oA .i64 (gx d 0) (iv 1) λf=>c [f,a] g)) (R (gx d 0) e)) [b,(iv 1)] w
def eO:=cf 549 [a] w λb c=>lp (λd e f=>NV->cf 220 [a,(.int .u8 38)] f λf g=>eA f (cf 549 [a] g λa f=>cf 221 [(iv 2),(gx e 0),a] f λa f=>d [a] f) (R (gx e 0) g)) [b] c
def GY:=cf 550 [a] w λb c=>lp (λd e f=>NV->cf 229 [a,(.int .u8 38)] f λf g=>eA f (cf 550 [a] g λa f=>cf 120 [(iv 2),(gx e 0),a] f λa f=>d [a] f) (R (gx e 0) g)) [b] c
def WD:=oA .i64 b (iv 1) λd=>lp (λe f g=>NV->lB .i64 (gx f 0) c λc=>eA c (lp (λc h i=>NV->jn (λj=>lB .i64 b (gx h 0) λb=>eA b (wA 1 a (gx h 0) λb=>kA i b λb=>KB .i64 (gx h 0) (iv 1) λk=>wA 1 a k λk=>kA i k λk=>cq 384 [b,k] i λb=> ∀k,bA i k->j [b] k) (∀b,bA i b->j [ff] b)) (λb i=>NV->eA (gx b 0) (KB .i64 (gx h 0) (iv 1) λb=>KB .i64 (gx h 0) (iv 1) λj=>wA 1 a j λj=>kA i j λj=>wA 1 a (gx h 0) λk=>kA i k λk=>wA 1 a (gx h 0) λl=> ∀m,bA i m->KC m l j λj=>wA 1 a b λa=> ∀b,bA j b->KC b a k λa=> ∀b,bA a b->KB .i64 (gx h 0) (iv 1) λa=>c [a] b) (oA .i64 (gx f 0) (iv 1) λa=>e [a] i))) [(gx f 0)] g) (R (.tuple #[]) g)) [d] w
def cF:=KB .i64 c b λc=>KB .i64 c (iv 1) λd=>O6 .i64 d (iv 2) λd=>lp (λe f g=>NV->hH .i64 (iv 0) (gx f 0) λh=>eA h (cf 551 [a,(gx f 0),c,b] g λ_ h=>KB .i64 (gx f 0) (iv 1) λf=>e [f] h) (KB .i64 c (iv 1) λc=>lp (λe f h=>NV->hH .i64 (iv 0) (gx f 0) λi=>eA i (oA .i64 b (gx f 0) λi=>oA .i64 b (gx f 0) λj=>wA 1 a j λj=>kA h j λj=>wA 1 a b λk=>kA h k λk=>wA 1 a b λl=> ∀m,bA h m->KC m l j λj=>wA 1 a i λi=> ∀l,bA j l->KC l i k λi=> ∀j,bA i j->cf 551 [a,(iv 0),(gx f 0),b] j λ_ a=>KB .i64 (gx f 0) (iv 1) λb=>e [b] a) (R (.tuple #[]) h)) [c] g)) [d] w
def VD:=KB .i64 c b λc=>hH .i64 (iv 8) c λd=>eA d (QF .u64 c λd=>PA (Value.cells (.int .u64 0)) 474 w λe f=>KC f e d λd=>cf 552 [c] d λd f=>O6 .i64 c (iv 4) λg=>iY .i64 g (iv 2) λg=>oA .i64 b g λg=>KB .i64 g (iv 1) λg=>lp (λh i j=>NV->O6 .i64 c (iv 4) λk=>iY .i64 k (iv 2) λk=>oA .i64 b k λk=>oA .i64 k (iv 1) λk=>hH .i64 (gx i 0) k λk=>eA k (cf 553 [e] j λe k=>KB .u64 d (.int .u64 1) λd=>OB bK .u64 e d λd=>QF .i64 d λd=>hH .i64 c d λe=>jn (λl=>eA e (KB .i64 d c λc=>l [c] k) (l [d] k)) (λc d=>NV->oA .i64 b (gx c 0) λe=>oA .i64 b (gx c 0) λb=>wA 1 a b λb=>kA d b λb=>wA 1 a (gx i 0) λc=>kA d c λc=>wA 1 a (gx i 0) λk=> ∀l,bA d l->KC l k b λb=>wA 1 a e λa=> ∀d,bA b d->KC d a c λa=> ∀b,bA a b->oA .i64 (gx i 0) (iv 1) λa=>h [a] b)) (R (.tuple #[]) j)) [g] f) (R (.tuple #[]) w)
def rE:=KB .i64 c b λc=>PA (Value.cells (iv 0)) 3 w λd e=>O6 .i64 c (iv 4) λf=>iY .i64 f (iv 1) λf=>oA .i64 b f λf=>O6 .i64 c (iv 4) λg=>iY .i64 g (iv 2) λg=>oA .i64 b g λg=>O6 .i64 c (iv 4) λh=>iY .i64 h (iv 3) λh=>oA .i64 b h λb=>hH .i64 (iv 8) c λh=>jn (λi=>eA h (hH .i64 (iv 50) c λc=>jn (λh=>eA c (cf 554 [a,f,d] e λc j=>cf 554 [a,g,d] j λj k=>cf 554 [a,b,d] k λk l=>h [c,j,k] l) (h [f,g,b] e)) (λb c=>NV->cf 555 [a,(gx b 0),(gx b 1),(gx b 2),d] c λa b=>i [a] b)) (i [g] e)) (λa b=>NV->kA b d λc=>BB .i64 c (iv 0) λd=>eA d (R (.tuple #[(gx a 0),(iv 1)]) b) (BB .i64 c (iv 12) λc=>eA c (R (.tuple #[(gx a 0),(iv 2)]) b) (R (.tuple #[(gx a 0),(iv 0)]) b)))
def jE:=KB .i64 c (iv 1) λc=>lp (λd e f=>NV->lB .i64 (gx e 0) (gx e 1) λg=>eA g (wA 1 a (gx e 1) λg=>kA f g λg=>wA 1 a (gx e 0) λh=>kA f h λh=>wA 1 a (gx e 0) λi=> ∀j,bA f j->KC j i g λg=>wA 1 a (gx e 1) λa=> ∀i,bA g i->KC i a h λa=> ∀g,bA a g->oA .i64 (gx e 0) (iv 1) λa=>KB .i64 (gx e 1) (iv 1) λe=>d [a,e] g) (R (.tuple #[]) f)) [b,c] w
def SC:=oA .i64 b (iv 1) λd=>lp (λe f g=>NV->lB .i64 (gx f 1) (iv 5) λh=>eA h (lp (λh i j=>NV->jn (λk=>lB .i64 (gx i 0) c λl=>eA l (wA 1 a (gx i 0) λl=>kA j l λl=>KB .i64 (gx i 0) (iv 1) λm=>wA 1 a m λm=>kA j m λm=>cq 384 [l,m] j λl=>VA l λl=> ∀m,bA j m->k [l] m) (∀l,bA j l->k [ff] l)) (λj k=>NV->eA (gx j 0) (oA .i64 (gx i 0) (iv 1) λj=>h [j] k) (BB .i64 (gx i 0) c λh=>eA h (R tt k) (KB .i64 c b λh=>lB .i64 h (iv 50) λh=>eA h (R ff k) (KB .i64 (gx i 0) (iv 1) λh=>KB .i64 (gx i 0) (iv 1) λj=>wA 1 a j λj=>kA k j λj=>wA 1 a (gx i 0) λl=>kA k l λl=>wA 1 a (gx i 0) λm=> ∀n,bA k n->KC n m j λj=>wA 1 a h λh=> ∀k,bA j k->KC k h l λh=> ∀j,bA h j->KB .i64 (gx i 0) b λb=>hH .i64 (iv 2) b λb=>jn (λh=>eA b (KB .i64 (gx i 0) (iv 1) λb=>lp (λk l m=>NV->hH .i64 (iv 1) (gx l 0) λn=>eA n (wA 1 a (gx l 0) λn=>kA m n λn=>KB .i64 (gx l 0) (iv 1) λo=>wA 1 a o λo=>kA m o λo=>cq 384 [n,o] m λn=>VA n λn=> ∀o,bA m o->eA n (h [] o) (KB .i64 (gx l 0) (iv 1) λn=>KB .i64 (gx l 0) (iv 1) λp=>wA 1 a p λp=>kA o p λp=>wA 1 a (gx l 0) λq=>kA o q λq=>wA 1 a (gx l 0) λr=> ∀s,bA o s->KC s r p λo=>wA 1 a n λn=> ∀p,bA o p->KC p n q λn=> ∀o,bA n o->KB .i64 (gx l 0) (iv 1) λl=>k [l] o)) (h [] m)) [b] j) (h [] j)) (λ_ b=>NV->KB .i64 c (gx i 0) λh=>hH .i64 (iv 2) h λh=>eA h (oA .i64 (gx i 0) (iv 1) λh=>lp (λj k l=>NV->lB .i64 (gx k 0) c λc=>eA c (wA 1 a (gx k 0) λc=>kA l c λc=>KB .i64 (gx k 0) (iv 1) λm=>wA 1 a m λm=>kA l m λm=>cq 384 [c,m] l λc=>VA c λc=> ∀m,bA l m->eA c (oA .i64 (gx f 1) (iv 1) λc=>e [(gx i 0),c] m) (KB .i64 (gx k 0) (iv 1) λc=>KB .i64 (gx k 0) (iv 1) λn=>wA 1 a n λn=>kA m n λn=>wA 1 a (gx k 0) λo=>kA m o λo=>wA 1 a (gx k 0) λp=> ∀q,bA m q->KC q p n λm=>wA 1 a c λa=> ∀c,bA m c->KC c a o λa=> ∀c,bA a c->oA .i64 (gx k 0) (iv 1) λa=>j [a] c)) (oA .i64 (gx f 1) (iv 1) λa=>e [(gx i 0),a] l)) [h] b) (oA .i64 (gx f 1) (iv 1) λa=>e [(gx i 0),a] b))))))) [(gx f 0)] g) (R ff g)) [d,(iv 0)] w
def ON:=jn (λc=>cf 556 [a] w λd e=>eA d (cf 556 [b] e λd f=>VA d λd=>eA d (c [tt] f) (xA .lss a b λd=>c [d] f)) (xA .lss a b λa=>c [a] e)) (λa b=>NV->R (gx a 0) b)
def QD:=wA 1 a d λe=>kA w e λe=>wA 1 a b λf=>kA w f λf=>wA 1 a b λg=> ∀h,bA w h->KC h g e λe=>wA 1 a d λd=> ∀g,bA e g->KC g d f λd=> ∀e,bA d e->oA .i64 b (iv 1) λd=>KB .i64 c (iv 1) λc=>lp (λf g h=>NV->lp (λi j k=>NV->jn (λl=>hH .i64 (gx j 0) (gx g 1) λm=>eA m (wA 1 a b λm=>kA k m λm=>wA 1 a (gx j 0) λn=>kA k n λn=>cq 384 [m,n] k λm=>VA m λm=> ∀n,bA k n->l [m] n) (∀m,bA k m->l [ff] m)) (λk l=>NV->eA (gx k 0) (oA .i64 (gx j 0) (iv 1) λk=>i [k] l) (lp (λi k m=>NV->jn (λn=>hH .i64 (gx j 0) (gx k 0) λo=>eA o (wA 1 a b λb=>kA m b λb=>wA 1 a (gx k 0) λo=>kA m o λo=>cq 384 [b,o] m λb=> ∀o,bA m o->n [b] o) (∀b,bA m b->n [ff] b)) (λb m=>NV->eA (gx b 0) (KB .i64 (gx k 0) (iv 1) λb=>i [b] m) (lB .i64 (gx k 0) (gx j 0) λb=>eA b (R (gx j 0) m) (wA 1 a (gx k 0) λb=>kA m b λb=>wA 1 a (gx j 0) λi=>kA m i λi=>wA 1 a (gx j 0) λn=> ∀o,bA m o->KC o n b λb=>wA 1 a (gx k 0) λa=> ∀m,bA b m->KC m a i λa=> ∀b,bA a b->oA .i64 (gx j 0) (iv 1) λa=>KB .i64 (gx k 0) (iv 1) λi=>f [a,i] b)))) [(gx g 1)] l))) [(gx g 0)] h) [d,c] e
def NE:=wA 1 a d λe=>kA w e λe=>wA 1 a b λf=>kA w f λf=>wA 1 a b λg=> ∀h,bA w h->KC h g e λe=>wA 1 a d λd=> ∀g,bA e g->KC g d f λd=> ∀e,bA d e->oA .i64 b (iv 1) λd=>KB .i64 c (iv 1) λc=>lp (λf g h=>NV->jn (λi=>hH .i64 (gx g 0) c λj=>eA j (wA 1 a (gx g 0) λj=>kA h j λj=>wA 1 a b λk=>kA h k λk=>cq 384 [j,k] h λj=> ∀k,bA h k->i [j] k) (∀j,bA h j->i [ff] j)) (λh i=>NV->eA (gx h 0) (oA .i64 (gx g 0) (iv 1) λh=>f [h] i) (lp (λf h j=>NV->jn (λk=>hH .i64 (gx g 0) (gx h 0) λl=>eA l (wA 1 a (gx h 0) λl=>kA j l λl=>wA 1 a b λm=>kA j m λm=>cq 384 [l,m] j λl=>VA l λl=> ∀m,bA j m->k [l] m) (∀l,bA j l->k [ff] l)) (λj k=>NV->eA (gx j 0) (KB .i64 (gx h 0) (iv 1) λj=>f [j] k) (lB .i64 (gx h 0) (gx g 0) λf=>eA f (wA 1 a b λf=>kA k f λf=>wA 1 a (gx h 0) λj=>kA k j λj=>wA 1 a (gx h 0) λl=> ∀m,bA k m->KC m l f λf=>wA 1 a b λl=> ∀m,bA f m->KC m l j λf=> ∀j,bA f j->R (.tuple #[(gx h 0),tt]) j) (wA 1 a (gx h 0) λf=>kA k f λf=>wA 1 a (gx g 0) λj=>kA k j λj=>wA 1 a (gx g 0) λl=> ∀m,bA k m->KC m l f λf=>wA 1 a (gx h 0) λk=> ∀l,bA f l->KC l k j λf=> ∀j,bA f j->oA .i64 (gx g 0) (iv 1) λf=>KB .i64 (gx h 0) (iv 1) λg=>lp (λh k l=>NV->lp (λm n o=>NV->jn (λp=>hH .i64 (gx n 0) (gx k 1) λq=>eA q (wA 1 a (gx n 0) λq=>kA o q λq=>wA 1 a b λr=>kA o r λr=>cq 384 [q,r] o λq=> ∀r,bA o r->p [q] r) (∀q,bA o q->p [ff] q)) (λo p=>NV->eA (gx o 0) (oA .i64 (gx n 0) (iv 1) λo=>m [o] p) (lp (λm o q=>NV->jn (λr=>hH .i64 (gx n 0) (gx o 0) λs=>eA s (wA 1 a (gx o 0) λs=>kA q s λs=>wA 1 a b λt=>kA q t λt=>cq 384 [s,t] q λs=>VA s λs=> ∀t,bA q t->r [s] t) (∀s,bA q s->r [ff] s)) (λq r=>NV->eA (gx q 0) (KB .i64 (gx o 0) (iv 1) λq=>m [q] r) (lB .i64 (gx o 0) (gx n 0) λm=>eA m (wA 1 a b λm=>kA r m λm=>wA 1 a (gx o 0) λq=>kA r q λq=>wA 1 a (gx o 0) λs=> ∀t,bA r t->KC t s m λm=>wA 1 a b λb=> ∀s,bA m s->KC s b q λb=> ∀m,bA b m->R (.tuple #[(gx o 0),ff]) m) (wA 1 a (gx o 0) λb=>kA r b λb=>wA 1 a (gx n 0) λm=>kA r m λm=>wA 1 a (gx n 0) λq=> ∀s,bA r s->KC s q b λb=>wA 1 a (gx o 0) λa=> ∀q,bA b q->KC q a m λa=> ∀b,bA a b->oA .i64 (gx n 0) (iv 1) λa=>KB .i64 (gx o 0) (iv 1) λm=>h [a,m] b)))) [(gx k 1)] p))) [(gx k 0)] l) [f,g] j)))) [c] i))) [d] e
def oO:=hH .u64 (.int .u64 4294967296) a λb=>jn (λc=>eA b (qU uM .u64 a (.int .u64 32) λb=>c [b,(iv 32)] w) (c [a,(iv 0)] w)) (λa b=>NV->hH .u64 (.int .u64 65536) (gx a 0) λc=>jn (λd=>eA c (qU uM .u64 (gx a 0) (.int .u64 16) λc=>oA .i64 (gx a 1) (iv 16) λe=>d [c,e] b) (d [(gx a 0),(gx a 1)] b)) (λa b=>NV->hH .u64 (.int .u64 256) (gx a 0) λc=>jn (λd=>eA c (qU uM .u64 (gx a 0) (.int .u64 8) λc=>oA .i64 (gx a 1) (iv 8) λe=>d [c,e] b) (d [(gx a 0),(gx a 1)] b)) (λa b=>NV->QF .u8 (gx a 0) λc=>sm (.string ⟨#[0,1,2,2,3,3,3,3,4,4,4,4,4,4,4,4,5,5,5,5,5,5,5,5,5,5,5,5,5,5,5,5,6,6,6,6,6,6,6,6,6,6,6,6,6,6,6,6,6,6,6,6,6,6,6,6,6,6,6,6,6,6,6,6,7,7,7,7,7,7,7,7,7,7,7,7,7,7,7,7,7,7,7,7,7,7,7,7,7,7,7,7,7,7,7,7,7,7,7,7,7,7,7,7,7,7,7,7,7,7,7,7,7,7,7,7,7,7,7,7,7,7,7,7,7,7,7,7,8,8,8,8,8,8,8,8,8,8,8,8,8,8,8,8,8,8,8,8,8,8,8,8,8,8,8,8,8,8,8,8,8,8,8,8,8,8,8,8,8,8,8,8,8,8,8,8,8,8,8,8,8,8,8,8,8,8,8,8,8,8,8,8,8,8,8,8,8,8,8,8,8,8,8,8,8,8,8,8,8,8,8,8,8,8,8,8,8,8,8,8,8,8,8,8,8,8,8,8,8,8,8,8,8,8,8,8,8,8,8,8,8,8,8,8,8,8,8,8,8,8,8,8,8,8,8,8]⟩) c λc=>QF .i64 c λc=>oA .i64 (gx a 1) c λa=>R a b)))
def T6:=cf 276 [a,b] w λc d=>cf 276 [a,b] d λd e=>xR prog e (Instr.sliceAt 27 a (some b) (some c) (some d)) λa=>R a e
def qE:=lB .i64 b (iv 0) λc=>jn (λd=>eA c (False) (d [] w)) (λ_ c=>NV->xR prog c (Builtin.cap_ #[27] 3 #[a]) λd=>lA a λe=>KB .i64 d e λd=>KB .i64 b d λb=>lB .i64 (iv 0) b λd=>eA d (xR prog c (Builtin.cap_ #[27] 3 #[a]) λd=>qP 2 a none (some d) λd=>nD prog (Builtin.append_ #[27,3] 27 #[d,b]) c λb d=>lA a λe=>qP 2 b none (some e) λb=>R b d) (R a c))
def DJ:=PA (Value.cells b) 203 w λb c=>FA 0 b λd=>kA c d λd=>FA 1 b λe=>kA c e λe=>xB 9 (Value.cells es) 1 1 [(0,e)] c λc e=>zB #[sn,sn] #[(0,1),(1,1)] [(0,d),(1,c)] λc=>cf 463 [c] e λc d=>IA a λe=>FA 0 e λe=>kA d e λe=>xR prog d (Instr.lookup 272 e c true) λe=>YA e 0 λf=>YA e 1 λe=>eA e (R f d) (HA d 2 b λb=>cf 567 [a,b] d λb d=>IA a λa=>FA 0 a λa=>kA d a λa=>Bs prog (Instr.mapUpdate 272 a c b) d λa=>R b a)
def OL:=PA (Value.cells a) 203 w λa c=>PA (Value.cells (.agg #[sn,es])) 203 c λc d=>FA 0 a λa=>kA d a λa=>zB #[sn,es] #[(0,1),(1,1)] [(0,a),(1,b)] λa=>sD prog d 2 c a λa=>HA a 2 c λb=>R b a
def uP:=PA (Value.cells a) 203 w λa c=>PA (Value.cells (.agg #[sn,es])) 203 c λc d=>FA 0 a λe=>kA d e λe=>FA 1 a λa=>kA d a λa=> ∀f,bA d f->cf 66 [e,b] f λb d=>bA f d/\zB #[sn,es] #[(0,1),(1,1)] [(0,b),(1,a)] λa=> ∀b,bA d b->sD prog b 2 c a λa=> ∀b,bA a b->HA b 2 c λa=>R a b
end
section
variable{a b c d:Value}{w:World}{R:RT}
theorem Jb(h:lV a w R):nA prog 356 #[a] w R:=cD (h:=(nn lf (nn (nn lf (.node (some [3]) lf lf)) (nn (nn lf (.node (some [4]) lf lf)) lf)))) Tryz.func356 h
theorem K8(h:QS a w R):nA prog 357 #[a] w R:=cD (h:=(nn lf (nn lf (nn lf (nn (nn lf (.node (some [5]) lf lf)) lf))))) Tryz.func357 h
theorem sG(h:VE a w R):nA prog 358 #[a] w R:=cD (h:=(nn lf (nn lf (nn (nn lf (nn lf (nn lf (nn (nn lf (.node (some [19]) lf lf)) (nn (nn lf (nn lf (nn (nn lf (.node (some [6,7]) lf lf)) lf))) lf))))) (nn lf (nn (nn lf (.node (some [10]) (nn lf (nn (nn lf (nn lf (nn (.reg [] (some [])) (nn lf (nn (.reg [] (some [])) (.reg [] (some []))))))) lf)) lf)) lf)))))) Tryz.func358 h
theorem zb(h:aV a w R):nA prog 359 #[a] w R:=cD (h:=(nn lf (nn lf (nn (nn lf (.node (some [3,4]) lf lf)) lf)))) Tryz.func359 h
theorem I8(h:OS a w R):nA prog 360 #[a] w R:=cD (h:=lf) Tryz.func360 h
theorem m8(h:yS a w R):nA prog 361 #[a] w R:=cD (h:=(nn lf (nn (nn lf (.node (some [3]) (nn lf (nn (nn (.reg [] (some [23])) lf) lf)) lf)) lf))) Tryz.func361 h
theorem J8(h:PS a b w R):nA prog 362 #[a,b] w R:=cD (h:=lf) Tryz.func362 h
theorem F8(h:LS a b w R):nA prog 363 #[a,b] w R:=cD (h:=(nn lf (nn lf (nn (.node (some [1,5]) (nn (nn (.reg [] (some [11])) lf) lf) lf) lf)))) Tryz.func363 h
theorem U4(h:JP a w R):nA prog 364 #[a] w R:=cD (h:=(nn lf (nn lf (nn (nn lf (.node (some [3,4]) lf lf)) lf)))) Tryz.func364 h
theorem G8(h:MS a b w R):nA prog 365 #[a,b] w R:=cD (h:=lf) Tryz.func365 h
theorem IV(h:eN a b w R):nA prog 373 #[a,b] w R:=cD (h:=(nn lf (nn lf (nn (.node (some [1,5]) lf lf) lf)))) Tryz.func373 h
theorem C1(h:eO a w R):nA prog 375 #[a] w R:=cD (h:=(nn lf (nn lf (nn (.node (some [3]) lf lf) lf)))) Tryz.func375 h
theorem se(h:GY a w R):nA prog 376 #[a] w R:=cD (h:=(nn lf (nn lf (nn (.node (some [3]) lf lf) lf)))) Tryz.func376 h
theorem lH(h:WD a b c w R):nA prog 378 #[a,b,c] w R:=cD (h:=(nn lf (.node (some [6]) (nn lf (nn (nn lf (.node (some [7]) (nn (nn (.reg [13] (some [30])) lf) lf) lf)) lf)) lf))) Tryz.func378 h
theorem vJ(h:cF a b c w R):nA prog 379 #[a,b,c] w R:=cD (h:=(nn lf (nn lf (nn lf (nn (nn lf (.node (some [9]) lf lf)) (nn lf (.node (some [10]) lf lf))))))) Tryz.func379 h
theorem kH(h:VD a b c w R):nA prog 380 #[a,b,c] w R:=cD (h:=(nn lf (nn lf (nn (nn lf (nn lf (nn lf (.node (some [9]) (nn lf (nn (nn lf (nn (nn lf (.node (some [10]) lf lf)) lf)) lf)) lf)))) lf)))) Tryz.func380 h
theorem MH(h:rE a b c w R):nA prog 381 #[a,b,c] w R:=cD (h:=(nn lf (nn lf (nn lf (nn lf (nn lf (nn lf (nn (nn lf (.node (some [11]) (nn (nn lf (.node (some [10,11,12]) lf lf)) lf) lf)) lf)))))))) Tryz.func381 h
theorem xH(h:jE a b c w R):nA prog 382 #[a,b,c] w R:=cD (h:=(nn lf (nn lf (.node (some [6,7]) lf lf)))) Tryz.func382 h
theorem EF(h:SC a b c w R):nA prog 383 #[a,b,c] w R:=cD (h:=(nn lf (nn lf (nn (nn lf (.node (some [7,8]) (nn lf (nn (nn (.node (some [7]) (nn (nn (.reg [13] (some [32])) lf) lf) lf) (nn lf (nn lf (nn lf (nn (nn lf (.node (some []) (nn lf (.node (some [9]) (nn lf (nn (nn (nn (.reg [9] none) lf) lf) lf)) lf)) lf)) (nn lf (nn (nn lf (.node (some [10]) (nn lf (nn (nn (nn (.reg [9] none) lf) lf) lf)) lf)) lf))))))) lf)) lf)) lf)))) Tryz.func383 h
theorem V0(h:ON a b w R):nA prog 384 #[a,b] w R:=cD (h:=(nn lf (nn (.reg [] (some [4])) lf))) Tryz.func384 h
theorem YG(h:QD a b c d w R):nA prog 385 #[a,b,c,d] w R:=cD (h:=(nn lf (nn lf (nn lf (nn (.node (some [9,10]) (nn (.node (some [9]) (nn (nn (.reg [12] (some [43])) lf) lf) lf) (nn (.node (some [10]) (nn (nn (.reg [12] (some [59])) lf) lf) lf) lf)) lf) lf))))) Tryz.func385 h
theorem SI(h:NE a b c d w R):nA prog 386 #[a,b,c,d] w R:=cD (h:=(nn lf (nn lf (nn lf (nn (.node (some [10]) (nn (nn (.reg [12] (some [43])) lf) lf) lf) (nn (.node (some [11]) (nn (nn (.reg [12] (some [60])) lf) lf) lf) (nn lf (nn lf (nn lf (nn lf (nn (.node (some [10,11]) (nn (.node (some [10]) (nn (nn (.reg [12] (some [112])) lf) lf) lf) (nn (.node (some [11]) (nn (nn (.reg [12] (some [129])) lf) lf) lf) lf)) lf) lf))))))))))) Tryz.func386 h
theorem M1(h:oO a w R):nA prog 388 #[a] w R:=cD (h:=(nn lf (nn (nn lf (.node (some [0,2]) lf lf)) (nn (nn lf (.node (some [0,2]) lf lf)) (nn (nn lf (.node (some [0,2]) lf lf)) lf))))) Tryz.func388 h
theorem Si(h:T6 a b w R):nA prog 392 #[a,b] w R:=cD (h:=lf) Tryz.func392 h
theorem LH(h:qE a b w R):nA prog 413 #[a,b] w R:=cD (h:=(nn lf (nn (nn lf (.node (some []) lf lf)) lf))) Tryz.func413 h
theorem KT(h:DJ a b w R):nA prog 414 #[a,b] w R:=cD (h:=lf) Tryz.func414 h
theorem sX(h:OL a b w R):nA prog 424 #[a,b] w R:=cD (h:=lf) Tryz.func424 h
theorem E4(h:uP a b w R):nA prog 425 #[a,b] w R:=cD (h:=lf) Tryz.func425 h
end
end Go.Proofs.YtoojmhgpadkhmaaGreatDoor
