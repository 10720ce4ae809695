/- The proof of FnDischargedCard, part 1 of 7. Conditions: none. -/
import Derived.Scope
import Derived.Still
import Derived.Below
import Derived.KernelRfl
import Derived.Deep.LoopGhost
import Derived.Laws.AppendOwn
import Derived.Laws.OwnMore
import Derived.Laws.MakeOwn
import Derived.IntWalk
import Derived.Maps.AppendAt
import Derived.Test.YtbfpohbmgjcjmaaGreatDoorRows
namespace Go.Vc
open Go.RowKit (Below)

def Ext (w w':World):Prop:=Below w.heap.size w w'
theorem Ext.refl (w:World):Ext w w:=Below.refl _ _
theorem Ext.trans {a b c:World} (h:Ext a b) (k:Ext b c):Ext a c:=Below.trans h (Below.mono k h.size)
theorem Ext.size {a b:World} (h:Ext a b):a.heap.size ≤ b.heap.size:=Below.size h
theorem Ext.cell {a b:World} (h:Ext a b) {p:Addr} {v:Value} (hp:a.cell? p = some v):b.cell? p = some v:=by
 rw [Below.cell h (World.block_lt_of_cell? a p hp)];exact hp
theorem Ext.alloc (w:World) (o:Obj):Ext w (w.alloc o):=Below.alloc (Below.refl _ _) (Nat.le_refl _) o
theorem Ext.drew (w:World):Ext w w.drew:=Below.drew (Below.refl _ _)

/-! ### The names of a frame -/
structure En where
 s:Nat
 v:Value
 k:Option (Option Bool)
abbrev Env:=List En
def look:Env → Nat → Value
 | [],_=>undef
 | e :: r,n=>bif Nat.beq e.s n then e.v else look r n
def known:Env → Nat → Option (Option Bool)
 | [],_=>none
 | e :: r,n=>bif Nat.beq e.s n then e.k else known r n
def ev (env:Env):Operand → Value
 | .tmp t=>look env t
 | .const v=>v
 | .global g=>.pointer (some ⟨g,0,none⟩)
 | .func f=>.func (.func f) #[] #[]
def kv:Option Bool → Value
 | some b=>.bool b
 | none=>undef
def evk (env:Env):Operand → Option (Option Bool)
 | .tmp t=>known env t
 | .const (.bool b)=>some (some b)
 | _=>none
def oev (env:Env):Option Operand → Option Value
 | none=>none
 | some x=>some (ev env x)
def EnvOk (env:Env):Prop:=∀ s x,known env s = some x → look env s = kv x

/-! ### What is asked of a value -/
def xPick (c a b:Value) (K:Value → Prop):Prop:=∃ t,c = .bool t ∧ K (if t then a else b)
def okNil:Value → Prop
 | .pointer (some _)=>True
 | .func (.func _) _ _=>True
 | _=>False
def xNil (x:Value) (K:Value → Prop):Prop:=okNil x ∧ K x
def xLd (w:World) (x:Value) (K:Value → Prop):Prop:=∃ ad v,x = .pointer (some ad) ∧ w.cell? ad = some v ∧ K v
def xLdA (w:World) (n:Nat) (x:Value) (K:Value → Prop):Prop:=∃ ad cs,x = .pointer (some ad) ∧ cs.size = n ∧ (∀ i,i < n → w.cell? (ad.add i) = cs[i]?) ∧ K (.agg cs)
def xFa (off:Nat) (x:Value) (K:Value → Prop):Prop:=∃ ad,x = .pointer (some ad) ∧ K (.pointer (some (ad.add off)))
def xFd (off:Nat) (x:Value) (K:Value → Prop):Prop:=∃ cs v,x = .agg cs ∧ cs[off]? = some v ∧ K v
def xFdA (off n:Nat) (x:Value) (K:Value → Prop):Prop:=∃ cs,x = .agg cs ∧ K (.agg (cs.extract off (off + n)))
def xIa (sz:Nat) (x i:Value) (K:Value → Prop):Prop:=∃ ad n c k j,x = .slice (some ad) n c ∧ i = .int k j ∧ 0 ≤ j ∧ j < n ∧ K (.pointer (some (ad.add (j.toNat * sz))))
def xIaA (len sz:Nat) (x i:Value) (K:Value → Prop):Prop:=∃ ad k j,x = .pointer (some ad) ∧ i = .int k j ∧ 0 ≤ j ∧ j < len ∧ K (.pointer (some (ad.add (j.toNat * sz))))
def xIs (x i:Value) (K:Value → Prop):Prop:=∃ s k j b,x = .string s ∧ i = .int k j ∧ 0 ≤ j ∧ s[j.toNat]? = some b ∧ K (.int .u8 (b.toNat:Nat))
def xAdd (k:IntKind) (x y:Value) (K:Value → Prop):Prop:=∃ a b,x = .int k a ∧ y = .int k b ∧ K (.int k (k.wrap (a + b)))
def xSub (k:IntKind) (x y:Value) (K:Value → Prop):Prop:=∃ a b,x = .int k a ∧ y = .int k b ∧ K (.int k (k.wrap (a - b)))
def xMul (k:IntKind) (x y:Value) (K:Value → Prop):Prop:=∃ a b,x = .int k a ∧ y = .int k b ∧ K (.int k (k.wrap (a * b)))
def xQuo (k:IntKind) (x y:Value) (K:Value → Prop):Prop:=∃ a b,x = .int k a ∧ y = .int k b ∧ b ≠ 0 ∧ K (.int k (k.wrap (a.tdiv b)))
def xRem (k:IntKind) (x y:Value) (K:Value → Prop):Prop:=∃ a b,x = .int k a ∧ y = .int k b ∧ b ≠ 0 ∧ K (.int k (a.tmod b))
def iAnd (k:IntKind) (a b:Int):Int:=k.wrap ((BitVec.ofInt k.bits a &&& BitVec.ofInt k.bits b).toNat:Nat)
def iOr (k:IntKind) (a b:Int):Int:=k.wrap ((BitVec.ofInt k.bits a ||| BitVec.ofInt k.bits b).toNat:Nat)
def iXor (k:IntKind) (a b:Int):Int:=k.wrap ((BitVec.ofInt k.bits a ^^^ BitVec.ofInt k.bits b).toNat:Nat)
def U7 (k:IntKind) (a b:Int):Int:=k.wrap ((BitVec.ofInt k.bits a &&& ~~~ BitVec.ofInt k.bits b).toNat:Nat)
def iShl (k:IntKind) (a b:Int):Int:=k.wrap (a * 2 ^ min b.toNat k.bits)
def iShr (k:IntKind) (a b:Int):Int:=a.fdiv (2 ^ min b.toNat k.bits)
def xBits (f:IntKind → Int → Int → Int) (k:IntKind) (x y:Value) (K:Value → Prop):Prop:=∃ a b,x = .int k a ∧ y = .int k b ∧ K (.int k (f k a b))
def xSh (f:IntKind → Int → Int → Int) (k:IntKind) (x y:Value) (K:Value → Prop):Prop:=∃ a yk b,x = .int k a ∧ y = .int yk b ∧ 0 ≤ b ∧ K (.int k (f k a b))
def xEq (k:IntKind) (x y:Value) (K:Value → Prop):Prop:=∃ a b,x = .int k a ∧ y = .int k b ∧ K (.bool (decide (a = b)))
def xNe (k:IntKind) (x y:Value) (K:Value → Prop):Prop:=∃ a b,x = .int k a ∧ y = .int k b ∧ K (.bool (decide (¬ a = b)))
def xLt (k:IntKind) (x y:Value) (K:Value → Prop):Prop:=∃ a b,x = .int k a ∧ y = .int k b ∧ K (.bool (decide (a < b)))
def xLe (k:IntKind) (x y:Value) (K:Value → Prop):Prop:=∃ a b,x = .int k a ∧ y = .int k b ∧ K (.bool (decide (a ≤ b)))
def yU (p:Bool) (x y:Value) (K:Value → Prop):Prop:=∃ a b,x = .bool a ∧ y = .bool b ∧ K (.bool (p == (a == b)))
def xStr (op:BinOp) (x y:Value) (K:Value → Prop):Prop:=∃ a b v,x = .string a ∧ y = .string b ∧ Op.stringOp op a b = .pure v ∧ K v
def J0:Value → Bool
 | .slice none _ _=>true
 | _=>false
def isSl:Value → Prop
 | .slice _ _ _=>True
 | _=>False
def xNilS (p:Bool) (x y:Value) (K:Value → Prop):Prop:=isSl x ∧ y = .slice none 0 0 ∧ K (.bool (p == J0 x))
def xNot (x:Value) (K:Value → Prop):Prop:=∃ b,x = .bool b ∧ K (.bool (!b))
def xConv (k:IntKind) (x:Value) (K:Value → Prop):Prop:=∃ k' a,x = .int k' a ∧ K (.int k (k.wrap a))
def bnd (d:Nat) (r:Nat):Option Value → Prop
 | none=>r = d
 | some v=>∃ k,v = .int k (r:Int)
def xSl (sz:Nat) (x:Value) (lo hi:Option Value) (K:Value → Prop):Prop:=
 ∃ a n c l h,x = .slice a n c ∧ bnd n h hi ∧ bnd 0 l lo ∧ l ≤ h ∧ h ≤ c ∧ K (.slice (if c = l then a else a.map (·.add (l * sz))) (h - l) (c - l))
def xSlS (x:Value) (lo hi:Option Value) (K:Value → Prop):Prop:=
 ∃ s l h,x = .string s ∧ bnd s.size h hi ∧ bnd 0 l lo ∧ l ≤ h ∧ h ≤ s.size ∧ K (.string (s.extract l h))
def xEx (x:Value) (i:Nat) (K:Value → Prop):Prop:=∃ vs v,x = .tuple vs ∧ vs[i]? = some v ∧ K v
def aR (z:Array Value) (places:Array (Nat × Nat)) (ps:List (Nat × Value)) (K:Value → Prop):Prop:=∃ cs,Instr.fill (places[·]?) z ps = some cs ∧ K (.agg cs)
def xLenS (x:Value) (K:Value → Prop):Prop:=∃ a n c,x = .slice a n c ∧ K (.int .i64 (n:Nat))
def xLenT (x:Value) (K:Value → Prop):Prop:=∃ s,x = .string s ∧ K (.int .i64 (s.size:Nat))
def xMax (x y:Value) (K:Value → Prop):Prop:=∃ k a k' b,x = .int k a ∧ y = .int k' b ∧ K (.int k (if b > a then b else a))
def xMin (x y:Value) (K:Value → Prop):Prop:=∃ k a k' b,x = .int k a ∧ y = .int k' b ∧ K (.int k (if b < a then b else a))
def xR (P:Program) (w:World) (s:Sem Value) (K:Value → Prop):Prop:=∃ v,(∀ w',Ext w w' → s.run P w' = .ok v w') ∧ K v

/-! ### What writes, makes memory or calls -/
def xNew (cs:Array Value) (e:TypeId) (w:World) (K:Value → World → Prop):Prop:=K (.pointer (some ⟨w.heap.size,0,none⟩)) (w.alloc (.cells cs e))
def aF:Value → Bool
 | .agg _ | .tuple _=>false
 | _=>true
def xSt (w:World) (a v:Value) (K:World → Prop):Prop:=∃ ad old,a = .pointer (some ad) ∧ w.cell? ad = some old ∧ w.frozen? ad = false ∧ aF v = true ∧ K (w.setCell ad v)
def xStA (P:Program) (w:World) (n:Nat) (a v:Value) (K:World → Prop):Prop:=
 ∃ ad w',a = .pointer (some ad) ∧ v.cells.size = n ∧ (storeCells ad v.cells.toList).run P w = .ok () w' ∧ K w'
def xMk (e:TypeId) (z:Array Value) (sz bytes:Nat) (l c:Value) (w:World) (K:Value → World → Prop):Prop:=
 ∃ k k' ln cn,l = .int k (ln:Nat) ∧ c = .int k' (cn:Nat) ∧ ln ≤ cn ∧ (cn:Int) ≤ 9223372036854775807 ∧ (bytes:Int) * cn ≤ 2 ^ 48 ∧
  K (.slice (some ⟨w.heap.size,0,none⟩) ln cn) (w.alloc (.cells ((Array.range (cn * sz)).map (fun i=>z[i % z.size]!)) e))
def xBs (e:TypeId) (z:Array Value) (sz n:Nat) (ps:List (Nat × Value)) (w:World) (K:Value → World → Prop):Prop:=
 ∃ cs,Instr.fill (fun i=>some (i * sz,sz)) ((Array.range (n * sz)).map (fun i=>z[i % z.size]!)) ps = some cs ∧
  K (.slice (some ⟨w.heap.size,0,none⟩) n n) (w.alloc (.cells cs e))
def xOp (P:Program) (s:Sem Value) (w:World) (K:Value → World → Prop):Prop:=∃ v w',s.run P w = .ok v w' ∧ K v w'
def xOpU (P:Program) (s:Sem Unit) (w:World) (K:World → Prop):Prop:=∃ w',s.run P w = .ok () w' ∧ K w'
def HasB (P : Program) (f : FuncId) : Prop := ∃ fn, P.funcs[f]? = some fn ∧ (fn.name == "runtime.NumGoroutine") = false ∧ fn.body.isNone = false
def Cal (P:Program) (f:FuncId) (args:Array Value) (w:World) (R:Value → World → Prop):Prop:=
 HasB P f ∧ Calls P f args w fun e w'=>∃ v,e = .returned v ∧ R v w'
def callT (P:Program) (fv:Value) (args:List Value) (w:World) (T:Value → World → Prop):Prop:=
 (∃ f first cap,fv = .func (.func f) first cap ∧ Cal P f (first ++ args.toArray ++ cap) w T) ∨
 ∃ f first cap v,fv = .func (.func f) first cap ∧ (callFunc f (first ++ args.toArray ++ cap)).run P w = .ok (.value v) w ∧ T v w
def callV (P:Program) (fv:Value) (args:List Value) (w:World) (R:Value → World → Prop):Prop:=∃ T,callT P fv args w T ∧ ∀ v w',T v w' → R v w'
def callQ (P:Program) (fv:Value) (args:List Value) (w:World) (K:Value → Prop):Prop:=
 ∃ v,(∀ w',Ext w w' → callV P fv args w' fun v' w''=>v' = v ∧ Ext w' w'') ∧ K v
theorem Cal.mono {P:Program} {f:FuncId} {args:Array Value} {w:World} {R R':Value → World → Prop} (h:Cal P f args w R) (hr:∀ v w',R v w' → R' v w'):Cal P f args w R':=
 ⟨h.1,h.2.mono fun _ _ ⟨v,he,hR⟩=>⟨v,he,hr _ _ hR⟩⟩
theorem callV.mono {P:Program} {fv:Value} {args:List Value} {w:World} {R R':Value → World → Prop} (h:callV P fv args w R) (hr:∀ v w',R v w' → R' v w'):callV P fv args w R':=
 let ⟨T,h1,h2⟩:=h;⟨T,h1,fun v w' ht=>hr v w' (h2 v w' ht)⟩

/-! ### Control -/
def cnd (v:Value) (A B:Prop):Prop:=∃ b,v = .bool b ∧ (b = true → A) ∧ (b = false → B)
def gx:List Value → Nat → Value
 | [],_=>undef
 | x :: _,0=>x
 | _ :: r,i + 1=>gx r i
theorem gx_eq:∀ (xs:List Value) (i:Nat),gx xs i = xs.getD i undef
 | [],_=>rfl
 | _ :: _,0=>rfl
 | _ :: r,i + 1=>by simpa [gx] using gx_eq r i
def jn (F:(List Value → World → Prop) → Prop) (K:List Value → World → Prop):Prop:=F K
def lp (body:(List Value → World → Prop) → List Value → World → Prop) (xs0:List Value) (w0:World):Prop:=
 ∃ I:Nat → List Value → World → Prop,(∃ m,I m xs0 w0) ∧ ∀ m xs w,I m xs w → body (fun xs' w'=>∃ m',m' < m ∧ I m' xs' w') xs w

/-! ### One operation -/
def isAgg? (P:Program) (t:TypeId):Option Bool:=
 match P.underlying t with
 | some (.struct _)=>some true
 | some (.array _ _)=>some true
 | some _=>some false
 | none=>none
def intD (op:BinOp) (k:IntKind) (x y:Value) (K:Value → Prop):Prop:=
 match op with
 | .add=>xAdd k x y K
 | .sub=>xSub k x y K
 | .mul=>xMul k x y K
 | .quo=>xQuo k x y K
 | .rem=>xRem k x y K
 | .and=>xBits iAnd k x y K
 | .or=>xBits iOr k x y K
 | .xor=>xBits iXor k x y K
 | .andNot=>xBits U7 k x y K
 | .shl=>xSh iShl k x y K
 | .shr=>xSh iShr k x y K
 | .eql=>xEq k x y K
 | .neq=>xNe k x y K
 | .lss=>xLt k x y K
 | .leq=>xLe k x y K
 | .gtr=>xLt k y x K
 | .geq=>xLe k y x K
def binD (P:Program) (w:World) (op:BinOp) (t:TypeId) (xo yo:Operand) (x y:Value) (K:Value → Prop):Prop:=
 match P.underlying t with
 | some (.int k)=>intD op k x y K
 | some .bool=>(match op with | .eql=>yU true x y K | .neq=>yU false x y K | _=>False)
 | some .string=>xStr op x y K
 | some (.slice _)=>(match op with | .eql=>xNilS true x y K | .neq=>xNilS false x y K | _=>False)
 | some _=>xR P w (do eqGuard op t xo yo x y;binOp op t x y) K
 | none=>False
def ldD (P:Program) (w:World) (t:TypeId) (x:Value) (K:Value → Prop):Prop:=
 match isAgg? P t,P.info? t with
 | some true,some i=>xLdA w i.size x K
 | some false,_=>xLd w x K
 | _,_=>False
def fldD (P:Program) (s:TypeId) (f:Nat) (K:Nat → Nat → Bool → Prop):Prop:=
 match P.underlying s with
 | some (.struct fs)=>(match fs[f]? with
  | some fl=>(match P.info? fl.type,isAgg? P fl.type with
   | some i,some g=>if Nat.beq i.size 0 then False else K fl.offset i.size g
   | _,_=>False)
  | none=>False)
 | _=>False
def elemD (P:Program) (t:TypeId) (S A:Nat → Nat → Prop) (T:Prop):Prop:=
 match P.underlying t with
 | some (.slice e)=>(match P.info? e with | some i=>S i.size i.bytes | none=>False)
 | some (.array len e)=>(match P.info? e with | some i=>A len i.size | none=>False)
 | some .string=>T
 | _=>False
def AA (P:Program):List Field → Option (List (Nat × Nat))
 | []=>some []
 | f :: r=>match P.info? f.type,AA P r with
  | some i,some l=>some ((f.offset,i.size) :: l)
  | _,_=>none
def EP (env:Env) (ps:Array (Nat × Operand)):List (Nat × Value):=ps.toList.map fun p=>(p.1,ev env p.2)
def evs (env:Env) (l:Array Operand):List Value:=l.toList.map (ev env)

def EX (o:Oper):Bool:=
 match o.op with
 | .move _ | .assign _ | .pick .. | .load .. | .nilCheck _ | .binOp .. | .unOp .. | .convert .. | .makeFunc .. | .slice .. | .fieldAddr .. | .field .. | .indexAddr .. | .index .. | .extract .. | .build .. | .lookup ..=>true
 | .call c=>(match c.callee with | .builtin .len | .builtin .cap | .builtin .max | .builtin .min=>true | _=>false)
 | _=>false
def softD (P:Program) (o:Oper) (env:Env) (w:World) (K:Value → Option (Option Bool) → Prop):Prop:=
 match o.op with
 | .move x=>K (ev env x) (evk env x)
 | .assign x=>K (ev env x) (evk env x)
 | .pick c a b=>(match evk env c with
  | some (some t)=>K (ev env (bif t then a else b)) (evk env (bif t then a else b))
  | some none=>False
  | none=>xPick (ev env c) (ev env a) (ev env b) fun v=>K v none)
 | .load t a=>ldD P w t (ev env a) fun v=>K v none
 | .nilCheck x=>xNil (ev env x) fun v=>K v none
 | .binOp op t x y _=>binD P w op t x y (ev env x) (ev env y) fun v=>K v none
 | .unOp op _ x=>(match op with
  | .not=>(match evk env x with | some (some b)=>K (.bool !b) (some (some !b)) | some none=>False | none=>xNot (ev env x) fun v=>K v none)
  | .neg=>xR P w (Op.unary .neg (ev env x)) fun v=>K v none
  | .xor=>xR P w (Op.unary .xor (ev env x)) fun v=>K v none
  | .plus=>False)
 | .convert s d x=>(match P.underlying s,P.underlying d with
  | some (.int _),some (.int k)=>xConv k (ev env x) fun v=>K v none
  | _,_=>xR P w (convert s d (ev env x)) fun v=>K v none)
 | .makeFunc fn first cap=>K (.func fn (evs env first).toArray (evs env cap).toArray) none
 | .slice t x lo hi mx=>(match mx with
  | none=>elemD P t (fun sz _=>xSl sz (ev env x) (oev env lo) (oev env hi) fun v=>K v none) (fun _ _=>xR P w (Instr.sliceAt t (ev env x) (oev env lo) (oev env hi) none) fun v=>K v none) (xSlS (ev env x) (oev env lo) (oev env hi) fun v=>K v none)
  | some _=>xR P w (Instr.sliceAt t (ev env x) (oev env lo) (oev env hi) (oev env mx)) fun v=>K v none)
 | .fieldAddr s x f=>fldD P s f fun off _ _=>xFa off (ev env x) fun v=>K v none
 | .field s x f=>fldD P s f fun off n g=>bif g then xFdA off n (ev env x) fun v=>K v none else xFd off (ev env x) fun v=>K v none
 | .indexAddr t x i=>elemD P t (fun sz _=>xIa sz (ev env x) (ev env i) fun v=>K v none) (fun len sz=>xIaA len sz (ev env x) (ev env i) fun v=>K v none) False
 | .index t x i=>elemD P t (fun _ _=>False) (fun _ _=>xR P w (Instr.index t (ev env x) (ev env i)) fun v=>K v none) (xIs (ev env x) (ev env i) fun v=>K v none)
 | .extract x i=>xEx (ev env x) i fun v=>K v none
 | .build t ps=>(match P.underlying t,P.info? t with
  | some (.struct fs),some ti=>(match ti.zero,AA P fs.toList with
   | some z,some l=>aR z.cells l.toArray (EP env ps) fun v=>K v none
   | _,_=>False)
  | _,_=>xR P w (Instr.build t (EP env ps).toArray) fun v=>K v none)
 | .lookup t x i ok=>xR P w (Instr.lookup t (ev env x) (ev env i) ok) fun v=>K v none
 | .call c=>(match c.callee with
  | .builtin .len=>(match (c.argTypes[0]?),evs env c.args with
   | some t,[x]=>(match P.underlying t with
    | some (.slice _)=>xLenS x fun v=>K v none
    | some .string=>xLenT x fun v=>K v none
    | _=>xR P w (Builtin.len_ c.argTypes o.type #[x]) fun v=>K v none)
   | _,_=>False)
  | .builtin .cap=>xR P w (Builtin.cap_ c.argTypes o.type (evs env c.args).toArray) fun v=>K v none
  | .builtin .max=>(match evs env c.args with
   | [x,y]=>xMax x y fun v=>K v none
   | _=>xR P w (Builtin.max_ c.argTypes o.type (evs env c.args).toArray) fun v=>K v none)
  | .builtin .min=>(match evs env c.args with
   | [x,y]=>xMin x y fun v=>K v none
   | _=>xR P w (Builtin.min_ c.argTypes o.type (evs env c.args).toArray) fun v=>K v none)
  | _=>False)
 | _=>False

def hardD (P:Program) (o:Oper) (env:Env) (w:World) (K:Value → World → Prop):Prop:=
 match o.op with
 | .box e x=>(match P.info? e with | some _=>xNew (ev env x).cells e w K | none=>False)
 | .alloc e=>(match P.info? e with | some i=>(match i.zero with | some z=>xNew z.cells e w K | none=>False) | none=>False)
 | .store t a v=>(match isAgg? P t,P.info? t with
  | some false,some i=>if Nat.beq i.size 1 then xSt w (ev env a) (ev env v) (K undef) else False
  | some true,some i=>xStA P w i.size (ev env a) (ev env v) (K undef)
  | _,_=>False)
 | .makeSlice t l c=>(match P.underlying t with
  | some (.slice e)=>(match P.info? e with
   | some i=>(match i.zero with
    | some z=>xMk e z.cells i.size i.bytes (ev env l) (ev env c) w K
    | none=>False)
   | none=>False)
  | _=>False)
 | .buildSlice t n ps=>(match P.underlying t with
  | some (.slice e)=>(match P.info? e with
   | some i=>(match i.zero with
    | some z=>if Nat.ble (n * i.size) 16777216 then xBs e z.cells i.size n (EP env ps) w K else False
    | none=>False)
   | none=>False)
  | _=>False)
 | .makeMap t r=>xOp P (Instr.makeMap t (oev env r)) w K
 | .mapUpdate t m k v=>xOpU P (Instr.mapUpdate t (ev env m) (ev env k) (ev env v)) w (K undef)
 | .insert t m k v=>xOpU P (Instr.mapUpdate t (ev env m) (ev env k) (ev env v)) w (K undef)
 | .mapEntry t m k=>xOp P (Instr.mapEntry t (ev env m) (ev env k)) w K
 | .entryStore t m s v=>xOpU P (Instr.entryStore t (ev env m) (ev env s) (ev env v)) w (K undef)
 | .range t x=>xOp P (Instr.range t (ev env x)) w K
 | .next it s=>xOp P (Instr.next (ev env it) s o.type) w K
 | .entry it=>xOp P (Instr.entry (ev env it)) w K
 | .convert s d x=>xOp P (convert s d (ev env x)) w K
 | .call c=>(match c.callee with
  | .value f=>callV P (ev env f) (evs env c.args) w K
  | .builtin .append=>xOp P (Builtin.append_ c.argTypes o.type (evs env c.args).toArray) w K
  | .builtin .copy=>xOp P (Builtin.copy_ c.argTypes o.type (evs env c.args).toArray) w K
  | .builtin .delete=>xOp P (Builtin.delete_ c.argTypes o.type (evs env c.args).toArray) w K
  | .builtin .clear=>xOp P (Builtin.clear_ c.argTypes o.type (evs env c.args).toArray) w K
  | .builtin .unsafeSliceData=>xOp P (Builtin.unsafeSliceData_ c.argTypes o.type (evs env c.args).toArray) w K
  | .builtin .unsafeString=>xOp P (Builtin.unsafeString_ c.argTypes o.type (evs env c.args).toArray) w K
  | _=>False)
 | _=>False
def b6 (P:Program) (o:Oper):Bool:=
 match o.op with
 | .convert _ d _=>(match P.underlying d with | some (.slice _)=>false | _=>true)
 | _=>EX o

end Go.Vc

namespace Go.Vc

theorem D3 {a:Act} {env:Env} (he:a.eval = ev env) (l:Array Operand):(evs env l).toArray = l.map a.eval:=by
 rw [he];apply Array.ext' ;simp [evs]
theorem OM {a:Act} {env:Env} (he:a.eval = ev env) (ps:Array (Nat × Operand)):(EP env ps).toArray = ps.map fun (i,x)=>(i,a.eval x):=by
 rw [he];apply Array.ext';simp [EP]
theorem N4 {a:Act} {env:Env} (he:a.eval = ev env) (x:Option Operand):oev env x = x.map a.eval:=by
 rw [he];cases x <;> rfl

def Yes (P:Program) (w:World) (s:Sem Value) (v:Value):Prop:=∀ w',Ext w w' → s.run P w' = .ok v w'

section
variable {P:Program} {w:World} {K:Value → Prop}

theorem bU {t:TypeId} {d:TypeDesc} (h:P.underlying t = some d) (w:World):(underlying t).run P w = .ok d w:=by simp [underlying,h]
theorem kE {t:TypeId} {i:TypeInfo} (h:P.info? t = some i) (w:World):(typeInfo t).run P w = .ok i w:=by simp [typeInfo,h]
theorem dX {t:TypeId} {i:TypeInfo} (h:P.info? t = some i) (w:World):(sizeOf t).run P w = .ok i.size w:=by simp [sizeOf,kE h]

theorem wL {t:TypeId} {b:Bool} (h:isAgg? P t = some b) (w:World):(isAgg t).run P w = .ok b w:=by
 unfold isAgg? at h
 cases hu:P.underlying t with
 | none=>simp [hu] at h
 | some d=>cases d <;> simp [hu] at h <;> subst h <;> simp [isAgg,bU hu]

theorem KJ {w:World} {ad:Addr} {cs:Array Value}:∀ (m i:Nat) (acc:Array Value),(∀ j,i ≤ j → j < i + m → w.cell? (ad.add j) = cs[j]?) → i + m ≤ cs.size →
  (loadCellsFrom ad i m acc).run P w = .ok (acc ++ cs.extract i (i + m)) w:=by
 intro m
 induction m with
 | zero=>intro i acc _ hm;simp [loadCellsFrom];omega
 | succ m ih=>
  intro i acc h hm
  have h0:w.cell? (ad.add i) = some cs[i]:=by rw [h i (Nat.le_refl _) (by omega)];simp
  simp only [loadCellsFrom,Sem.run_bind,run_load,h0,Result.andThen_ok]
  rw [ih (i + 1) _ (fun j h1 h2=>h j (by omega) (by omega)) (by omega)]
  congr 1
  apply Array.ext
  ·simp;omega
  ·intro k h1 h2
   simp only [Array.getElem_append,Array.size_push,Array.getElem_push,Array.getElem_extract]
   by_cases hk:k < acc.size
   ·simp [hk,Nat.lt_succ_of_lt hk]
   ·by_cases hk2:k = acc.size
    ·subst hk2;simp
    ·have:¬ k < acc.size + 1:=by omega
     simp only [this,hk,dif_neg,not_false_eq_true]
     congr 1;omega

theorem WL {w w':World} (h:Ext w w') {ad:Addr} {cs:Array Value} {n:Nat} (hn:cs.size = n) (hc:∀ i,i < n → w.cell? (ad.add i) = cs[i]?):∀ i,i < n → w'.cell? (ad.add i) = cs[i]?:=by
 intro i hi
 have h1:w.cell? (ad.add i) = some cs[i]:=by rw [hc i hi];simp
 rw [h.cell h1];simp

theorem OL {t:TypeId} {x:Value} (h:ldD P w t x K):∃ v,Yes P w (Instr.loadAt t x) v ∧ K v:=by
 unfold ldD at h
 split at h
 ·rename_i i hg hi
  obtain ⟨ad,cs,rfl,hn,hc,hk⟩:=h
  refine ⟨_,fun w' hw'=>?_,hk⟩
  simp only [Instr.loadAt,Instr.sureAddr,loadVar,Sem.run_bind,Sem.run_pure,Result.andThen_ok,wL hg,if_true,dX hi,loadCells]
  rw [KJ (cs:=cs) i.size 0 #[] (fun j _ hj=>WL hw' hn hc j (by omega)) (by omega)]
  simp [← hn]
 ·rename_i hg
  obtain ⟨ad,v,rfl,hc,hk⟩:=h
  refine ⟨v,fun w' hw'=>?_,hk⟩
  simp [Instr.loadAt,Instr.sureAddr,loadVar,wL hg,hw'.cell hc]
 ·exact h.elim

theorem VB {op:BinOp} {k:IntKind} {x y:Value} {t:TypeId} {xo yo:Operand} (h:intD op k x y K):
  ∃ v,(∀ w,(do eqGuard op t xo yo x y;binOp op t x y:Sem Value).run P w = .ok v w) ∧ K v:=by
 cases op
 case shl=>obtain ⟨a,yk,b,rfl,rfl,hb,hk⟩:=h;refine ⟨_,fun w=>?_,hk⟩;simp [eqGuard,binOp,Op.shift,show ¬ b < 0 by omega,iShl]
 case shr=>obtain ⟨a,yk,b,rfl,rfl,hb,hk⟩:=h;refine ⟨_,fun w=>?_,hk⟩;simp [eqGuard,binOp,Op.shift,show ¬ b < 0 by omega,iShr]
 case quo=>obtain ⟨a,b,rfl,rfl,hb,hk⟩:=h;refine ⟨_,fun w=>?_,hk⟩;simp [eqGuard,binOp,Op.intDiv,hb]
 case rem=>obtain ⟨a,b,rfl,rfl,hb,hk⟩:=h;refine ⟨_,fun w=>?_,hk⟩;simp [eqGuard,binOp,Op.intDiv,hb]
 case and=>obtain ⟨a,b,rfl,rfl,hk⟩:=h;refine ⟨_,fun w=>?_,hk⟩;simp [eqGuard,binOp,Op.intBits,iAnd]
 case or=>obtain ⟨a,b,rfl,rfl,hk⟩:=h;refine ⟨_,fun w=>?_,hk⟩;simp [eqGuard,binOp,Op.intBits,iOr]
 case xor=>obtain ⟨a,b,rfl,rfl,hk⟩:=h;refine ⟨_,fun w=>?_,hk⟩;simp [eqGuard,binOp,Op.intBits,iXor]
 case andNot=>obtain ⟨a,b,rfl,rfl,hk⟩:=h;refine ⟨_,fun w=>?_,hk⟩;simp [eqGuard,binOp,Op.intBits,U7]
 case eql=>obtain ⟨a,b,rfl,rfl,hk⟩:=h;refine ⟨_,fun w=>?_,hk⟩;simp [eqGuard,binOp,Op.intCmp];by_cases hab:a = b <;> simp [hab]
 case neq=>obtain ⟨a,b,rfl,rfl,hk⟩:=h;refine ⟨_,fun w=>?_,hk⟩;simp [eqGuard,binOp,Op.intCmp];by_cases hab:a = b <;> simp [hab]
 all_goals (obtain ⟨a,b,rfl,rfl,hk⟩:=h;refine ⟨_,fun w=>?_,hk⟩;simp [eqGuard,binOp,Op.intArith,Op.intCmp])

theorem TQ {t:TypeId} (hu:P.underlying t = some .bool) (d:Nat) (a b:Bool) (w:World):(Op.equalIn (d + 1) t (.bool a) (.bool b)).run P w = .ok (a == b) w:=by
 simp [Op.equalIn,bU hu]
theorem TL {t e:TypeId} (hu:P.underlying t = some (.slice e)) (d:Nat) (a:Option Addr) (n c:Nat) (w:World):(Op.equalIn (d + 1) t (.slice a n c) (.slice none 0 0)).run P w = .ok (J0 (.slice a n c)) w:=by
 cases a <;> simp [Op.equalIn,bU hu,J0]
theorem O2 {t:TypeId} (hu:P.underlying t = some .bool) (a b:Bool) (w:World):(Op.equal t (.bool a) (.bool b)).run P w = .ok (a == b) w:=TQ hu 9999 a b w
theorem OK {t e:TypeId} (hu:P.underlying t = some (.slice e)) (a:Option Addr) (n c:Nat) (w:World):(Op.equal t (.slice a n c) (.slice none 0 0)).run P w = .ok (J0 (.slice a n c)) w:=TL hu 9999 a n c w
theorem XO (op:BinOp) (t:TypeId) (a b:ByteArray):binOp op t (.string a) (.string b) = Op.stringOp op a b:=by cases op <;> rfl
theorem UE (op:BinOp) (t:TypeId) (xo yo:Operand) (a b:ByteArray) (w:World):(eqGuard op t xo yo (.string a) (.string b)).run P w = .ok () w:=by
 cases op <;> simp [eqGuard]
theorem JJ (op:BinOp) (t:TypeId) (xo yo:Operand) (a b:Bool) (w:World):(eqGuard op t xo yo (.bool a) (.bool b)).run P w = .ok () w:=by
 cases op <;> simp [eqGuard]
theorem PG (op:BinOp) (t:TypeId) (xo yo:Operand) (a b:Option Addr) (n c m d:Nat) (w:World):(eqGuard op t xo yo (.slice a n c) (.slice b m d)).run P w = .ok () w:=by
 cases op <;> simp [eqGuard]
theorem P8 (t:TypeId) (a b:Bool):binOp .eql t (.bool a) (.bool b) = (do pure (.bool (← Op.equal t (.bool a) (.bool b)))):=rfl
theorem PX (t:TypeId) (a b:Bool):binOp .neq t (.bool a) (.bool b) = (do pure (.bool (!(← Op.equal t (.bool a) (.bool b))))):=rfl
theorem SR (t:TypeId) (a b:Option Addr) (n c m d:Nat):binOp .eql t (.slice a n c) (.slice b m d) = (do pure (.bool (← Op.equal t (.slice a n c) (.slice b m d)))):=rfl
theorem TY (t:TypeId) (a b:Option Addr) (n c m d:Nat):binOp .neq t (.slice a n c) (.slice b m d) = (do pure (.bool (!(← Op.equal t (.slice a n c) (.slice b m d))))):=rfl

theorem ZH {op:BinOp} {x y:Value} {t:TypeId} {xo yo:Operand} (h:binD P w op t xo yo x y K):
  ∃ v,Yes P w (do eqGuard op t xo yo x y;binOp op t x y) v ∧ K v:=by
 unfold binD at h
 split at h
 ·obtain ⟨v,h1,h2⟩:=VB h;exact ⟨v,fun w' _=>h1 w',h2⟩
 ·rename_i hu
  split at h
  ·obtain ⟨a,b,rfl,rfl,hk⟩:=h;refine ⟨_,fun w' _=>?_,hk⟩
   rw [P8]
   simp only [Sem.run_bind,Sem.run_pure,Result.andThen_ok,JJ,O2 hu]
   simp
  ·obtain ⟨a,b,rfl,rfl,hk⟩:=h;refine ⟨_,fun w' _=>?_,hk⟩
   rw [PX]
   simp only [Sem.run_bind,Sem.run_pure,Result.andThen_ok,JJ,O2 hu]
   simp
  ·exact h.elim
 ·rename_i hu
  obtain ⟨a,b,v,rfl,rfl,hv,hk⟩:=h
  refine ⟨v,fun w' _=>?_,hk⟩
  rw [XO,hv]
  simp only [Sem.run_bind,Sem.run_pure',Result.andThen_ok,UE]
 ·rename_i e hu
  split at h
  ·obtain ⟨hx,rfl,hk⟩:=h;refine ⟨_,fun w' _=>?_,hk⟩
   cases x <;> simp only [isSl] at hx
   rw [SR]
   simp only [Sem.run_bind,Sem.run_pure,Result.andThen_ok,PG,OK hu]
   simp
  ·obtain ⟨hx,rfl,hk⟩:=h;refine ⟨_,fun w' _=>?_,hk⟩
   cases x <;> simp only [isSl] at hx
   rw [TY]
   simp only [Sem.run_bind,Sem.run_pure,Result.andThen_ok,PG,OK hu]
   simp
  ·exact h.elim
 ·obtain ⟨v,hv,hk⟩:=h;exact ⟨v,hv,hk⟩
 ·exact h.elim

theorem PV {s:TypeId} {f:Nat} {K:Nat → Nat → Bool → Prop} (h:fldD P s f K):∃ fs fl i g,P.underlying s = some (.struct fs) ∧ fs[f]? = some fl ∧ P.info? fl.type = some i ∧ isAgg? P fl.type = some g ∧ i.size ≠ 0 ∧ K fl.offset i.size g:=by
 unfold fldD at h
 split at h
 ·rename_i fs hu
  split at h
  ·rename_i fl hf
   split at h
   ·rename_i i g hi hg
    split at h
    ·exact h.elim
    ·rename_i h0
     exact ⟨fs,fl,i,g,hu,hf,hi,hg,fun e=>h0 (by simp [e]),h⟩
   ·exact h.elim
  ·exact h.elim
 ·exact h.elim

theorem U4 {d r:Nat} {o:Option Value} (h:bnd d r o):(o = none ∧ r = d) ∨ ∃ k,o = some (.int k (r:Int)):=by
 cases o with
 | none=>exact .inl ⟨rfl,h⟩
 | some v=>obtain ⟨k,rfl⟩:=h;exact .inr ⟨k,rfl⟩

theorem BW {n c l h:Nat} {lo hi:Option Value} (isS:Bool) (h1:bnd n h hi) (h2:bnd 0 l lo) (h3:l ≤ h) (h4:h ≤ c) (w:World):
  (Instr.sliceBounds isS n c lo hi none).run P w = .ok (l,h,c) w:=by
 unfold Instr.sliceBounds
 rcases U4 h1 with ⟨rfl,rfl⟩ | ⟨k,rfl⟩ <;> rcases U4 h2 with ⟨rfl,rfl⟩ | ⟨k',rfl⟩ <;>
  simp [Instr.sliceBound,asIntOf,h3,h4]

theorem I6:∀ (l:List Field) {r:List (Nat × Nat)},AA P l = some r → ∀ w,(l.mapM (m:=Sem) fun f=>do pure (f.offset,← sizeOf f.type)).run P w = .ok r w
 | [],r,h,w=>by simp [AA] at h;subst h;simp
 | f :: l,r,h,w=>by
  unfold AA at h
  split at h
  ·rename_i i r' hi hr
   cases h
   have ih:=I6 l hr w
   simp only [bind_pure_comp] at ih
   simp [List.mapM_cons,dX hi,ih]
  ·cases h

theorem U8 {o:Oper} {env:Env} {a:Act} {K:Value → Option (Option Bool) → Prop} (he:a.eval = ev env) (hk:EnvOk env) (hs:b6 P o = true) (h:softD P o env w K):
  ∃ v kb,(∀ w',Ext w w' → (execOp a.eval o).run P w' = .ok (.value v) w') ∧ K v kb ∧ (∀ b,kb = some b → v = kv b):=by
 have evb:∀ x b,evk env x = some b → ev env x = kv b:=by
  intro x b hx
  cases x with
  | tmp t=>exact hk t b hx
  | const v=>cases v <;> simp [evk] at hx;subst hx;rfl
  | _=>simp [evk] at hx
 -- a step that yields by a reckoning of its own
 have fin:∀ (s:Sem Value),execOp a.eval o = (do pure (.value (← s))) → (∃ v,Yes P w s v ∧ K v none) → ∃ v kb,(∀ w',Ext w w' → (execOp a.eval o).run P w' = .ok (.value v) w') ∧ K v kb ∧ (∀ b,kb = some b → v = kv b):=by
  intro s hs ⟨v,hv,hK⟩
  exact ⟨v,none,fun w' hw'=>by rw [hs];simp [hv w' hw'],hK,fun b hb=>by cases hb⟩
 obtain ⟨dst,op,type,pos,after,guard⟩:=o
 cases op <;> (try (simp [b6,EX] at hs;done))
 case move x=>exact ⟨_,_,fun w' _=>by simp [execOp,he],h,fun b hb=>evb x b hb⟩
 case assign x=>exact ⟨_,_,fun w' _=>by simp [execOp,he],h,fun b hb=>evb x b hb⟩
 case pick c x y=>
  simp only [softD] at h
  split at h
  ·rename_i t ht
   refine ⟨_,_,fun w' _=>?_,h,fun b hb=>?_⟩
   ·simp only [execOp,he,evb c (some t) ht,kv];cases t <;> simp [asBool]
   ·exact evb _ b hb
  ·exact h.elim
  ·obtain ⟨t,ht,hK⟩:=h
   refine ⟨_,none,fun w' _=>?_,hK,fun b hb=>by cases hb⟩
   simp only [execOp,he,ht];cases t <;> simp [asBool]
 case load t x=>exact fin _ (by simp only [execOp];rfl) (by rw [he];exact OL h)
 case nilCheck x=>
  obtain ⟨hx,hK⟩:=h
  refine ⟨_,none,fun w' _=>?_,hK,fun b hb=>by cases hb⟩
  simp only [execOp,he]
  generalize ev env x = v at *
  unfold okNil at hx
  split at hx <;> first | exact hx.elim | simp
 case binOp op t x y yt=>exact fin _ (by simp only [execOp];rfl) (by rw [he];exact ZH h)
 case unOp op t x=>
  simp only [softD] at h
  cases op <;> simp only [] at h
  ·exact fin _ (by simp only [execOp];rfl) (by rw [he];exact h)
  ·exact fin _ (by simp only [execOp];rfl) (by rw [he];exact h)
  ·split at h
   ·rename_i b hb
    exact ⟨_,_,fun w' _=>by simp [execOp,he,evb x (some b) hb,Op.unary,kv],h,fun b' hb'=>by cases hb';rfl⟩
   ·exact h.elim
   ·obtain ⟨b,hb,hK⟩:=h
    exact ⟨_,_,fun w' _=>by simp [execOp,he,hb,Op.unary],hK,fun b' hb'=>by cases hb'⟩
 case convert s d x=>
  simp only [softD] at h
  split at h
  ·rename_i k0 k hs hd
   obtain ⟨k',n,hx,hK⟩:=h
   refine fin _ (by simp only [execOp];rfl) ⟨_,fun w' _=>?_,hK⟩
   simp [he,hx,convert,bU hs,bU hd,Conv.intToInt]
  ·exact fin _ (by simp only [execOp];rfl) (by rw [he];exact h)
 case makeFunc fn first cap=>
  refine ⟨_,_,fun w' _=>?_,h,fun b hb=>by cases hb⟩
  simp [execOp,Instr.makeFunc,D3 he]
 case slice t x lo hi' mx=>
  simp only [softD] at h
  refine fin _ (by simp only [execOp];rfl) ?_
  rw [← N4 he,← N4 he,← N4 he,he]
  cases mx with
  | some m=>exact h
  | none=>
   simp only [elemD] at h
   split at h
   ·rename_i e hu
    split at h
    ·rename_i i hi
     obtain ⟨ad,n,c,l,hh,hx,h1,h2,h3,h4,hK⟩:=h
     refine ⟨_,fun w' _=>?_,hK⟩
     rw [hx,show oev env none = none from rfl]
     generalize oev env lo = lo' at *
     generalize oev env hi' = hi2 at *
     simp [Instr.sliceAt,Instr.slice,bU hu,BW true h1 h2 h3 h4,dX hi]
    ·exact h.elim
   ·rename_i len e hu
    split at h
    ·exact h
    ·exact h.elim
   ·rename_i hu
    obtain ⟨s,l,hh,hx,h1,h2,h3,h4,hK⟩:=h
    refine ⟨_,fun w' _=>?_,hK⟩
    rw [hx,show oev env none = none from rfl]
    generalize oev env lo = lo' at *
    generalize oev env hi' = hi2 at *
    simp [Instr.sliceAt,Instr.slice,bU hu,BW false h1 h2 h3 h4]
   ·exact h.elim
 case fieldAddr s x f=>
  simp only [softD] at h
  obtain ⟨fs,fl,i,g,hu,hf,hi,hg,h0,ad,hx,hK⟩:=PV h
  refine fin _ (by simp only [execOp];rfl) ⟨_,fun w' _=>?_,hK⟩
  simp [he,hx,Instr.fieldAt,bU hu,hf,Instr.sureAddr,fieldPlace,dX hi,h0]
 case field s x f=>
  simp only [softD] at h
  obtain ⟨fs,fl,i,g,hu,hf,hi,hg,h0,hc⟩:=PV h
  refine fin _ (by simp only [execOp];rfl) ?_
  cases g
  ·obtain ⟨cs,v,hx,hv,hK⟩:=hc
   refine ⟨_,fun w' _=>?_,hK⟩
   simp [he,hx,Instr.field,bU hu,hf,asAgg,part,wL hg,hv]
  ·obtain ⟨cs,hx,hK⟩:=hc
   refine ⟨_,fun w' _=>?_,hK⟩
   simp [he,hx,Instr.field,bU hu,hf,asAgg,part,wL hg,dX hi]
 case indexAddr t x i=>
  simp only [softD,elemD] at h
  refine fin _ (by simp only [execOp];rfl) ?_
  rw [he]
  split at h
  ·rename_i e hu
   split at h
   ·rename_i ti hi
    obtain ⟨ad,n,c,k,j,hx,hj,h1,h2,hK⟩:=h
    refine ⟨_,fun w' _=>?_,hK⟩
    rw [hx,hj]
    simp [Instr.indexAt,bU hu,asIntOf,dX hi,h1,h2]
   ·exact h.elim
  ·rename_i len e hu
   split at h
   ·rename_i ti hi
    obtain ⟨ad,k,j,hx,hj,h1,h2,hK⟩:=h
    refine ⟨_,fun w' _=>?_,hK⟩
    rw [hx,hj]
    simp [Instr.indexAt,bU hu,asIntOf,Instr.sureAddr,dX hi,h1,h2]
   ·exact h.elim
  ·exact h.elim
  ·exact h.elim
 case index t x i=>
  simp only [softD,elemD] at h
  refine fin _ (by simp only [execOp];rfl) ?_
  rw [he]
  split at h
  ·split at h <;> exact h.elim
  ·split at h
   ·exact h
   ·exact h.elim
  ·rename_i hu
   obtain ⟨s,k,j,b,hx,hj,h1,h2,hK⟩:=h
   refine ⟨_,fun w' _=>?_,hK⟩
   rw [hx,hj]
   simp [Instr.index,bU hu,asIntOf,h1,h2]
  ·exact h.elim
 case extract x i=>
  obtain ⟨vs,v,hx,hv,hK⟩:=h
  refine fin _ (by simp only [execOp];rfl) ⟨_,fun w' _=>?_,hK⟩
  simp [he,hx,Instr.extract,hv]
 case build t ps=>
  simp only [softD] at h
  refine fin _ (by simp only [execOp];rfl) ?_
  rw [← OM he]
  split at h
  ·rename_i fs ti hu hi
   split at h
   ·rename_i z l hz hl
    obtain ⟨cs,hcs,hK⟩:=h
    refine ⟨_,fun w' _=>?_,hK⟩
    have hp:=I6 fs.toList hl w'
    have hm:(fs.mapM (m:=Sem) fun f=>do pure (f.offset,← sizeOf f.type)).run P w' = .ok l.toArray w':=by
     rw [← Array.toArray_toList (xs:=fs)]
     rw [List.mapM_toArray]
     simp only [Sem.run_map,hp,Result.andThen_ok]
    simp only [bind_pure_comp] at hm
    simp [Instr.build,zeroValue,kE hi,hz,bU hu,hm]
    simp only [List.getElem?_toArray] at hcs
    simp [hcs]
   ·exact h.elim
  ·exact h
 case lookup t x i ok=>exact fin _ (by simp only [execOp];rfl) (by rw [he];exact h)
 case call c=>
  obtain ⟨callee,args,argTypes⟩:=c
  cases callee <;> (try (simp [b6,EX] at hs;done))
  rename_i b
  have ex:∀ s,(∀ cs,builtin b argTypes type cs (args.map a.eval) = (do pure (.value (← s)))) → execOp a.eval ⟨dst,.call ⟨.builtin b,args,argTypes⟩,type,pos,after,guard⟩ = (do pure (.value (← s))):=by
   intro s hs
   simp only [execOp,resolve]
   exact hs _
  cases b <;> (try (simp [b6,EX] at hs;done))
  all_goals (simp only [softD] at h;refine fin _ (ex _ fun _=>rfl) ?_;rw [← D3 he])
  ·exact h
  ·split at h
   ·rename_i t x ht hx
    rw [hx]
    split at h
    ·rename_i e hu
     obtain ⟨ad,n,c,rfl,hK⟩:=h
     refine ⟨_,fun w' _=>?_,hK⟩
     simp [Builtin.len_,ht,bU hu,goInt]
    ·rename_i hu
     obtain ⟨s,rfl,hK⟩:=h
     refine ⟨_,fun w' _=>?_,hK⟩
     simp [Builtin.len_,ht,bU hu,goInt]
    ·exact h
   ·exact h.elim
  ·split at h
   ·rename_i x y hx
    obtain ⟨k,m,k',n,rfl,rfl,hK⟩:=h
    refine ⟨_,fun w' _=>?_,hK⟩
    simp [hx,Builtin.max_,Builtin.max2]
   ·exact h
  ·split at h
   ·rename_i x y hx
    obtain ⟨k,m,k',n,rfl,rfl,hK⟩:=h
    refine ⟨_,fun w' _=>?_,hK⟩
    simp [hx,Builtin.min_,Builtin.min2]
   ·exact h

end
end Go.Vc

namespace Go.Vc
section
variable {P:Program} {w:World}

theorem kJ {v:Value} (h:aF v = true):v.oneCell' = true:=by cases v <;> first | rfl | (simp [aF] at h)
theorem aH {v:Value} (h:aF v = true):v.cells = #[v]:=by cases v <;> first | rfl | (simp [aF] at h)

theorem SW {f:FuncId} {args:Array Value} (h:HasB P f) (w:World):(callFunc f args).run P w = .ok (.enter f args) w:=by
 obtain ⟨fn,hf,hn,hb⟩:=h
 have hn' : ¬ fn.name = "runtime.NumGoroutine" := by simpa using hn
 have hb':¬ fn.body = none:=by intro e;simp [e] at hb
 simp [callFunc,hf,hn',hb']

theorem FW {fv:Value} {args:List Value} {f:FuncId} {first cap:Array Value} (hv:fv = .func (.func f) first cap) (h:HasB P f) (w:World):
  (do let d ← Deferred.ofValue fv args.toArray;invoke d.target d.args:Sem Next).run P w = .ok (.enter f (first ++ args.toArray ++ cap)) w:=by
 subst hv
 simp [Deferred.ofValue,invoke,SW h]

theorem CM {fv:Value} {args:List Value} {f:FuncId} {first cap:Array Value} (hv:fv = .func (.func f) first cap) (w:World):
  (do let d ← Deferred.ofValue fv args.toArray;invoke d.target d.args:Sem Next).run P w = (callFunc f (first ++ args.toArray ++ cap)).run P w:=by
 subst hv
 simp [Deferred.ofValue,invoke]

def Nx (o:Oper) (a:Act) (K:Value → World → Prop):Act → World → Prop:=fun a' w'=>∃ v,a' = a.put o.dst v ∧ K v w'

theorem WG {o:Oper} {a:Act} {fv:Value} {args:List Value} {K:Value → World → Prop} {Q:Exit → Act → World → Prop}
  (hx:execOp a.eval o = (do let d ← Deferred.ofValue fv args.toArray;invoke d.target d.args)) (h:callV P fv args w K):o.wp P a w (Nx o a K) Q:=by
 unfold Oper.wp
 obtain ⟨T,⟨f,first,cap,hv,hb,hc⟩ | ⟨f,first,cap,v,hv,hr,hK⟩,hT⟩:=h
 ·rw [hx,FW hv hb,Oper.upon_enter]
  refine hc.mono fun e w' ⟨v,he,hK⟩=>?_
  subst he
  exact ⟨v,rfl,hT _ _ hK⟩
 ·rw [hx,CM hv,hr,Oper.upon_value]
  exact ⟨v,rfl,hT _ _ hK⟩


theorem P4 {o:Oper} {env:Env} {a:Act} {K:Value → World → Prop} {Q:Exit → Act → World → Prop} (he:a.eval = ev env) (h:hardD P o env w K):o.wp P a w (Nx o a K) Q:=by
 have finV:∀ (s:Sem Value),execOp a.eval o = (do pure (.value (← s))) → (∃ v w',s.run P w = .ok v w' ∧ K v w') → o.wp P a w (Nx o a K) Q:=by
  intro s hs ⟨v,w',hv,hK⟩
  unfold Oper.wp
  rw [hs]
  simp only [Sem.run_bind,Sem.run_pure,hv,Result.andThen_ok,Oper.upon_value]
  exact ⟨v,rfl,hK⟩
 have finU:∀ (s:Sem Unit),execOp a.eval o = (do s;pure .skip) → (∃ w',s.run P w = .ok () w' ∧ K undef w') → o.wp P a w (Nx o a K) Q:=by
  intro s hs ⟨w',hv,hK⟩
  unfold Oper.wp
  rw [hs]
  simp only [Sem.run_bind,Sem.run_pure,hv,Result.andThen_ok,Oper.upon_skip]
  exact ⟨undef,rfl,hK⟩
 obtain ⟨dst,op,type,pos,after,guard⟩:=o
 cases op <;> first | exact h.elim | skip
 case alloc e=>
  simp only [hardD] at h
  split at h
  ·rename_i i hi
   split at h
   ·rename_i z hz
    refine finV _ (by simp only [execOp];rfl) ⟨_,_,?_,h⟩
    simp [Instr.alloc,zeroValue,kE hi,hz,newVar,newRow]
   ·exact h.elim
  ·exact h.elim
 case box e x=>
  simp only [hardD] at h
  split at h
  ·refine finV _ (by simp only [execOp];rfl) ⟨_,_,?_,h⟩
   simp [Instr.box,newVar,newRow,he]
  ·exact h.elim
 case store t x y=>
  simp only [hardD] at h
  refine finU _ (by simp only [execOp];rfl) ?_
  rw [he]
  split at h
  ·rename_i i hg hi
   split at h
   ·rename_i h1
    obtain ⟨ad,old,hx,hc,hf,hy,hK⟩:=h
    refine ⟨_,?_,hK⟩
    have h1':i.size = 1:=by simpa using h1
    simp [Instr.storeAt,Instr.sureAddr,hx,storeVar,aH hy,dX hi,h1',storeCells,run_store P w _ _ _ (kJ hy),hc,hf,Addr.add]
   ·exact h.elim
  ·rename_i i hg hi
   obtain ⟨ad,w',hx,hn,hs,hK⟩:=h
   refine ⟨w',?_,hK⟩
   simp [Instr.storeAt,Instr.sureAddr,hx,storeVar,dX hi,hn,hs]
  ·exact h.elim
 case makeSlice t l c=>
  simp only [hardD] at h
  split at h
  ·rename_i e hu
   split at h
   ·rename_i i hi
    split at h
    ·rename_i z hz
     obtain ⟨k,k',ln,cn,hl,hc,h1,h2,h3,hK⟩:=h
     refine finV _ (by simp only [execOp];rfl) ⟨_,_,?_,hK⟩
     have w1:IntKind.i64.wrap (ln:Int) = ln:=by rw [IntKind.wrap_i64];omega
     have w2:IntKind.i64.wrap (cn:Int) = cn:=by rw [IntKind.wrap_i64];omega
     rw [he,hl,hc]
     have n1:¬ ((cn:Int) < 0):=by omega
     have n2:¬ ((ln:Int) < 0):=by omega
     have n3:¬ ((ln:Int) > cn):=by omega
     have n4:¬ ((i.bytes:Int) * cn > 2 ^ 48):=by omega
     simp only [Instr.makeSlice,Sem.run_bind,bU hu,Result.andThen_ok,asInt,asIntOf,Sem.run_pure,kE hi,w1,w2,n1,n2,n3,n4,decide_false,Bool.or_false,Bool.false_eq_true,if_false,run_askRoom,dX hi,Int.toNat_natCast]
     by_cases h0:cn * i.size = 0
     ·simp [h0,newRow,show Array.range 0 = #[] from rfl]
     ·simp [h0,zeroValue,kE hi,hz,newRow]
    ·exact h.elim
   ·exact h.elim
  ·exact h.elim
 case buildSlice t n ps=>
  simp only [hardD] at h
  split at h
  ·rename_i e hu
   split at h
   ·rename_i i hi
    split at h
    ·rename_i z hz
     split at h
     ·rename_i hle
      obtain ⟨cs,hcs,hK⟩:=h
      refine finV _ (by simp only [execOp];rfl) ⟨_,_,?_,hK⟩
      rw [← OM he]
      have hle':¬ n * i.size > 2 ^ 24:=by have:=Nat.le_of_ble_eq_true hle;omega
      simp only [Instr.buildSlice,Sem.run_bind,bU hu,Result.andThen_ok,dX hi,hle',if_false]
      by_cases h0:n * i.size = 0
      ·simp [h0,show Array.range 0 = #[] from rfl] at hcs
       simp [h0,show Array.range 0 = #[] from rfl,hcs,newRow]
      ·simp [h0,zeroValue,kE hi,hz]
       simp [hcs,newRow]
     ·exact h.elim
    ·exact h.elim
   ·exact h.elim
  ·exact h.elim
 case makeMap t r=>
  refine finV _ (by simp only [execOp];rfl) ?_
  rw [← N4 he];exact h
 case mapUpdate t m k v=>refine finU _ (by simp only [execOp];rfl) ?_;rw [he];exact h
 case insert t m k v=>refine finU _ (by simp only [execOp];rfl) ?_;rw [he];exact h
 case mapEntry t m k=>refine finV _ (by simp only [execOp];rfl) ?_;rw [he];exact h
 case entryStore t m s v=>refine finU _ (by simp only [execOp];rfl) ?_;rw [he];exact h
 case range t x=>refine finV _ (by simp only [execOp];rfl) ?_;rw [he];exact h
 case next it s=>refine finV _ (by simp only [execOp];rfl) ?_;rw [he];exact h
 case entry it=>refine finV _ (by simp only [execOp];rfl) ?_;rw [he];exact h
 case convert s d x=>refine finV _ (by simp only [execOp];rfl) ?_;rw [he];exact h
 case call c=>
  obtain ⟨callee,args,argTypes⟩:=c
  cases callee with
  | value f=>
   refine WG ?_ h
   rw [D3 he,← he]
   simp only [execOp,resolve]
  | invoke r m=>exact h.elim
  | builtin b=>
   have ex:∀ s,(∀ cs,builtin b argTypes type cs (args.map a.eval) = (do pure (.value (← s)))) → execOp a.eval ⟨dst,.call ⟨.builtin b,args,argTypes⟩,type,pos,after,guard⟩ = (do pure (.value (← s))):=by
    intro s hs
    simp only [execOp,resolve]
    exact hs _
   cases b <;> first | exact h.elim | skip
   all_goals (refine finV _ (ex _ fun _=>rfl) ?_;rw [← D3 he];exact h)

end
end Go.Vc

namespace Go.Vc

structure Ch (S:Nat → Prop) (w w':World):Prop where
 os:w'.os = w.os
 tape:w'.tape = w.tape
 output:w'.output = w.output
 size:w.heap.size ≤ w'.heap.size
 block:∀ k,k < w.heap.size → ¬ S k → w'.heap[k]? = w.heap[k]?
inductive Ex where
 | nrm
 | ext (id:Nat)
 | ret
inductive Hint where
 | leaf
 | reg (quiet:List Nat) (join:Option (List Nat))
 | regE (quiet:List Nat) (join:Option (List Nat))
 | node (keep:Option (List Nat)) (l r:Hint)
abbrev Cont:=Env → World → Prop

def putD (n:Nat) (env:Env) (dst:Option Nat) (v:Value) (kb:Option (Option Bool)) (K:Env → Prop):Prop:=
 match dst with
 | none=>K env
 | some d=>match Nat.blt d n with
  | true=>K (⟨d,v,kb⟩ :: env)
  | false=>False
def wantD (ops:Array Oper) (o:Oper) (env:Env) (A B:Env → Prop):Prop:=
 match o.guard with
 | none=>A env
 | some (j,want)=>match (ops[j]?).bind (·.dst) with
  | none=>B env
  | some s=>match known env s with
   | some (some b)=>(match b == want with | true=>A env | false=>B env)
   | some none=>B env
   | none=>(match want with
    | true=>cnd (look env s) (A (⟨s,.bool true,some (some true)⟩ :: env)) (B (⟨s,.bool false,some (some false)⟩ :: env))
    | false=>cnd (look env s) (B (⟨s,.bool true,some (some true)⟩ :: env)) (A (⟨s,.bool false,some (some false)⟩ :: env)))
def opsD (P:Program) (n:Nat) (ops:Array Oper):List Oper → Env → World → Cont → Prop
 | [],env,w,K=>K env w
 | o :: r,env,w,K=>wantD ops o env
  (fun env=>match b6 P o with
   | true=>softD P o env w fun v kb=>putD n env o.dst v kb fun env'=>opsD P n ops r env' w K
   | false=>hardD P o env w fun v w'=>putD n env o.dst v none fun env'=>opsD P n ops r env' w' K)
  (fun env=>putD n env o.dst undef (some none) fun env'=>opsD P n ops r env' w K)
def dB (P:Program) (quiet:List Nat) (o:Oper):Bool:=
 match o.op with
 | .move _ | .assign _=>true
 | .fieldAddr ..=>quiet.contains 1000000
 | .indexAddr t _ _=>(match P.underlying t with | some (.slice _)=>quiet.contains 1000000 | _=>false)
 | .binOp _ t _ _ _=>(match P.underlying t with | some (.int _)=>true | _=>false)
 | _=>false
def DM (P:Program) (quiet:List Nat) (i:Nat) (o:Oper):Bool:=b6 P o || quiet.contains i
def XI (acc:List Nat) (o:Oper):Nat:=
 o.after.toList.foldl (fun s e=>match Region.binds .any e with | true=>s ||| 2 ^ e.on ||| acc.getD e.on 0 | false=>s) 0
def bf:List Oper → List Nat → List Nat
 | [],acc=>acc
 | o :: r,acc=>bf r (acc ++ [XI acc o])
def needE (P:Program) (quiet:List Nat) (ops:Array Oper) (j:Nat):Bool:=
 (List.range ops.size).any fun i=>match ops[i]? with
  | some o=>DM P quiet i o && !dB P quiet o && !(i == j) && !((bf ops.toList []).getD j 0).testBit i && !((bf ops.toList []).getD i 0).testBit j
  | none=>false
def F2 (P:Program) (ops:Array Oper) (j:Nat):Bool:=match ops[j]? with | some o=>b6 P o | none=>false
def needS (P:Program) (quiet:List Nat) (ops:Array Oper) (i:Nat):Bool:=
 match quiet.contains 1000000 with
 | false=>true
 | true=>(List.range ops.size).any fun j=>match ops[j]? with
  | some o=>!b6 P o && !(i == j) && !((bf ops.toList []).getD j 0).testBit i && !((bf ops.toList []).getD i 0).testBit j
  | none=>false
def exq (b:Bool) (w w':World) (A:Prop):Prop:=
 match b with
 | true=>Ext w w' ∧ A
 | false=>A
def uH (P:Program) (quiet:List Nat) (ops:Array Oper) (listed:Array Bool):List Nat → Option Nat
 | []=>none
 | i :: r=>match ops[i]? with
  | some o=>(match DM P quiet i o && Region.free .any ops listed i with
   | true=>some i
   | false=>uH P quiet ops listed r)
  | none=>uH P quiet ops listed r
def allD:List Nat → (Nat → Prop) → Prop
 | [],_=>True
 | i :: r,F=>match r with
  | []=>F i
  | _ :: _=>F i ∧ allD r F
def Z7 (P:Program) (o:Oper) (env:Env) (w:World) (K:Value → Prop):Prop:=
 match o.op with
 | .call c=>(match c.callee with
  | .value f=>callQ P (ev env f) (evs env c.args) w K
  | _=>False)
 | _=>False
def drD (P:Program) (n:Nat) (quiet:List Nat) (ops:Array Oper):Nat → Array Bool → Env → World → Cont → Prop
 | 0,listed,env,w,K=>match Region.ready .any ops listed with
  | []=>∀ w1,Ext w w1 → K env w1
  | _ :: _=>False
 | m + 1,listed,env,w,K=>match Region.ready .any ops listed with
  | []=>∀ w1,Ext w w1 → K env w1
  | r0 :: rs=>match uH P quiet ops listed (r0 :: rs) with
   | some i=>(match ops[i]? with
    | some o=>wantD ops o env
     (fun env=>match b6 P o with
      | true=>softD P o env w fun v kb=>putD n env o.dst v kb fun env'=>drD P n quiet ops m (listed.setIfInBounds i true) env' w K
      | false=>Z7 P o env w fun v=>putD n env o.dst v none fun env'=>drD P n quiet ops m (listed.setIfInBounds i true) env' w K)
     (fun env=>putD n env o.dst undef (some none) fun env'=>drD P n quiet ops m (listed.setIfInBounds i true) env' w K)
    | none=>False)
   | none=>∀ w1,Ext w w1 → allD (r0 :: rs) fun i=>match ops[i]? with
    | some o=>wantD ops o env
     (fun env=>match b6 P o with
      | true=>False
      | false=>hardD P o env w1 fun v w2=>exq (needE P quiet ops i) w1 w2 (putD n env o.dst v none fun env'=>drD P n quiet ops m (listed.setIfInBounds i true) env' w2 K))
     (fun env=>putD n env o.dst undef (some none) fun env'=>drD P n quiet ops m (listed.setIfInBounds i true) env' w1 K)
    | none=>False
def bare (w:World):World:={ w with heap:=#[] }
structure FrE (E:World → World → Prop):Prop where
 ext:∀ w w':World,Ext w w' → E w w'
 trans:∀ w w' w'':World,E w w' → E w' w'' → E w w''
 bare:∀ w w':World,E w w' → Ext (bare w) w'
def softE (P:Program) (E:World → World → Prop) (o:Oper) (env:Env) (w:World) (K:Value → Option (Option Bool) → Prop):Prop:=
 match o.op with
 | .load t a=>ldD P w t (ev env a) fun v=>(∀ w',E w w' → ldD P w' t (ev env a) fun u=>u = v) ∧ K v none
 | _=>softD P o env (bare w) K
def softF (P:Program) (E:World → World → Prop) (b:Bool) (o:Oper) (env:Env) (w:World) (K:Value → Option (Option Bool) → Prop):Prop:=
 match b with
 | true=>softE P E o env w K
 | false=>softD P o env w K
def mH (P:Program) (E:World → World → Prop) (fv:Value) (args:List Value) (w:World) (K:Value → Prop):Prop:=
 ∃ v,(∀ w',E w w' → callV P fv args w' fun u w3=>u = v ∧ Ext w' w3) ∧ K v
def Z8 (P:Program) (E:World → World → Prop) (o:Oper) (env:Env) (w:World) (K:Value → Prop):Prop:=
 match o.op with
 | .call c=>(match c.callee with
  | .value f=>mH P E (ev env f) (evs env c.args) w K
  | _=>False)
 | _=>False
def exqE (E:World → World → Prop) (b:Bool) (w w':World) (A:Prop):Prop:=
 match b with
 | true=>E w w' ∧ A
 | false=>A
def drE (P:Program) (n:Nat) (quiet:List Nat) (ops:Array Oper) (E:World → World → Prop):Nat → Array Bool → Env → World → Cont → Prop
 | 0,listed,env,w,K=>match Region.ready .any ops listed with
  | []=>∀ w1,Ext w w1 → K env w1
  | _ :: _=>False
 | m + 1,listed,env,w,K=>match Region.ready .any ops listed with
  | []=>∀ w1,Ext w w1 → K env w1
  | r0 :: rs=>match uH P quiet ops listed (r0 :: rs) with
   | some i=>(match ops[i]? with
    | some o=>wantD ops o env
     (fun env=>match b6 P o with
      | true=>softF P E (needS P quiet ops i) o env w fun v kb=>putD n env o.dst v kb fun env'=>drE P n quiet ops E m (listed.setIfInBounds i true) env' w K
      | false=>Z8 P E o env w fun v=>putD n env o.dst v none fun env'=>drE P n quiet ops E m (listed.setIfInBounds i true) env' w K)
     (fun env=>putD n env o.dst undef (some none) fun env'=>drE P n quiet ops E m (listed.setIfInBounds i true) env' w K)
    | none=>False)
   | none=>∀ w1,Ext w w1 → allD (r0 :: rs) fun i=>match ops[i]? with
    | some o=>wantD ops o env
     (fun env=>match b6 P o with
      | true=>False
      | false=>hardD P o env w1 fun v w2=>exqE E (needE P quiet ops i) w1 w2 (putD n env o.dst v none fun env'=>drE P n quiet ops E m (listed.setIfInBounds i true) env' w2 K))
     (fun env=>putD n env o.dst undef (some none) fun env'=>drE P n quiet ops E m (listed.setIfInBounds i true) env' w1 K)
    | none=>False
def dsts (ops:List Oper):List Nat:=ops.filterMap (·.dst)
def wr:Code → List Nat
 | .region _ ops _=>dsts ops.toList
 | .seq a b=>wr a ++ wr b
 | .cond _ a b=>wr a ++ wr b
 | .block _ b=>wr b
 | .loop b=>wr b
 | .scope b=>wr b
 | _=>[]
def bindK:List Nat → Nat → List Value → Env → Env
 | [],_,_,env=>env
 | s :: r,i,xs,env=>⟨s,gx xs i,none⟩ :: bindK r (i + 1) xs env
def bindY:List Nat → (Nat → Value) → Env → Env
 | [],_,env=>env
 | s :: r,ys,env=>⟨s,ys s,none⟩ :: bindY r ys env
def getK (keep:List Nat) (env:Env):List Value:=keep.map (look env)
def KI (n:Nat) (l:List Nat):Bool:=l.all fun s=>Nat.blt s n
def joinD (n:Nat) (keep W:List Nat) (env:Env) (K:Cont) (F:Cont → Prop):Prop:=
 match KI n keep && KI n W with
 | true=>jn (fun J=>F fun env' w'=>J (getK keep env') w') (fun xs w=>∀ ys:Nat → Value,K (bindK keep 0 xs (bindY W ys env)) w)
 | false=>False
def regD (P:Program) (n:Nat) (ops:Array Oper) (draw eh:Bool) (quiet:List Nat) (env:Env) (w:World) (K:Cont):Prop:=
 match draw with
 | false=>opsD P n ops ops.toList env w K
 | true=>match eh with
  | false=>drD P n quiet ops ops.size (Array.replicate ops.size false) env w K
  | true=>match quiet.contains 1000001 with
   | false=>∃ D:Nat → Prop,drE P n quiet ops (Ch D) ops.size (Array.replicate ops.size false) env w K
   | true=>∃ E:World → World → Prop,FrE E ∧ drE P n quiet ops E ops.size (Array.replicate ops.size false) env w K
def hL:Hint → Hint | .node _ l _=>l | _=>.leaf
def hR:Hint → Hint | .node _ _ r=>r | _=>.leaf
def hK:Hint → Option (List Nat) | .node k _ _=>k | .reg _ k=>k | .regE _ k=>k | _=>none
def hQ:Hint → List Nat | .reg q _=>q | .regE q _=>q | _=>[]
def hE:Hint → Bool | .regE _ _=>true | _=>false
def thenD (next:Cont) (Q:Ex → Cont):Ex → Cont
 | .nrm,env,w=>next env w
 | e,env,w=>Q e env w
def WS (id:Nat) (Q:Ex → Cont):Ex → Cont
 | .ext i,env,w=>match Nat.beq i id with
  | true=>Q .nrm env w
  | false=>Q (.ext i) env w
 | e,env,w=>Q e env w
def condD (env:Env) (c:Operand) (A B:Env → Prop):Prop:=
 match evk env c with
 | some (some true)=>A env
 | some (some false)=>B env
 | some none=>False
 | none=>match c with
  | .tmp s=>cnd (look env s) (A (⟨s,.bool true,some (some true)⟩ :: env)) (B (⟨s,.bool false,some (some false)⟩ :: env))
  | _=>cnd (ev env c) (A env) (B env)
def den (P:Program) (n:Nat):Code → Hint → (Ex → Cont) → Env → World → Prop
 | .skip,_,Q,env,w=>Q .nrm env w
 | .label _,_,Q,env,w=>Q .nrm env w
 | .ret,_,Q,env,w=>Q .ret env w
 | .exit id,_,Q,env,w=>Q (.ext id) env w
 | .region _ ops draw,h,Q,env,w=>match hK h with
  | none=>regD P n ops draw (hE h) (hQ h) env w (Q .nrm)
  | some keep=>joinD n keep (dsts ops.toList) env (Q .nrm) fun J=>regD P n ops draw (hE h) (hQ h) env w J
 | .seq a b,h,Q,env,w=>den P n a (hL h) (thenD (den P n b (hR h) Q) Q) env w
 | .cond c x y,h,Q,env,w=>match hK h with
  | none=>condD env c (fun env=>den P n x (hL h) Q env w) (fun env=>den P n y (hR h) Q env w)
  | some keep=>joinD n keep (wr x ++ wr y) env (Q .nrm) fun J=>condD env c (fun env=>den P n x (hL h) (thenD J Q) env w) (fun env=>den P n y (hR h) (thenD J Q) env w)
 | .block id b,h,Q,env,w=>den P n b h (WS id Q) env w
 | .scope b,h,Q,env,w=>den P n b h Q env w
 | .loop b,h,Q,env,w=>match KI n ((hK h).getD []) && KI n (wr b) with
  | true=>lp (fun Kn xs w=>∀ ys:Nat → Value,den P n b (hL h) (thenD (fun env' w'=>Kn (getK ((hK h).getD []) env') w') Q) (bindK ((hK h).getD []) 0 xs (bindY (wr b) ys env)) w) (getK ((hK h).getD []) env) w
  | false=>False
 | _,_,_,_,_=>False
def resD (P:Program) (env:Env) (w:World):List ResultVar → (List Value → Prop) → Prop
 | [],K=>K []
 | .tmp t :: r,K=>resD P env w r fun vs=>K (look env t :: vs)
 | .cell a t :: r,K=>ldD P w t (look env a) fun v=>resD P env w r fun vs=>K (v :: vs)
def retV:List Value → Value
 | [v]=>v
 | vs=>.tuple vs.toArray
def uF:Nat → List Value → Env
 | _,[]=>[]
 | i,v :: r=>⟨i,v,none⟩ :: uF (i + 1) r
def denF (P:Program) (fn:Func) (c:Code) (h:Hint) (args:List Value) (w:World) (R:Value → World → Prop):Prop:=
 den P fn.ntmps c h (fun e env w=>match e with
  | .nrm=>resD P env w fn.results.toList fun vs=>R (retV vs) w
  | .ret=>resD P env w fn.results.toList fun vs=>R (retV vs) w
  | .ext _=>False) (uF 0 args) w

end Go.Vc

namespace Go.Vc

structure Ag (n:Nat) (env:Env) (a:Act):Prop where
 defers:a.defers = []
 size:a.tmps.size = n
 vals:∀ s,a.tmps.getD s undef = look env s
 ok:EnvOk env
def Same (W:List Nat) (env env':Env):Prop:=∀ s,s ∉ W → look env' s = look env s
theorem Same.refl (W:List Nat) (env:Env):Same W env env:=fun _ _=>rfl
theorem Same.trans {W:List Nat} {a b c:Env} (h:Same W a b) (k:Same W b c):Same W a c:=fun s hs=>(k s hs).trans (h s hs)
theorem Same.mono {W W':List Nat} {a b:Env} (h:Same W a b) (hw:∀ s,s ∈ W → s ∈ W'):Same W' a b:=fun s hs=>h s fun e=>hs (hw s e)

theorem Ag.eval {n:Nat} {env:Env} {a:Act} (h:Ag n env a):a.eval = ev env:=by
 funext x;cases x <;> first | exact h.vals _ | rfl

theorem RC {a b:Nat} (h:a ≠ b):Nat.beq a b = false:=by
 cases e:Nat.beq a b with
 | false=>rfl
 | true=>exact absurd (Nat.eq_of_beq_eq_true e) h
theorem kA (s:Nat) (v:Value) (k:Option (Option Bool)) (env:Env) (t:Nat):look (⟨s,v,k⟩ :: env) t = if s = t then v else look env t:=by
 by_cases h:s = t
 ·subst h;simp [look]
 ·simp [look,h,RC h]
theorem VU (s:Nat) (v:Value) (k:Option (Option Bool)) (env:Env) (t:Nat):known (⟨s,v,k⟩ :: env) t = if s = t then k else known env t:=by
 by_cases h:s = t
 ·subst h;simp [known]
 ·simp [known,h,RC h]
theorem EnvOk.cons {env:Env} (h:EnvOk env) {s:Nat} {v:Value} {k:Option (Option Bool)} (hk:∀ b,k = some b → v = kv b):EnvOk (⟨s,v,k⟩ :: env):=by
 intro t b hb
 rw [VU] at hb
 rw [kA]
 split at hb
 ·rename_i e;simp [e];exact hk b hb
 ·rename_i e;simp [e];exact h t b hb

theorem Ag.put {n:Nat} {env:Env} {a:Act} (h:Ag n env a) {d:Nat} (hd:d < n) {v:Value} {k:Option (Option Bool)} (hk:∀ b,k = some b → v = kv b):Ag n (⟨d,v,k⟩ :: env) (a.put (some d) v):=by
 refine ⟨h.defers,by simp [Act.put,h.size],fun s=>?_,h.ok.cons hk⟩
 rw [kA]
 have hs:d < a.tmps.size:=by rw [h.size];exact hd
 by_cases e:d = s
 ·subst e;simp [Act.put,hs]
 ·simp only [e,if_false]
  rw [← h.vals s]
  simp [Act.put,Array.getElem?_setIfInBounds_ne e]

theorem Ag.learn {n:Nat} {env:Env} {a:Act} (h:Ag n env a) {s:Nat} {b:Bool} (hs:look env s = .bool b):Ag n (⟨s,.bool b,some (some b)⟩ :: env) a:=
 ⟨h.defers,h.size,fun t=>by
  rw [kA,h.vals t]
  split
  ·rename_i e;subst e;exact hs
  ·rfl,h.ok.cons fun b' e=>by cases e;rfl⟩
theorem mW {W:List Nat} {env:Env} {s:Nat} {b:Bool} {k:Option (Option Bool)} (hs:look env s = .bool b):Same W env (⟨s,.bool b,k⟩ :: env):=fun t _=>by
 rw [kA]
 split
 ·rename_i e;subst e;exact hs.symm
 ·rfl
theorem XJ {W:List Nat} {env:Env} {s:Nat} (hs:s ∈ W) (v:Value) (k:Option (Option Bool)):Same W env (⟨s,v,k⟩ :: env):=fun t ht=>by
 rw [kA,if_neg]
 rintro rfl;exact ht hs

theorem uE {n:Nat} {env:Env} {a:Act} {dst:Option Nat} {v:Value} {kb:Option (Option Bool)} {K:Env → Prop} {W:List Nat} (h:putD n env dst v kb K) (ha:Ag n env a)
  (hk:∀ b,kb = some b → v = kv b) (hw:∀ d,dst = some d → d ∈ W):∃ env',K env' ∧ Ag n env' (a.put dst v) ∧ Same W env env':=by
 unfold putD at h
 cases dst with
 | none=>exact ⟨env,h,ha,Same.refl _ _⟩
 | some d=>
  simp only [] at h
  split at h
  ·rename_i hlt
   exact ⟨_,h,ha.put (Nat.le_of_ble_eq_true hlt) hk,XJ (hw d rfl) _ _⟩
  ·exact h.elim

theorem zO {n:Nat} {env:Env} {a:Act} (ha:Ag n env a) {ops:Array Oper} {j s:Nat} {b:Bool} (hs:(ops[j]?).bind (·.dst) = some s) (hb:look env s = .bool b):
  yielded ops a.tmps j = some b:=by
 have hv:=ha.vals s
 rw [hb] at hv
 have:a.tmps[s]? = some (.bool b):=by
  cases e:a.tmps[s]? with
  | none=>simp [e,undef] at hv
  | some x=>simp [e] at hv;rw [hv]
 simp [yielded,hs,this]

theorem z9 {n:Nat} {env:Env} {a:Act} {ops:Array Oper} {o:Oper} {A B:Env → Prop} (h:wantD ops o env A B) (ha:Ag n env a) (W:List Nat):
  ∃ env',Ag n env' a ∧ Same W env env' ∧ ((Region.wanted o (yielded ops a.tmps) = true ∧ A env') ∨ (Region.wanted o (yielded ops a.tmps) = false ∧ B env')):=by
 unfold wantD at h
 cases hg:o.guard with
 | none=>simp only [hg] at h;exact ⟨env,ha,Same.refl _ _,.inl ⟨by simp [Region.wanted,hg],h⟩⟩
 | some jw=>
  obtain ⟨j,want⟩:=jw
  simp only [hg] at h
  cases hs:(ops[j]?).bind (·.dst) with
  | none=>
   simp only [hs] at h
   exact ⟨env,ha,Same.refl _ _,.inr ⟨by simp [Region.wanted,hg,yielded,hs],h⟩⟩
  | some s=>
   simp only [hs] at h
   cases hk:known env s with
   | some b=>
    simp only [hk] at h
    cases b with
    | none=>
     refine ⟨env,ha,Same.refl _ _,.inr ⟨?_,h⟩⟩
     have hv:=ha.vals s
     rw [ha.ok s none hk] at hv
     have hy:yielded ops a.tmps j = none:=by
      simp only [yielded,hs,Option.bind_some]
      cases e:a.tmps[s]? with
      | none=>rfl
      | some x=>simp [e,kv] at hv;rw [hv];rfl
     simp [Region.wanted,hg,hy]
    | some b=>
    have hy:=zO ha hs (ha.ok s (some b) hk)
    simp only [] at h
    split at h
    ·rename_i e
     exact ⟨env,ha,Same.refl _ _,.inl ⟨by simp [Region.wanted,hg,hy];simpa using e,h⟩⟩
    ·rename_i e
     exact ⟨env,ha,Same.refl _ _,.inr ⟨by simp [Region.wanted,hg,hy];simpa using e,h⟩⟩
   | none=>
    simp only [hk] at h
    have key:∀ {X Y:Prop},cnd (look env s) X Y → ∃ b,look env s = .bool b ∧ (if b then X else Y):=by
     intro X Y ⟨b,hb,h1,h2⟩
     refine ⟨b,hb,?_⟩
     cases b
     ·simpa using h2 rfl
     ·simpa using h1 rfl
    cases want
    ·obtain ⟨b,hb,hx⟩:=key h
     have hy:=zO ha hs hb
     cases b
     ·exact ⟨_,ha.learn hb,mW hb,.inl ⟨by simp [Region.wanted,hg,hy],by simpa using hx⟩⟩
     ·exact ⟨_,ha.learn hb,mW hb,.inr ⟨by simp [Region.wanted,hg,hy],by simpa using hx⟩⟩
    ·obtain ⟨b,hb,hx⟩:=key h
     have hy:=zO ha hs hb
     cases b
     ·exact ⟨_,ha.learn hb,mW hb,.inr ⟨by simp [Region.wanted,hg,hy],by simpa using hx⟩⟩
     ·exact ⟨_,ha.learn hb,mW hb,.inl ⟨by simp [Region.wanted,hg,hy],by simpa using hx⟩⟩

theorem ZR {P:Program} {n:Nat} {ops:Array Oper} {W:List Nat} {Q:Exit → Act → World → Prop} {K:Cont}:∀ (l:List Oper) (env:Env) (a:Act) (w:World),
  opsD P n ops l env w K → Ag n env a → (∀ o ∈ l,∀ d,o.dst = some d → d ∈ W) →
  (∀ env' a' w',K env' w' → Ag n env' a' → Same W env env' → Q .normal a' w') → wpList P ops Q l a w:=by
 intro l
 induction l with
 | nil=>intro env a w h ha _ hq;exact hq env a w h ha (Same.refl _ _)
 | cons o r ih=>
  intro env a w h ha hW hq
  have hWo:∀ d,o.dst = some d → d ∈ W:=hW o (by simp)
  have hWr:∀ o ∈ r,∀ d,o.dst = some d → d ∈ W:=fun o' ho=>hW o' (by simp [ho])
  obtain ⟨env1,ha1,hs1,hc⟩:=z9 h ha W
  have next:∀ {env2:Env} {a' w'},opsD P n ops r env2 w' K → Ag n env2 a' → Same W env1 env2 → wpList P ops Q r a' w':=fun {env2 a' w'} h2 ha2 hs2=>
   ih env2 a' w' h2 ha2 hWr fun env' a' w' hK hA hS=>hq env' a' w' hK hA ((hs1.trans hs2).trans hS)
  unfold wpList
  rcases hc with ⟨hw,hA⟩ | ⟨hw,hB⟩
  ·rw [hw]
   refine .inl ?_
   split at hA
   ·rename_i hsoft
    obtain ⟨v,kb,hrun,hp,hkb⟩:=U8 ha1.eval ha1.ok hsoft hA
    unfold Oper.wp
    rw [hrun w (Ext.refl w),Oper.upon_value]
    obtain ⟨env2,h2,ha2,hs2⟩:=uE hp ha1 hkb hWo
    exact next h2 ha2 hs2
   ·have:=P4 (Q:=Q) ha1.eval hA
    refine Oper.wp_mono (fun a' w' ⟨v,he,hp⟩=>?_) this
    obtain ⟨env2,h2,ha2,hs2⟩:=uE hp ha1 (fun b e=>by cases e) hWo
    rw [he]
    exact next h2 ha2 hs2
  ·rw [hw]
   obtain ⟨env2,h2,ha2,hs2⟩:=uE hB ha1 (fun b e=>by cases e;rfl) hWo
   exact next h2 ha2 hs2

end Go.Vc

namespace Go.Vc
section
variable {P:Program} {E:World → World → Prop} {ops:Array Oper} {quiet:List Nat}

def YT (P:Program) (v:Value) (w:World):Result Next → Prop
 | .ok (.value u) w'=>w' = w ∧ u = v
 | .ok (.enter f args) w'=>w' = w ∧ Calls P f args w (fun e w3=>e = .returned v ∧ Ext w w3)
 | _=>False
def Yc (P:Program) (E:World → World → Prop) (ops:Array Oper) (mv:Bool) (o:Oper) (v:Value) (a:Act) (w:World):Prop:=
 (Region.wanted o (yielded ops a.tmps) = true ∧ ∀ w',(mv = true ∨ E w w') → YT P v w' ((execOp a.eval o).run P w')) ∨
 (Region.wanted o (yielded ops a.tmps) = false ∧ v = undef)
theorem Yc.of_same {mv:Bool} {o:Oper} {v:Value} {a a':Act} {w:World} (hy:Yc P E ops mv o v a w) (he:execOp a'.eval o = execOp a.eval o)
  (hw:Region.wanted o (yielded ops a'.tmps) = Region.wanted o (yielded ops a.tmps)):Yc P E ops mv o v a' w:=by
 unfold Yc at *
 rw [he,hw]
 exact hy
theorem Yc.later (hT:∀ w w' w'':World,E w w' → E w' w'' → E w w'') {mv:Bool} {o:Oper} {v:Value} {a:Act} {w w1:World} (hy:Yc P E ops mv o v a w) (he:mv = true ∨ E w w1):Yc P E ops mv o v a w1:=by
 rcases hy with ⟨h1,h2⟩ | h
 ·refine .inl ⟨h1,fun w' hw'=>h2 w' ?_⟩
  rcases he with he | he
  ·exact .inl he
  ·exact hw'.imp id (hT _ _ _ he)
 ·exact .inr h

def AnyW (P:Program) (E:World → World → Prop) (quiet:List Nat) (ops:Array Oper) (Q:Act → World → Prop):Nat → Array Bool → Act → World → Prop
 | 0,listed,a,w=>∀ w1,Ext w w1 → Region.ready .any ops listed = [] ∧ Q a w1
 | m + 1,listed,a,w=>∀ w1,Ext w w1 → (Region.ready .any ops listed = [] → Q a w1) ∧
  ∀ i ∈ Region.ready .any ops listed,wpOp P ops (fun _ _ _=>False) i (fun a' w'=>((needE P quiet ops i = true → E w1 w') ∧ (F2 P ops i = true → Ext w1 w')) ∧ AnyW P E quiet ops Q m (listed.setIfInBounds i true) a' w') a w1
theorem AnyW.later {Q:Act → World → Prop} {m:Nat} {listed:Array Bool} {a:Act} {w w1:World} (h:AnyW P E quiet ops Q m listed a w) (he:Ext w w1):AnyW P E quiet ops Q m listed a w1:=by
 cases m <;> exact fun w2 h2=>h w2 (he.trans h2)

theorem W9 {Q':Exit → Act → World → Prop} {i:Nat} {K K':Act → World → Prop} {a:Act} {w:World} (h:wpOp P ops (fun _ _ _=>False) i K a w) (hk:∀ a w,K a w → K' a w):wpOp P ops Q' i K' a w:=by
 unfold wpOp at *
 split
 ·rename_i ho;simp only [ho] at h;exact hk _ _ h
 ·rename_i o ho
  simp only [ho] at h
  split
  ·rename_i hw
   simp only [hw,if_true] at h
   refine .inl ?_
   rcases h with h | ⟨_,a,w,h⟩
   ·unfold Oper.wp at *
    generalize (execOp a.eval o).run P w = r at *
    cases r with
    | ok n w'=>
     cases n <;> simp only [Oper.upon] at h ⊢ <;>
      first
       | exact hk _ _ h
       | exact Calls.mono h (fun e w'' he=>by cases e <;> first | exact hk _ _ he | exact he.elim | exact (let ⟨_,_,hh⟩:=he;hh.elim))
       | exact Rows.mono h (fun _ _ he=>hk _ _ he)
    | halt x w'=>cases x <;> simp only [Oper.upon] at h
   ·exact h.elim
  ·rename_i hw;simp only [hw] at h;exact hk _ _ h

theorem wZ {Q:Act → World → Prop} {Q':Exit → Act → World → Prop} (hQ:∀ a w,Q a w → Q' .normal a w):∀ (m:Nat) (listed:Array Bool) (a:Act) (w:World),
  AnyW P E quiet ops Q m listed a w → wpAny P .any ops Q' m listed a w
 | 0,_,_,w,h=>⟨(h w (Ext.refl w)).1,hQ _ _ (h w (Ext.refl w)).2⟩
 | m + 1,_,_,w,h=>⟨fun h0=>hQ _ _ ((h w (Ext.refl w)).1 h0),fun i hi=>W9 ((h w (Ext.refl w)).2 i hi) fun a' w' hh=>wZ hQ m _ a' w' hh.2⟩

theorem WF {j:Nat} {oi oj:Oper} {v:Value} (hj:ops[j]? = some oj) (hap:oi.apart ops oj = true)
  (hsi:∀ cs b,oi.op ≠ .select cs b) (hsj:∀ cs b,oj.op ≠ .select cs b) {mv:Bool} {wy:World} {K:Act → World → Prop} {a:Act} {w:World}
  (hy:Yc P E ops mv oi v a wy) (h:wpOp P ops (fun _ _ _=>False) j K (a.put oi.dst v) w):
  wpOp P ops (fun _ _ _=>False) j (fun a' w'=>Yc P E ops mv oi v a' wy ∧ K (a'.put oi.dst v) w') a w:=by
 obtain ⟨h1,h2,h3⟩:=Oper.apart_spec hap
 have keep:∀ (a:Act),Yc P E ops mv oi v a wy → ∀ u,Yc P E ops mv oi v (a.put oj.dst u) wy:=fun a hy u=>
  hy.of_same (execOp_put oi hsi a oj.dst u h3) (wanted_put oi a oj.dst u h3)
 have keepD:∀ d,Yc P E ops mv oi v { a with defers:=d :: a.defers } wy:=fun d=>hy.of_same rfl rfl
 unfold wpOp at *
 simp only [hj] at *
 rw [wanted_put oj a oi.dst v h1] at h
 split
 ·rename_i hw
  simp only [hw,if_true] at h
  rcases h with h | ⟨_,a,w,hh⟩
  case inr=>exact hh.elim
  refine .inl ?_
  unfold Oper.wp at *
  rw [execOp_put oj hsj a oi.dst v h1] at h
  generalize (execOp a.eval oj).run P w = r at *
  cases r with
  | ok n w'=>
   cases n <;> simp only [Oper.upon] at h ⊢
   case value u=>exact ⟨keep a hy u,by rw [← Act.put_comm a v u h2];exact h⟩
   case skip=>exact ⟨keep a hy _,by rw [← Act.put_comm a v undef h2];exact h⟩
   case defer d=>
    refine ⟨keep _ (keepD d) _,?_⟩
    rw [← Act.put_comm _ v undef h2,← Act.put_defers]
    exact h
   case enter f args=>
    refine Calls.mono h fun e w'' he=>?_
    cases e with
    | returned u=>exact ⟨keep a hy u,by rw [← Act.put_comm a v u h2];exact he⟩
    | panicked c=>exact he.elim
    | outgrown=>exact he
   case row row args=>exact Rows.mono h fun u w'' he=>⟨keep a hy u,by rw [← Act.put_comm a v u h2];exact he⟩
  | halt x w'=>cases x <;> simp only [Oper.upon] at h
 ·rename_i hw
  simp only [hw] at h
  exact ⟨keep a hy _,by rw [← Act.put_comm a v undef h2];exact h⟩

theorem Yc.wpOp (hX:∀ w w':World,Ext w w' → E w w') {i:Nat} {oi:Oper} {v:Value} {a:Act} {w w1:World} {mv:Bool} (hi:ops[i]? = some oi) (hy:Yc P E ops mv oi v a w) (he:Ext w w1)
  {K:Act → World → Prop} (h:∀ w2,Ext w1 w2 → K (a.put oi.dst v) w2):wpOp P ops (fun _ _ _=>False) i K a w1:=by
 unfold Go.wpOp
 simp only [hi]
 rcases hy with ⟨hw,hv⟩ | ⟨hw,rfl⟩
 ·simp only [hw,if_true]
  refine .inl ?_
  have hq:=hv w1 (.inr (hX _ _ he))
  unfold Oper.wp
  generalize (execOp a.eval oi).run P w1 = r at *
  cases r with
  | halt x w'=>exact hq.elim
  | ok n w'=>
   cases n <;> first | exact hq.elim | skip
   case value u=>obtain ⟨rfl,rfl⟩:=hq;exact h _ (Ext.refl _)
   case enter f args=>
    obtain ⟨rfl,hc⟩:=hq
    rw [Oper.upon_enter]
    refine hc.mono fun e w3 ⟨h1,h2⟩=>?_
    subst h1
    exact h _ h2
 ·simp only [hw,Bool.false_eq_true,if_false];exact h _ (Ext.refl _)

def Down (ops:Array Oper) (listed:Array Bool):Prop:=∀ (k:Nat) (o:Oper),ops[k]? = some o → listed.getD k false = true → ∀ e ∈ o.after,Region.binds .any e = true → listed.getD e.on false = true
theorem RD (n:Nat):Down ops (Array.replicate n false):=fun k o _ hk=>by
 have:(Array.replicate n false).getD k false = false:=by simp [Array.getElem?_replicate];split <;> rfl
 rw [this] at hk;cases hk
theorem zM {listed:Array Bool} (h:Down ops listed) {i:Nat} (hi:i ∈ Region.ready .any ops listed):Down ops (listed.setIfInBounds i true):=by
 intro k o ho hk e he hb
 obtain ⟨_,oi,hoi,hall⟩:=mem_ready.1 hi
 by_cases hki:i = k
 ·subst hki
  rw [ho] at hoi;cases hoi
  exact getD_set_true (hall e he hb)
 ·rw [getD_set_ne false hki] at hk
  exact getD_set_true (h k o ho hk e he hb)
def WB (ops:Array Oper) (i j:Nat):Prop:=∀ listed:Array Bool,Down ops listed → (∀ o,ops[j]? = some o → ∀ e ∈ o.after,Region.binds .any e = true → listed.getD e.on false = true) → listed.getD i false = true
theorem RJ (acc:List Nat) (i:Nat):∀ (l:List Edge) (s:Nat),(l.foldl (fun s e=>match Region.binds .any e with | true=>s ||| 2 ^ e.on ||| acc.getD e.on 0 | false=>s) s).testBit i = true →
  s.testBit i = true ∨ ∃ e ∈ l,Region.binds .any e = true ∧ (e.on = i ∨ (acc.getD e.on 0).testBit i = true)
 | [],s,h=>.inl h
 | e :: l,s,h=>by
  rw [List.foldl_cons] at h
  rcases RJ acc i l _ h with h | ⟨e',he,hb⟩
  ·cases hb:Region.binds .any e with
   | false=>rw [hb] at h;exact .inl h
   | true=>
    rw [hb] at h
    simp only [Nat.testBit_or,Bool.or_eq_true,Nat.testBit_two_pow,decide_eq_true_eq] at h
    rcases h with (h | h) | h
    ·exact .inl h
    ·exact .inr ⟨e,by simp,hb,.inl h⟩
    ·exact .inr ⟨e,by simp,hb,.inr h⟩
  ·exact .inr ⟨e',by simp [he],hb⟩
theorem BN:∀ (r:List Oper) (acc:List Nat),(∀ j,r[j]? = ops[acc.length + j]?) → (∀ j i,(acc.getD j 0).testBit i = true → WB ops i j) → ∀ j i,((bf r acc).getD j 0).testBit i = true → WB ops i j
 | [],acc,_,h=>h
 | o :: r,acc,hr,h=>by
  have h0:ops[acc.length]? = some o:=by simpa using (hr 0).symm
  refine BN r (acc ++ [XI acc o]) (fun j=>by have:=hr (j + 1);simpa [Nat.add_assoc,Nat.add_comm 1 j] using this) ?_
  intro j i hb
  rcases Nat.lt_trichotomy j acc.length with hj | hj | hj
  ·rw [List.getD_eq_getElem?_getD,List.getElem?_append_left hj,← List.getD_eq_getElem?_getD] at hb
   exact h j i hb
  ·subst hj
   rw [List.getD_eq_getElem?_getD,List.getElem?_append_right (Nat.le_refl _)] at hb
   simp at hb
   rcases RJ acc i _ _ hb with hb | ⟨e,he,hbe,hb⟩
   ·simp at hb
   ·intro listed hd hl
    have hon:=hl o h0 e (by simpa using he) hbe
    rcases hb with rfl | hb
    ·exact hon
    ·exact h e.on i hb listed hd (fun o' ho' e' he' hbe'=>hd e.on o' ho' hon e' he' hbe')
  ·rw [List.getD_eq_getElem?_getD,List.getElem?_eq_none (by simp;omega)] at hb
   simp at hb
theorem YP {i j:Nat} {oi:Oper} {listed:Array Bool} (hi:ops[i]? = some oi) (hq:DM P quiet i oi = true) (hm:dB P quiet oi = false) (hij:i ≠ j) (hd:Down ops listed) (hj:j ∈ Region.ready .any ops listed) (hri:i ∈ Region.ready .any ops listed) (hun:listed.getD i false = false):
  needE P quiet ops j = true:=by
 have hlt:i < ops.size:=(Array.getElem?_eq_some_iff.1 hi).1
 simp only [needE,List.any_eq_true,List.mem_range]
 refine ⟨i,hlt,?_⟩
 simp only [hi,hq,hm,Bool.not_false,Bool.and_true,Bool.true_and]
 have h1:(i == j) = false:=by simpa using hij
 have h2:((bf ops.toList []).getD j 0).testBit i = false:=by
  rw [Bool.eq_false_iff]
  intro h
  obtain ⟨_,oj,hoj,hall⟩:=mem_ready.1 hj
  have hF:=BN (ops:=ops) ops.toList [] (fun j=>by simp) (fun j i hb=>by simp at hb) j i h listed hd (fun o ho e he hb=>by rw [hoj] at ho;cases ho;exact hall e he hb)
  rw [hun] at hF;cases hF
 have h3:((bf ops.toList []).getD i 0).testBit j = false:=by
  rw [Bool.eq_false_iff]
  intro h
  obtain ⟨_,oi',hoi',hall⟩:=mem_ready.1 hri
  have hF:=BN (ops:=ops) ops.toList [] (fun j=>by simp) (fun j i hb=>by simp at hb) i j h listed hd (fun o ho e he hb=>by rw [hoi'] at ho;cases ho;exact hall e he hb)
  have h0:=(mem_ready.1 hj).1
  have h4:listed.getD j false = false:=by
   rcases Nat.lt_or_ge j listed.size with h' | h'
   ·simpa [h'] using h0
   ·simp [Array.getElem?_eq_none h']
  rw [h4] at hF;cases hF
 rw [h1,h2,h3];rfl

theorem YK {i j:Nat} {oj:Oper} {listed:Array Bool} (hoj:ops[j]? = some oj) (hs:b6 P oj = false) (hij:i ≠ j) (hd:Down ops listed) (hj:j ∈ Region.ready .any ops listed) (hri:i ∈ Region.ready .any ops listed):
  needS P quiet ops i = true:=by
 have hlt:j < ops.size:=(Array.getElem?_eq_some_iff.1 hoj).1
 have un:∀ {k l:Nat},k ∈ Region.ready .any ops listed → l ∈ Region.ready .any ops listed → ((bf ops.toList []).getD k 0).testBit l = false:=by
  intro k l hk hl
  rw [Bool.eq_false_iff]
  intro h
  obtain ⟨_,ok,hok,hall⟩:=mem_ready.1 hk
  have hF:=BN (ops:=ops) ops.toList [] (fun j=>by simp) (fun j i hb=>by simp at hb) k l h listed hd (fun o ho e he hb=>by rw [hok] at ho;cases ho;exact hall e he hb)
  have h0:=(mem_ready.1 hl).1
  have h4:listed.getD l false = false:=by
   rcases Nat.lt_or_ge l listed.size with h' | h'
   ·simpa [h'] using h0
   ·simp [Array.getElem?_eq_none h']
  rw [h4] at hF;cases hF
 unfold needS
 split
 ·rfl
 ·rw [List.any_eq_true]
  refine ⟨j,List.mem_range.2 hlt,?_⟩
  have h1:(i == j) = false:=by simpa using hij
  simp only [hoj,hs,h1,un hj hri,un hri hj]
  rfl

theorem FZ {Ei:World → World → Prop} (hX:∀ w w':World,Ext w w' → E w w') (hXi:∀ w w':World,Ext w w' → Ei w w') (hT:∀ w w' w'':World,Ei w w' → Ei w' w'' → Ei w w'') {Q:Act → World → Prop} {i:Nat} {oi:Oper} {v:Value} (hEi:needS P quiet ops i = true → ∀ w w',E w w' → Ei w w') (hi:ops[i]? = some oi) (hsel:∀ (j:Nat) (o:Oper) cs b,ops[j]? = some o → o.op ≠ .select cs b)
  {mv:Bool} (hmv:mv = dB P quiet oi) (hqi:DM P quiet i oi = true):
  ∀ (m:Nat) (listed:Array Bool) (a:Act) (w:World),Down ops listed →
   (∀ j oj,ops[j]? = some oj → j ≠ i → listed.getD j true = false → (∀ e ∈ oj.after,Region.binds .any e = true → e.on ≠ i) → oi.apart ops oj = true) →
   i ∈ Region.ready .any ops listed → Yc P Ei ops mv oi v a w →
   AnyW P E quiet ops Q m (listed.setIfInBounds i true) (a.put oi.dst v) w → AnyW P E quiet ops Q (m + 1) listed a w:=by
 intro m
 induction m with
 | zero=>
  intro listed a w _ _ hr hy H w1 he
  refine ⟨fun h=>(by rw [h] at hr;cases hr),fun j hj=>?_⟩
  by_cases hji:j = i
  ·subst hji
   exact hy.wpOp hXi hi he fun w2 h2=>⟨⟨fun _=>hX _ _ h2,fun _=>h2⟩,H.later (he.trans h2)⟩
  ·have:=ready_mono hj hji
   rw [(H w1 he).1] at this
   cases this
 | succ m ih=>
  intro listed a w hd hfree hr hy H w1 he
  refine ⟨fun h=>(by rw [h] at hr;cases hr),fun j hj=>?_⟩
  by_cases hji:j = i
  ·subst hji
   exact hy.wpOp hXi hi he fun w2 h2=>⟨⟨fun _=>hX _ _ h2,fun _=>h2⟩,H.later (he.trans h2)⟩
  ·have h1:=(H w1 he).2 j (ready_mono hj hji)
   obtain ⟨hjun,oj,hoj,hall⟩:=mem_ready.1 hj
   have hnot:∀ e ∈ oj.after,Region.binds .any e = true → e.on ≠ i:=fun e he hb heq=>by
    have h1:=hall e he hb
    have h0:=(mem_ready.1 hr).1
    rw [heq] at h1
    rcases Nat.lt_or_ge i listed.size with h' | h'
    ·simp [h'] at h0 h1;rw [h0] at h1;cases h1
    ·simp [Array.getElem?_eq_none h'] at h1
   have h2:=WF hoj (hfree j oj hoj hji hjun hnot) (fun cs b=>hsel i oi cs b hi) (fun cs b=>hsel j oj cs b hoj) hy h1
   have hfree':∀ k ok,ops[k]? = some ok → k ≠ i → (listed.setIfInBounds j true).getD k true = false →
     (∀ e ∈ ok.after,Region.binds .any e = true → e.on ≠ i) → oi.apart ops ok = true:=fun k ok hk hki hun hno=>by
    refine hfree k ok hk hki ?_ hno
    by_cases hjk:j = k
    ·subst hjk;exact hjun
    ·rw [getD_set_ne true hjk] at hun;exact hun
   refine wpOp_mono (fun a' w' h3=>?_) h2
   obtain ⟨hy',hE,hXX⟩:=h3
   refine ⟨hE,?_⟩
   -- the worlds beyond w' are such that i yields there what it does
   have hmvE:mv = true ∨ Ei w w':=by
    cases hm:dB P quiet oi with
    | true=>exact .inl (hmv.trans hm)
    | false=>
     cases hso:b6 P oj with
     | true=>exact .inr (hT _ _ _ (hXi _ _ he) (hXi _ _ (hE.2 (by unfold F2;rw [hoj];exact hso))))
     | false=>
     refine .inr (hT _ _ _ (hXi _ _ he) (hEi (YK hoj hso (Ne.symm hji) hd hj hr) _ _ (hE.1 (YP hi hqi hm (Ne.symm hji) hd hj hr ?_))))
     have h0:=(mem_ready.1 hr).1
     rcases Nat.lt_or_ge i listed.size with h' | h'
     ·simpa [h'] using h0
     ·simp [Array.getElem?_eq_none h']
   exact ih (listed.setIfInBounds j true) a' w' (zM hd hj) hfree' (ready_mono hr (Ne.symm hji)) (Yc.later (E:=Ei) hT hy' hmvE) (by rw [Array.setIfInBounds_comm _ _ hji];exact hXX)

end
end Go.Vc

namespace Go.Vc
section
variable {P:Program} {ops:Array Oper} {quiet:List Nat} {n:Nat}

theorem uU {listed:Array Bool}:∀ (l:List Nat) {i:Nat},uH P quiet ops listed l = some i → i ∈ l ∧ ∃ o,ops[i]? = some o ∧ DM P quiet i o = true ∧ Region.free .any ops listed i = true
 | [],_,h=>by cases h
 | j :: r,i,h=>by
  unfold uH at h
  split at h
  ·rename_i o ho
   split at h
   ·rename_i hc
    cases h
    simp only [Bool.and_eq_true] at hc
    exact ⟨by simp,o,ho,hc.1,hc.2⟩
   ·obtain ⟨h1,h2⟩:=uU r h;exact ⟨by simp [h1],h2⟩
  ·obtain ⟨h1,h2⟩:=uU r h;exact ⟨by simp [h1],h2⟩

theorem MH {o:Oper} {env:Env} {a:Act} {w:World} {K:Value → Option (Option Bool) → Prop} (he:a.eval = ev env) (hk:EnvOk env) (hs:b6 P o = true) (h:softD P o env w K):
  ∃ v kb,(∀ w',(dB P quiet o = true ∨ Ext w w') → (execOp a.eval o).run P w' = .ok (.value v) w') ∧ K v kb ∧ (∀ b,kb = some b → v = kv b):=by
 obtain ⟨v,kb,h1,h2,h3⟩:=U8 he hk hs h
 refine ⟨v,kb,fun w' hw'=>?_,h2,h3⟩
 rcases hw' with hm | hE
 ·have h0:=h1 w (Ext.refl w)
  obtain ⟨dst,op,type,pos,after,guard⟩:=o
  cases op <;> (try (simp [dB] at hm;done))
  ·simp [execOp] at h0 ⊢;exact h0
  ·simp [execOp] at h0 ⊢;exact h0
  ·rename_i op t x y yt
   simp only [dB] at hm
   split at hm
   ·rename_i k hu
    simp only [softD,binD,hu] at h
    obtain ⟨u,hu1,-⟩:=VB (P:=P) (t:=t) (xo:=x) (yo:=y) h
    have hr:∀ w',(execOp a.eval ⟨dst,.binOp op t x y yt,type,pos,after,guard⟩).run P w' = .ok (.value u) w':=fun w'=>by
     rw [show execOp a.eval ⟨dst,.binOp op t x y yt,type,pos,after,guard⟩ = (do pure (.value (← (do eqGuard op t x y (a.eval x) (a.eval y);binOp op t (a.eval x) (a.eval y))))) by simp only [execOp],he]
     rw [Sem.run_bind,hu1 w']
     rfl
    have e:=h0.symm.trans (hr w)
    cases e
    exact hr w'
   ·cases hm
  ·rename_i s x f
   clear hm
   simp only [softD] at h
   obtain ⟨fs,fl,i,g,hu,hf,hi,hg,hz,ad,hx,-⟩:=PV h
   have hr:∀ w',(execOp a.eval ⟨dst,.fieldAddr s x f,type,pos,after,guard⟩).run P w' = .ok (.value (.pointer (some (ad.add fl.offset)))) w':=fun w'=>by
    simp [execOp,he,hx,Instr.fieldAt,bU hu,hf,Instr.sureAddr,fieldPlace,dX hi,hz]
   have e:=h0.symm.trans (hr w)
   cases e
   exact hr w'
  ·rename_i t x ix
   simp only [dB] at hm
   split at hm
   ·rename_i el hu
    simp only [softD,elemD,hu] at h
    split at h
    ·rename_i ti hi
     obtain ⟨ad,n,c,k,j,hx,hj,g1,g2,-⟩:=h
     have hr:∀ w',(execOp a.eval ⟨dst,.indexAddr t x ix,type,pos,after,guard⟩).run P w' = .ok (.value (.pointer (some (ad.add (j.toNat * ti.size))))) w':=fun w'=>by
      simp [execOp,he,hx,hj,Instr.indexAt,bU hu,asIntOf,dX hi,g1,g2]
     have e:=h0.symm.trans (hr w)
     cases e
     exact hr w'
    ·exact h.elim
   ·cases hm
 ·exact h1 w' hE

theorem MN {F:Nat → Prop}:∀ {l:List Nat} {i:Nat},allD l F → i ∈ l → F i
 | [],_,_,h=>by cases h
 | [j],i,h,hm=>by simp at hm;subst hm;exact h
 | j :: k :: r,i,h,hm=>by
  obtain ⟨h1,h2⟩:=h
  cases hm with
  | head=>exact h1
  | tail _ hm=>exact MN h2 hm

theorem aAF {b:Bool} {w w':World} {A:Prop} (h:exq b w w' A):(b = true → Ext w w') ∧ A:=by
 cases b
 ·exact ⟨(fun e=>by cases e),h⟩
 ·exact ⟨fun _=>h.1,h.2⟩

theorem Z9 (hs:Region.noSelect ops = true) {W:List Nat} (hW:∀ (i:Nat) (o:Oper),ops[i]? = some o → ∀ d,o.dst = some d → d ∈ W) {K:Cont}:∀ (m:Nat) (listed:Array Bool) (env:Env) (a:Act) (w:World),
  drD P n quiet ops m listed env w K → Ag n env a → Down ops listed → AnyW P Ext quiet ops (fun a' w'=>∃ env',K env' w' ∧ Ag n env' a' ∧ Same W env env') m listed a w:=by
 intro m
 induction m with
 | zero=>
  intro listed env a w h ha _ w1 he
  unfold drD at h
  split at h
  ·rename_i h0;exact ⟨h0,env,h w1 he,ha,Same.refl _ _⟩
  ·exact h.elim
 | succ m ih=>
  intro listed env a w h ha hd
  have weaken:∀ {env1:Env} {m:Nat} {listed:Array Bool} {a:Act} {w:World},Same W env env1 → AnyW P Ext quiet ops (fun a' w'=>∃ env',K env' w' ∧ Ag n env' a' ∧ Same W env1 env') m listed a w →
    AnyW P Ext quiet ops (fun a' w'=>∃ env',K env' w' ∧ Ag n env' a' ∧ Same W env env') m listed a w:=by
   intro env1 m
   induction m with
   | zero=>intro listed a w hS h w1 he;obtain ⟨h1,e,h2,h3,h4⟩:=h w1 he;exact ⟨h1,e,h2,h3,hS.trans h4⟩
   | succ m ihm=>
    intro listed a w hS h w1 he
    obtain ⟨h1,h2⟩:=h w1 he
    refine ⟨fun h0=>?_,fun i hi=>wpOp_mono (fun a' w' ⟨hE,hh⟩=>⟨hE,ihm hS hh⟩) (h2 i hi)⟩
    obtain ⟨e,h2,h3,h4⟩:=h1 h0
    exact ⟨e,h2,h3,hS.trans h4⟩
  unfold drD at h
  split at h
  ·rename_i h0
   intro w1 he
   exact ⟨fun _=>⟨env,h w1 he,ha,Same.refl _ _⟩,fun i hi=>by rw [h0] at hi;cases hi⟩
  ·rename_i r0 rs hr
   split at h
   ·rename_i i hp
    obtain ⟨hmem,o,ho,hq,hfree⟩:=uU _ hp
    have hin:i ∈ Region.ready .any ops listed:=by rw [hr];exact hmem
    simp only [ho] at h
    obtain ⟨env1,ha1,hs1,hc⟩:=z9 (W:=W) h ha
    refine weaken hs1 ?_
    have first:∀ {v:Value},Yc P Ext ops (dB P quiet o) o v a w → AnyW P Ext quiet ops (fun a' w'=>∃ env',K env' w' ∧ Ag n env' a' ∧ Same W env1 env') m (listed.setIfInBounds i true) (a.put o.dst v) w → _:=fun {v} hy H=>
     FZ (P:=P) (E:=Ext) (Ei:=Ext) (quiet:=quiet) (fun _ _ h=>h) (fun _ _ h=>h) (fun _ _ _ h k=>h.trans k) (fun _ _ _ h=>h) ho (Region.noSelect_spec hs) rfl hq m listed a w hd (Region.free_spec ho hfree) hin hy H
    have rest:∀ {v:Value} {kb:Option (Option Bool)},putD n env1 o.dst v kb (fun env'=>drD P n quiet ops m (listed.setIfInBounds i true) env' w K) → (∀ b,kb = some b → v = kv b) →
      AnyW P Ext quiet ops (fun a' w'=>∃ env',K env' w' ∧ Ag n env' a' ∧ Same W env1 env') m (listed.setIfInBounds i true) (a.put o.dst v) w:=by
     intro v kb hp hkb
     obtain ⟨env2,h2,ha2,hs2⟩:=uE hp ha1 hkb (hW i o ho)
     have:=ih _ env2 _ w h2 ha2 (zM hd hin)
     have wk:∀ {m:Nat} {listed:Array Bool} {a:Act} {w:World},AnyW P Ext quiet ops (fun a' w'=>∃ env',K env' w' ∧ Ag n env' a' ∧ Same W env2 env') m listed a w →
       AnyW P Ext quiet ops (fun a' w'=>∃ env',K env' w' ∧ Ag n env' a' ∧ Same W env1 env') m listed a w:=by
      intro m
      induction m with
      | zero=>intro listed a w h w1 he;obtain ⟨h1,e,h2,h3,h4⟩:=h w1 he;exact ⟨h1,e,h2,h3,hs2.trans h4⟩
      | succ m ihm=>
       intro listed a w h w1 he
       obtain ⟨h1,h2⟩:=h w1 he
       refine ⟨fun h0=>?_,fun i hi=>wpOp_mono (fun a' w' ⟨hE,hh⟩=>⟨hE,ihm hh⟩) (h2 i hi)⟩
       obtain ⟨e,h2,h3,h4⟩:=h1 h0
       exact ⟨e,h2,h3,hs2.trans h4⟩
     exact wk this
    rcases hc with ⟨hw,hA⟩ | ⟨hw,hB⟩
    ·split at hA
     ·rename_i hsoft
      obtain ⟨v,kb,hrun,hp,hkb⟩:=MH ha1.eval ha1.ok hsoft hA
      exact first (.inl ⟨hw,fun w' hw'=>by rw [hrun w' hw'];exact ⟨rfl,rfl⟩⟩) (rest hp hkb)
     ·rename_i hsoft
      have hnm:dB P quiet o = false:=by
       cases hm:dB P quiet o with
       | false=>rfl
       | true=>
        obtain ⟨dst,op,type,pos,after,guard⟩:=o
        cases op <;> first | (simp [dB] at hm;done) | (simp [b6,EX] at hsoft)
      obtain ⟨dst,op,type,pos,after,guard⟩:=o
      cases op <;> first | exact hA.elim | skip
      rename_i c
      obtain ⟨callee,args,argTypes⟩:=c
      cases callee <;> first | exact hA.elim | skip
      rename_i f
      obtain ⟨v,hv,hp⟩:=hA
      refine first (.inl ⟨hw,fun w' hw'=>?_⟩) (rest hp fun b e=>by cases e)
      have hE:Ext w w':=hw'.resolve_left (by rw [hnm];simp)
      have hx:execOp a.eval ⟨dst,.call ⟨.value f,args,argTypes⟩,type,pos,after,guard⟩ = (do let d ← Deferred.ofValue (ev env1 f) (evs env1 args).toArray;invoke d.target d.args):=by
       rw [D3 ha1.eval,← ha1.eval]
       simp only [execOp,resolve]
      obtain ⟨T,⟨fn,fst,cap,hfv,hb,hcall⟩ | ⟨fn,fst,cap,u,hfv,hr,hu⟩,hT⟩:=hv w' hE
      ·rw [hx,FW hfv hb]
       exact ⟨rfl,hcall.mono fun e w3 ⟨u,he,hu⟩=>⟨by rw [he,(hT _ _ hu).1],(hT _ _ hu).2⟩⟩
      ·rw [hx,CM hfv,hr]
       exact ⟨rfl,(hT _ _ hu).1⟩
    ·exact first (.inr ⟨hw,rfl⟩) (rest hB fun b e=>by cases e;rfl)
   ·intro w1 he
    refine ⟨(fun h0=>by rw [h0] at hr;cases hr),fun i hi=>?_⟩
    have hi0:=hi
    rw [hr] at hi
    have hF:=MN (h w1 he) hi
    cases ho:ops[i]? with
    | none=>simp only [ho] at hF
    | some o=>
     simp only [ho] at hF
     obtain ⟨env1,ha1,hs1,hc⟩:=z9 (W:=W) hF ha
     unfold wpOp
     simp only [ho]
     have rest:∀ {v:Value} {kb:Option (Option Bool)} {w2:World},(∀ b,kb = some b → v = kv b) → putD n env1 o.dst v kb (fun env'=>drD P n quiet ops m (listed.setIfInBounds i true) env' w2 K) →
       AnyW P Ext quiet ops (fun a' w'=>∃ env',K env' w' ∧ Ag n env' a' ∧ Same W env env') m (listed.setIfInBounds i true) (a.put o.dst v) w2:=by
      intro v kb w2 hkb hp
      obtain ⟨env2,h2,ha2,hs2⟩:=uE hp ha1 hkb (hW i o ho)
      exact weaken (hs1.trans hs2) (ih _ env2 _ w2 h2 ha2 (zM hd hi0))
     rcases hc with ⟨hw,hA⟩ | ⟨hw,hB⟩
     ·rw [hw]
      refine .inl ?_
      split at hA
      ·exact hA.elim
      rename_i hso
      refine Oper.wp_mono (fun a' w' ⟨v,e,hp⟩=>?_) (P4 ha1.eval hA)
      obtain ⟨hE,hp⟩:=aAF hp
      rw [e]
      exact ⟨⟨hE,fun h=>(by unfold F2 at h;rw [ho] at h;exact absurd h (by simpa using hso))⟩,rest (fun b e=>by cases e) hp⟩
     ·rw [hw]
      exact ⟨⟨fun _=>Ext.refl _,fun _=>Ext.refl _⟩,rest (fun b e=>by cases e;rfl) hB⟩

theorem chX {D:Nat → Prop} {w w':World} (h:Ext w w'):Ch D w w':=⟨h.os,h.tape,h.output,h.size,fun k hk _=>h.block k hk⟩
theorem chT {D:Nat → Prop} {w w' w'':World} (h:Ch D w w') (k:Ch D w' w''):Ch D w w'':=
 ⟨k.os.trans h.os,k.tape.trans h.tape,k.output.trans h.output,Nat.le_trans h.size k.size,fun i hi hn=>(k.block i (by have:=h.size;omega) hn).trans (h.block i hi hn)⟩
theorem NB {D:Nat → Prop} {w w':World} (h:Ch D w w'):Ext (bare w) w':=⟨h.os,h.tape,h.output,Nat.zero_le _,fun k hk=>absurd hk (Nat.not_lt_zero k)⟩
theorem fr_ch (D:Nat → Prop):FrE (Ch D):=⟨fun _ _ h=>chX h,fun _ _ _ h k=>chT h k,fun _ _ h=>NB h⟩
theorem ZJ {E:World → World → Prop} {b:Bool} {w w':World} {A:Prop} (h:exqE E b w w' A):(b = true → E w w') ∧ A:=by
 cases b
 ·exact ⟨(fun e=>by cases e),h⟩
 ·exact ⟨fun _=>h.1,h.2⟩
theorem W6 {E:World → World → Prop} (hF:FrE E) {o:Oper} {env:Env} {a:Act} {w:World} {K:Value → Option (Option Bool) → Prop} (he:a.eval = ev env) (hk:EnvOk env) (hs:b6 P o = true) (h:softE P E o env w K):
  ∃ v kb,(∀ w',(dB P quiet o = true ∨ E w w') → (execOp a.eval o).run P w' = .ok (.value v) w') ∧ K v kb ∧ (∀ b,kb = some b → v = kv b):=by
 have other:softD P o env (bare w) K → ∃ v kb,(∀ w',(dB P quiet o = true ∨ E w w') → (execOp a.eval o).run P w' = .ok (.value v) w') ∧ K v kb ∧ (∀ b,kb = some b → v = kv b):=fun h=>by
  obtain ⟨v,kb,h1,h2,h3⟩:=MH he hk hs h
  exact ⟨v,kb,fun w' hw'=>h1 w' (hw'.imp id (hF.bare _ _)),h2,h3⟩
 obtain ⟨dst,op,type,pos,after,guard⟩:=o
 cases op <;> first | exact other h | skip
 rename_i t x
 obtain ⟨v,hv,hst,hK⟩:=OL (P:=P) (show ldD P w t (ev env x) fun v=>(∀ w',E w w' → ldD P w' t (ev env x) fun u=>u = v) ∧ K v none from h)
 refine ⟨v,none,fun w' hw'=>?_,hK,fun b e=>by cases e⟩
 have hC:E w w':=hw'.resolve_left (by simp [dB])
 obtain ⟨u,hu,e⟩:=OL (P:=P) (hst w' hC)
 subst e
 simp only [execOp,he]
 have:=hu w' (Ext.refl _)
 simp [this]
theorem aAB {E:World → World → Prop} (hFr:FrE E) (hs:Region.noSelect ops = true) {W:List Nat} (hW:∀ (i:Nat) (o:Oper),ops[i]? = some o → ∀ d,o.dst = some d → d ∈ W) {K:Cont}:∀ (m:Nat) (listed:Array Bool) (env:Env) (a:Act) (w:World),
  drE P n quiet ops E m listed env w K → Ag n env a → Down ops listed → AnyW P E quiet ops (fun a' w'=>∃ env',K env' w' ∧ Ag n env' a' ∧ Same W env env') m listed a w:=by
 intro m
 induction m with
 | zero=>
  intro listed env a w h ha _ w1 he
  unfold drE at h
  split at h
  ·rename_i h0;exact ⟨h0,env,h w1 he,ha,Same.refl _ _⟩
  ·exact h.elim
 | succ m ih=>
  intro listed env a w h ha hd
  have weaken:∀ {env1:Env} {m:Nat} {listed:Array Bool} {a:Act} {w:World},Same W env env1 → AnyW P E quiet ops (fun a' w'=>∃ env',K env' w' ∧ Ag n env' a' ∧ Same W env1 env') m listed a w →
    AnyW P E quiet ops (fun a' w'=>∃ env',K env' w' ∧ Ag n env' a' ∧ Same W env env') m listed a w:=by
   intro env1 m
   induction m with
   | zero=>intro listed a w hS h w1 he;obtain ⟨h1,e,h2,h3,h4⟩:=h w1 he;exact ⟨h1,e,h2,h3,hS.trans h4⟩
   | succ m ihm=>
    intro listed a w hS h w1 he
    obtain ⟨h1,h2⟩:=h w1 he
    refine ⟨fun h0=>?_,fun i hi=>wpOp_mono (fun a' w' ⟨hE,hh⟩=>⟨hE,ihm hS hh⟩) (h2 i hi)⟩
    obtain ⟨e,h2,h3,h4⟩:=h1 h0
    exact ⟨e,h2,h3,hS.trans h4⟩
  unfold drE at h
  split at h
  ·rename_i h0
   intro w1 he
   exact ⟨fun _=>⟨env,h w1 he,ha,Same.refl _ _⟩,fun i hi=>by rw [h0] at hi;cases hi⟩
  ·rename_i r0 rs hr
   split at h
   ·rename_i i hp
    obtain ⟨hmem,o,ho,hq,hfree⟩:=uU _ hp
    have hin:i ∈ Region.ready .any ops listed:=by rw [hr];exact hmem
    simp only [ho] at h
    obtain ⟨env1,ha1,hs1,hc⟩:=z9 (W:=W) h ha
    refine weaken hs1 ?_
    have first0:∀ {v:Value},needS P quiet ops i = false → Yc P Ext ops (dB P quiet o) o v a w → AnyW P E quiet ops (fun a' w'=>∃ env',K env' w' ∧ Ag n env' a' ∧ Same W env1 env') m (listed.setIfInBounds i true) (a.put o.dst v) w → _:=fun {v} hn hy H=>
     FZ (P:=P) (E:=E) (Ei:=Ext) (quiet:=quiet) hFr.ext (fun _ _ h=>h) (fun _ _ _ h k=>h.trans k) (fun h=>(by rw [hn] at h;cases h)) ho (Region.noSelect_spec hs) rfl hq m listed a w hd (Region.free_spec ho hfree) hin hy H
    have first:∀ {v:Value},Yc P E ops (dB P quiet o) o v a w → AnyW P E quiet ops (fun a' w'=>∃ env',K env' w' ∧ Ag n env' a' ∧ Same W env1 env') m (listed.setIfInBounds i true) (a.put o.dst v) w → _:=fun {v} hy H=>
     FZ (P:=P) (E:=E) (Ei:=E) (quiet:=quiet) hFr.ext hFr.ext hFr.trans (fun _ _ _ h=>h) ho (Region.noSelect_spec hs) rfl hq m listed a w hd (Region.free_spec ho hfree) hin hy H
    have rest:∀ {v:Value} {kb:Option (Option Bool)},putD n env1 o.dst v kb (fun env'=>drE P n quiet ops E m (listed.setIfInBounds i true) env' w K) → (∀ b,kb = some b → v = kv b) →
      AnyW P E quiet ops (fun a' w'=>∃ env',K env' w' ∧ Ag n env' a' ∧ Same W env1 env') m (listed.setIfInBounds i true) (a.put o.dst v) w:=by
     intro v kb hp hkb
     obtain ⟨env2,h2,ha2,hs2⟩:=uE hp ha1 hkb (hW i o ho)
     have:=ih _ env2 _ w h2 ha2 (zM hd hin)
     have wk:∀ {m:Nat} {listed:Array Bool} {a:Act} {w:World},AnyW P E quiet ops (fun a' w'=>∃ env',K env' w' ∧ Ag n env' a' ∧ Same W env2 env') m listed a w →
       AnyW P E quiet ops (fun a' w'=>∃ env',K env' w' ∧ Ag n env' a' ∧ Same W env1 env') m listed a w:=by
      intro m
      induction m with
      | zero=>intro listed a w h w1 he;obtain ⟨h1,e,h2,h3,h4⟩:=h w1 he;exact ⟨h1,e,h2,h3,hs2.trans h4⟩
      | succ m ihm=>
       intro listed a w h w1 he
       obtain ⟨h1,h2⟩:=h w1 he
       refine ⟨fun h0=>?_,fun i hi=>wpOp_mono (fun a' w' ⟨hE,hh⟩=>⟨hE,ihm hh⟩) (h2 i hi)⟩
       obtain ⟨e,h2,h3,h4⟩:=h1 h0
       exact ⟨e,h2,h3,hs2.trans h4⟩
     exact wk this
    rcases hc with ⟨hw,hA⟩ | ⟨hw,hB⟩
    ·split at hA
     ·rename_i hsoft
      unfold softF at hA
      split at hA
      ·obtain ⟨v,kb,hrun,hp,hkb⟩:=W6 hFr ha1.eval ha1.ok hsoft hA
       exact first (.inl ⟨hw,fun w' hw'=>by rw [hrun w' hw'];exact ⟨rfl,rfl⟩⟩) (rest hp hkb)
      ·rename_i hns
       obtain ⟨v,kb,hrun,hp,hkb⟩:=MH ha1.eval ha1.ok hsoft hA
       exact first0 hns (.inl ⟨hw,fun w' hw'=>by rw [hrun w' hw'];exact ⟨rfl,rfl⟩⟩) (rest hp hkb)
     ·rename_i hsoft
      have hnm:dB P quiet o = false:=by
       cases hm:dB P quiet o with
       | false=>rfl
       | true=>
        obtain ⟨dst,op,type,pos,after,guard⟩:=o
        cases op <;> first | (simp [dB] at hm;done) | (simp [b6,EX] at hsoft)
      obtain ⟨dst,op,type,pos,after,guard⟩:=o
      cases op <;> first | exact hA.elim | skip
      rename_i c
      obtain ⟨callee,args,argTypes⟩:=c
      cases callee <;> first | exact hA.elim | skip
      rename_i f
      obtain ⟨v,hv,hp⟩:=hA
      refine first (.inl ⟨hw,fun w' hw'=>?_⟩) (rest hp fun b e=>by cases e)
      have hE:E w w':=hw'.resolve_left (by rw [hnm];simp)
      have hx:execOp a.eval ⟨dst,.call ⟨.value f,args,argTypes⟩,type,pos,after,guard⟩ = (do let d ← Deferred.ofValue (ev env1 f) (evs env1 args).toArray;invoke d.target d.args):=by
       rw [D3 ha1.eval,← ha1.eval]
       simp only [execOp,resolve]
      obtain ⟨T,⟨fn,fst,cap,hfv,hb,hcall⟩ | ⟨fn,fst,cap,u,hfv,hr,hu⟩,hT⟩:=hv w' hE
      ·rw [hx,FW hfv hb]
       exact ⟨rfl,hcall.mono fun e w3 ⟨u,he,hu⟩=>⟨by rw [he,(hT _ _ hu).1],(hT _ _ hu).2⟩⟩
      ·rw [hx,CM hfv,hr]
       exact ⟨rfl,(hT _ _ hu).1⟩
    ·exact first (.inr ⟨hw,rfl⟩) (rest hB fun b e=>by cases e;rfl)
   ·intro w1 he
    refine ⟨(fun h0=>by rw [h0] at hr;cases hr),fun i hi=>?_⟩
    have hi0:=hi
    rw [hr] at hi
    have hF:=MN (h w1 he) hi
    cases ho:ops[i]? with
    | none=>simp only [ho] at hF
    | some o=>
     simp only [ho] at hF
     obtain ⟨env1,ha1,hs1,hc⟩:=z9 (W:=W) hF ha
     unfold wpOp
     simp only [ho]
     have rest:∀ {v:Value} {kb:Option (Option Bool)} {w2:World},(∀ b,kb = some b → v = kv b) → putD n env1 o.dst v kb (fun env'=>drE P n quiet ops E m (listed.setIfInBounds i true) env' w2 K) →
       AnyW P E quiet ops (fun a' w'=>∃ env',K env' w' ∧ Ag n env' a' ∧ Same W env env') m (listed.setIfInBounds i true) (a.put o.dst v) w2:=by
      intro v kb w2 hkb hp
      obtain ⟨env2,h2,ha2,hs2⟩:=uE hp ha1 hkb (hW i o ho)
      exact weaken (hs1.trans hs2) (ih _ env2 _ w2 h2 ha2 (zM hd hi0))
     rcases hc with ⟨hw,hA⟩ | ⟨hw,hB⟩
     ·rw [hw]
      refine .inl ?_
      split at hA
      ·exact hA.elim
      rename_i hso
      refine Oper.wp_mono (fun a' w' ⟨v,e,hp⟩=>?_) (P4 ha1.eval hA)
      obtain ⟨hE,hp⟩:=ZJ hp
      rw [e]
      exact ⟨⟨hE,fun h=>(by unfold F2 at h;rw [ho] at h;exact absurd h (by simpa using hso))⟩,rest (fun b e=>by cases e) hp⟩
     ·rw [hw]
      exact ⟨⟨fun _=>hFr.ext _ _ (Ext.refl _),fun _=>Ext.refl _⟩,rest (fun b e=>by cases e;rfl) hB⟩

theorem ZE {w:World} {env:Env} {K:Cont} (h:match quiet.contains 1000001 with
   | false=>∃ D:Nat → Prop,drE P n quiet ops (Ch D) ops.size (Array.replicate ops.size false) env w K
   | true=>∃ E:World → World → Prop,FrE E ∧ drE P n quiet ops E ops.size (Array.replicate ops.size false) env w K):
  ∃ E:World → World → Prop,FrE E ∧ drE P n quiet ops E ops.size (Array.replicate ops.size false) env w K:=by
 split at h
 ·obtain ⟨D,h⟩:=h
  exact ⟨_,fr_ch D,h⟩
 ·exact h

end
end Go.Vc

namespace Go.Vc
section
variable {P:Program} {n:Nat}

def exOf:Exit → Option Ex
 | .normal=>some .nrm
 | .exit id=>some (.ext id)
 | .ret=>some .ret
 | _=>none
def Rch (n:Nat) (W:List Nat) (env:Env) (Q:Ex → Cont):Exit → Act → World → Prop:=
 fun e a w=>∃ ex env',exOf e = some ex ∧ Q ex env' w ∧ Ag n env' a ∧ Same W env env'

theorem Rch.weaken {W W':List Nat} {env env1:Env} {Q:Ex → Cont} (hS:Same W' env env1) (hW:∀ s,s ∈ W → s ∈ W') {e:Exit} {a:Act} {w:World} (h:Rch n W env1 Q e a w):Rch n W' env Q e a w:=by
 obtain ⟨ex,env',h1,h2,h3,h4⟩:=h
 exact ⟨ex,env',h1,h2,h3,hS.trans (h4.mono hW)⟩

theorem PD {W:List Nat} {ys:Nat → Value} {env:Env} (s:Nat):look (bindY W ys env) s = if s ∈ W then ys s else look env s:=by
 induction W with
 | nil=>simp [bindY]
 | cons x r ih=>
  simp only [bindY,kA,ih]
  by_cases h:x = s
  ·subst h;simp
  ·have h':¬ s = x:=fun e=>h e.symm
   simp [h,h']
theorem O6 {keep:List Nat} {xs:List Value} {env:Env}:∀ {i:Nat} (f:Nat → Value),(∀ j,j < keep.length → gx xs (i + j) = f (keep.getD j 0)) → ∀ s,look (bindK keep i xs env) s = if s ∈ keep then f s else look env s:=by
 induction keep with
 | nil=>intro i f _ s;simp [bindK]
 | cons x r ih=>
  intro i f h s
  simp only [bindK,kA]
  by_cases e:x = s
  ·subst e
   have:=h 0 (by simp)
   simp at this
   simp [this]
  ·have e':¬ s = x:=fun h=>e h.symm
   rw [if_neg e,ih (i:=i + 1) f (fun j hj=>by
    have:=h (j + 1) (by simp;omega)
    simp only [List.getD_cons_succ] at this
    rw [← this];congr 1;omega) s]
   simp [e']
theorem UP {keep:List Nat} {env:Env} (j:Nat) (hj:j < keep.length):gx (getK keep env) (0 + j) = look env (keep.getD j 0):=by
 simp [gx_eq,getK,hj]
theorem YS {W:List Nat} {ys:Nat → Value} {env:Env} (h:EnvOk env):EnvOk (bindY W ys env):=by
 induction W with
 | nil=>exact h
 | cons x r ih=>exact ih.cons fun b e=>by cases e
theorem YB {keep:List Nat} {i:Nat} {xs:List Value} {env:Env} (h:EnvOk env):EnvOk (bindK keep i xs env):=by
 induction keep generalizing i with
 | nil=>exact h
 | cons x r ih=>exact ih.cons fun b e=>by cases e

theorem Ag.rebind {env env0:Env} {a:Act} {W keep:List Nat} (h:Ag n env a) (hS:Same W env0 env) (ho:EnvOk env0):Ag n (bindK keep 0 (getK keep env) (bindY W (look env) env0)) a:=by
 have hl:∀ s,look (bindK keep 0 (getK keep env) (bindY W (look env) env0)) s = look env s:=by
  intro s
  rw [O6 (f:=look env) (fun j hj=>UP j hj),PD]
  split
  ·rfl
  ·split
   ·rfl
   ·rename_i h1;exact (hS s h1).symm
 exact ⟨h.defers,h.size,fun s=>by rw [hl s];exact h.vals s,YB (YS ho)⟩
theorem LN {env env0:Env} {W keep:List Nat} (hS:Same W env0 env):Same W env0 (bindK keep 0 (getK keep env) (bindY W (look env) env0)):=by
 intro s hs
 rw [O6 (f:=look env) (fun j hj=>UP j hj),PD,if_neg hs]
 split
 ·exact hS s hs
 ·rfl

theorem UI {id:Nat} {ops:Array Oper} {draw eh:Bool} {quiet:List Nat} {env:Env} {a:Act} {w:World} {K:Cont} {Q:Exit → Act → World → Prop} (hm:P.follows .mixedOrders = true) (hsel:draw = true → Region.noSelect ops = true)
  (h:regD P n ops draw eh quiet env w K) (ha:Ag n env a) (hQ:∀ env' a' w',K env' w' → Ag n env' a' → Same (dsts ops.toList) env env' → Q .normal a' w'):(Code.region id ops draw).wp P Q a w:=by
 have hW:∀ (i:Nat) (o:Oper),ops[i]? = some o → ∀ d,o.dst = some d → d ∈ dsts ops.toList:=fun i o ho d hd=>
  List.mem_filterMap.2 ⟨o,by simpa using Array.mem_of_getElem? ho,hd⟩
 cases draw with
 | false=>
  refine wp_region ?_
  rw [List.range_eq_range',← Array.length_toList,wpOps_eq_wpList ops.toList 0 (by simp)]
  exact ZR (W:=dsts ops.toList) ops.toList env a w h ha (fun o ho d hd=>List.mem_filterMap.2 ⟨o,ho,hd⟩) hQ
 | true=>
  refine wp_region_any hm ?_
  cases eh with
  | false=>
   have:=Z9 (hsel rfl) (W:=dsts ops.toList) hW ops.size _ env a w h ha (RD _)
   refine wZ (fun a' w' ⟨env',h1,h2,h3⟩=>hQ env' a' w' h1 h2 h3) _ _ _ _ (this.later ?_)
   exact Ext.drew w
  | true=>
   obtain ⟨E,hFr,h⟩:=ZE h
   have:=aAB hFr (hsel rfl) (W:=dsts ops.toList) hW ops.size _ env a w h ha (RD _)
   refine wZ (fun a' w' ⟨env',h1,h2,h3⟩=>hQ env' a' w' h1 h2 h3) _ _ _ _ (this.later ?_)
   exact Ext.drew w

theorem SU {keep W:List Nat} {env:Env} {K:Cont} {F:Cont → Prop} (h:joinD n keep W env K F) (ho:EnvOk env):
  ∃ J:Cont,F J ∧ ∀ env' a' w',J env' w' → Ag n env' a' → Same W env env' → ∃ env2,K env2 w' ∧ Ag n env2 a' ∧ Same W env env2:=by
 unfold joinD at h
 split at h
 ·refine ⟨_,h,fun env' a' w' hJ ha' hS=>⟨_,hJ (look env'),ha'.rebind hS ho,LN hS⟩⟩
 ·exact h.elim

theorem YJ {env:Env} {c:Operand} {A B:Env → Prop} {a:Act} (h:condD env c A B) (ha:Ag n env a) (W:List Nat):
  ∃ b env',a.eval c = .bool b ∧ Ag n env' a ∧ Same W env env' ∧ (if b then A env' else B env'):=by
 have he:a.eval c = ev env c:=by rw [ha.eval]
 have evb:∀ b,evk env c = some b → ev env c = kv b:=by
  intro b hx
  cases c with
  | tmp t=>exact ha.ok t b hx
  | const v=>cases v <;> simp [evk] at hx;subst hx;rfl
  | _=>simp [evk] at hx
 unfold condD at h
 split at h
 ·rename_i hk;exact ⟨true,env,he.trans (evb _ hk),ha,Same.refl _ _,by simpa using h⟩
 ·rename_i hk;exact ⟨false,env,he.trans (evb _ hk),ha,Same.refl _ _,by simpa using h⟩
 ·exact h.elim
 ·split at h
  ·rename_i s _
   obtain ⟨b,hb,h1,h2⟩:=h
   cases b
   ·exact ⟨false,_,he.trans hb,ha.learn hb,mW hb,by simpa using h2 rfl⟩
   ·exact ⟨true,_,he.trans hb,ha.learn hb,mW hb,by simpa using h1 rfl⟩
  ·obtain ⟨b,hb,h1,h2⟩:=h
   refine ⟨b,env,he.trans hb,ha,Same.refl _ _,?_⟩
   cases b
   ·simpa using h2 rfl
   ·simpa using h1 rfl

def noSel:Code → Bool
 | .region _ ops _=>Region.noSelect ops
 | .seq a b=>noSel a && noSel b
 | .cond _ a b=>noSel a && noSel b
 | .block _ b=>noSel b
 | .loop b=>noSel b
 | .scope b=>noSel b
 | _=>true

theorem aAH (hm:P.follows .mixedOrders = true):∀ (c:Code) (h:Hint) (Q:Ex → Cont) (env:Env) (a:Act) (w:World),noSel c = true → den P n c h Q env w → Ag n env a →
  c.wp P (Rch n (wr c) env Q) a w:=by
 intro c
 induction c with
 | skip=>intro h Q env a w _ hd ha;exact wp_skip ⟨.nrm,env,rfl,hd,ha,Same.refl _ _⟩
 | label l=>intro h Q env a w _ hd ha;exact wp_label ⟨.nrm,env,rfl,hd,ha,Same.refl _ _⟩
 | ret=>intro h Q env a w _ hd ha;exact wp_ret ⟨.ret,env,rfl,hd,ha,Same.refl _ _⟩
 | exit id=>intro h Q env a w _ hd ha;exact wp_exit ⟨.ext id,env,rfl,hd,ha,Same.refl _ _⟩
 | rangeFunc=>intro h Q env a w _ hd _;exact hd.elim
 | goto=>intro h Q env a w _ hd _;exact hd.elim
 | refuse=>intro h Q env a w _ hd _;exact hd.elim
 | region id ops draw=>
  intro h Q env a w hns hd ha
  simp only [den] at hd
  split at hd
  ·exact UI hm (fun _=>hns) hd ha fun env' a' w' hK hA hS=>⟨.nrm,env',rfl,hK,hA,hS⟩
  ·obtain ⟨J,hJ,hK⟩:=SU hd ha.ok
   exact UI hm (fun _=>hns) hJ ha fun env' a' w' hj hA hS=>by
    obtain ⟨env2,h1,h2,h3⟩:=hK env' a' w' hj hA hS
    exact ⟨.nrm,env2,rfl,h1,h2,h3⟩
 | seq x y ihx ihy=>
  intro h Q env a w hns hd ha
  simp only [noSel,Bool.and_eq_true] at hns
  refine wp_seq (wp_mono (ihx (hL h) _ env a w hns.1 hd ha) fun e a' w' hr=>?_)
  obtain ⟨ex,env',h1,h2,h3,h4⟩:=hr
  have h4':Same (wr (.seq x y)) env env':=h4.mono fun s hs=>by simp [wr,hs]
  cases e <;> simp only [exOf,Option.some.injEq] at h1 <;> first | (cases h1;done) | skip
  ·subst h1
   refine wp_mono (ihy (hR h) Q env' a' w' hns.2 h2 h3) fun e a w hr=>hr.weaken h4' fun s hs=>by simp [wr,hs]
  ·subst h1;exact ⟨_,env',rfl,h2,h3,h4'⟩
  ·subst h1;exact ⟨_,env',rfl,h2,h3,h4'⟩
 | cond c x y ihx ihy=>
  intro h Q env a w hns hd ha
  simp only [noSel,Bool.and_eq_true] at hns
  simp only [den] at hd
  have go:∀ (Q1:Ex → Cont),condD env c (fun env=>den P n x (hL h) Q1 env w) (fun env=>den P n y (hR h) Q1 env w) → (Code.cond c x y).wp P (Rch n (wr x ++ wr y) env Q1) a w:=by
   intro Q1 hc
   obtain ⟨b,env',hb,hA,hS,hr⟩:=YJ hc ha (wr x ++ wr y)
   cases b
   ·exact wp_cond hb (wp_mono (ihy (hR h) Q1 env' a w hns.2 (by simpa using hr) hA) fun e a w hr=>hr.weaken hS fun s hs=>by simp [hs])
   ·exact wp_cond hb (wp_mono (ihx (hL h) Q1 env' a w hns.1 (by simpa using hr) hA) fun e a w hr=>hr.weaken hS fun s hs=>by simp [hs])
  split at hd
  ·exact go Q hd
  ·obtain ⟨J,hJ,hK⟩:=SU hd ha.ok
   refine wp_mono (go (thenD J Q) hJ) fun e a' w' hr=>?_
   obtain ⟨ex,env',h1,h2,h3,h4⟩:=hr
   cases ex with
   | nrm=>
    obtain ⟨env2,g1,g2,g3⟩:=hK env' a' w' h2 h3 h4
    exact ⟨.nrm,env2,h1,g1,g2,g3⟩
   | ext i=>exact ⟨_,env',h1,h2,h3,h4⟩
   | ret=>exact ⟨_,env',h1,h2,h3,h4⟩
 | block id b ih=>
  intro h Q env a w hns hd ha
  refine wp_block (wp_mono (ih h _ env a w hns hd ha) fun e a' w' hr=>?_)
  obtain ⟨ex,env',h1,h2,h3,h4⟩:=hr
  cases e <;> simp only [exOf,Option.some.injEq] at h1 <;> first | (cases h1;done) | skip
  ·subst h1;exact ⟨_,env',rfl,h2,h3,h4⟩
  ·rename_i i
   subst h1
   simp only [Exit.inBlock,WS] at h2 ⊢
   split at h2
   ·rename_i e
    rw [if_pos (Nat.eq_of_beq_eq_true e)]
    exact ⟨.nrm,env',rfl,h2,h3,h4⟩
   ·rename_i e
    rw [if_neg (fun h=>by subst h;simp at e)]
    exact ⟨_,env',rfl,h2,h3,h4⟩
  ·subst h1;exact ⟨_,env',rfl,h2,h3,h4⟩
 | scope b ih=>
  intro h Q env a w hns hd ha
  refine wp_scope_straight (wp_mono (ih h _ env a w hns hd ha) fun e a' w' hr=>?_)
  obtain ⟨ex,env',h1,h2,h3,h4⟩:=hr
  cases e <;> simp only [exOf,Option.some.injEq] at h1 <;> first | (cases h1;done) | skip
  all_goals (subst h1;exact ⟨_,env',rfl,h2,h3,h4⟩)
 | loop b ih=>
  intro h Q env a w hns hd ha
  simp only [den] at hd
  split at hd
  ·obtain ⟨I,⟨m0,h0⟩,hround⟩:=hd
   generalize hkk:(hK h).getD [] = keep at *
   refine wp_loop_ghost (fun m a' w'=>∃ env',Ag n env' a' ∧ Same (wr b) env env' ∧ I m (getK keep env') w') m0 ⟨env,ha,Same.refl _ _,h0⟩ ?_
   rintro m a' w' ⟨env',ha',hS',hI⟩
   have hb:=hround m (getK keep env') w' hI (look env')
   refine wp_mono (ih (hL h) _ _ a' w' hns hb (ha'.rebind hS' ha.ok)) fun e a2 w2 hr=>?_
   obtain ⟨ex,env2,h1,h2,h3,h4⟩:=hr
   have hS2:Same (wr b) env env2:=(LN hS').trans h4
   cases e <;> simp only [exOf,Option.some.injEq] at h1 <;> first | (cases h1;done) | skip
   ·subst h1
    obtain ⟨m',hlt,hI2⟩:=h2
    exact ⟨m',hlt,env2,h3,hS2,hI2⟩
   ·subst h1;exact ⟨_,env2,rfl,h2,h3,hS2⟩
   ·subst h1;exact ⟨_,env2,rfl,h2,h3,hS2⟩
  ·exact hd.elim

theorem RR:∀ (l:List Value) (i s:Nat),look (uF i l) s = if i ≤ s then l.getD (s - i) undef else undef
 | [],i,s=>by simp [uF,look]
 | v :: r,i,s=>by
  simp only [uF,kA,RR r (i + 1) s]
  by_cases h:i = s
  ·subst h;simp
  ·by_cases h2:i ≤ s
   ·have:s - i = (s - (i + 1)) + 1:=by omega
    simp [h,h2,show i + 1 ≤ s by omega,this]
   ·simp [h,h2,show ¬ i + 1 ≤ s by omega]
theorem VA:∀ (l:List Value) (i:Nat),EnvOk (uF i l)
 | [],_=>fun s b e=>by cases e
 | v :: r,i=>(VA r (i + 1)).cons fun b e=>by cases e

def resS (tmps:Array Value) (x:ResultVar):Sem Value:=
 match x with
 | .tmp t=>pure (tmps.getD t undef)
 | .cell a t=>do loadVar t (← asAddr (tmps.getD a undef))
theorem PZ {env:Env} {tmps:Array Value} {w:World} (hv:∀ s,tmps.getD s undef = look env s):∀ (l:List ResultVar) (K:List Value → Prop),resD P env w l K →
  ∃ vs,(l.mapM (resS tmps)).run P w = .ok vs w ∧ K vs
 | [],K,h=>⟨[],by simp,h⟩
 | .tmp t :: r,K,h=>by
  obtain ⟨vs,h1,h2⟩:=PZ hv r _ h
  refine ⟨_,?_,h2⟩
  rw [List.mapM_cons]
  simp only [Sem.run_bind,resS,Sem.run_pure,Result.andThen_ok,h1,hv t]
 | .cell a t :: r,K,h=>by
  obtain ⟨v,hl,hk⟩:=OL h
  obtain ⟨vs,h1,h2⟩:=PZ hv r _ hk
  have hl:=hl w (Ext.refl w)
  refine ⟨_,?_,h2⟩
  rw [List.mapM_cons]
  have h0:(resS tmps (.cell a t)).run P w = .ok v w:=by
   simp only [resS,hv a]
   cases hx:look env a with
   | pointer p=>
    cases p with
    | none=>rw [hx] at hl;simp [Instr.loadAt,Instr.sureAddr] at hl
    | some ad=>
     rw [hx] at hl
     simp only [Instr.loadAt,Instr.sureAddr,Sem.run_bind,Sem.run_pure,Result.andThen_ok] at hl
     simp only [asAddr,Sem.run_bind,Sem.run_pure,Result.andThen_ok,hl]
   | _=>rw [hx] at hl;simp [Instr.loadAt,Instr.sureAddr] at hl
  simp only [Sem.run_bind,Sem.run_pure,Result.andThen_ok,h1,h0]
theorem V2 (fn:Func) (tmps:Array Value):results fn tmps = (do let vs ← fn.results.mapM (resS tmps);pure (if h:vs.size = 1 then vs[0] else .tuple vs)):=by
 unfold results
 congr 1

theorem N3 {fn:Func} {env:Env} {tmps:Array Value} {w:World} (hv:∀ s,tmps.getD s undef = look env s) {R:Value → Prop} (h:resD P env w fn.results.toList fun vs=>R (retV vs)):
  ∃ v,(results fn tmps).run P w = .ok v w ∧ R v:=by
 obtain ⟨vs,h1,h2⟩:=PZ hv fn.results.toList _ h
 refine ⟨_,?_,h2⟩
 rw [V2,← Array.toArray_toList (xs:=fn.results),List.mapM_toArray]
 simp only [Sem.run_bind,Sem.run_map,h1,Result.andThen_ok,Sem.run_pure]
 congr 1
 cases vs with
 | nil=>rfl
 | cons x r=>
  cases r with
  | nil=>rfl
  | cons y r=>simp [retV]

theorem V3 {f:FuncId} {fn:Func} {c:Code} {h:Hint} {args:List Value} {w:World} {R:Value → World → Prop} (hm:P.follows .mixedOrders = true)
  (hf : P.funcs[f]? = some fn) (hn : (fn.name == "runtime.NumGoroutine") = false) (hb : fn.body = some c) (hs : noSel c = true) (ha : Nat.ble args.length fn.ntmps = true)
  (hd:denF P fn c h args w R):Cal P f args.toArray w R:=by
 refine ⟨⟨fn,hf,hn,by rw [hb];rfl⟩,calls_of_wp hf hb ?_⟩
 have hle:args.length ≤ fn.ntmps:=Nat.le_of_ble_eq_true ha
 have hA:Ag fn.ntmps (uF 0 args) { tmps:=args.toArray ++ Array.replicate (fn.ntmps - args.toArray.size) undef,defers:=[] }:=by
  refine ⟨rfl,by simp;omega,fun s=>?_,VA _ _⟩
  rw [RR]
  simp only [Nat.zero_le,if_true,Nat.sub_zero]
  by_cases h1:s < args.length
  ·simp [Array.getElem?_append,h1]
  ·simp only [Array.getD_eq_getD_getElem?,Array.getElem?_append,List.size_toArray,h1,if_false]
   rw [show args.getD s undef = undef by simp [List.getD,List.getElem?_eq_none (show args.length ≤ s by omega)]]
   by_cases h2:s - args.length < fn.ntmps - args.length
   ·simp [h2]
   ·simp [h2]
 refine wp_mono (aAH hm c h _ _ _ w hs hd hA) fun e a' w' hr=>?_
 obtain ⟨ex,env',h1,h2,h3,h4⟩:=hr
 cases e <;> simp only [exOf,Option.some.injEq] at h1 <;> first | (cases h1;done) | skip
 ·subst h1
  obtain ⟨v,hv,hR⟩:=N3 (R:=fun v=>R v w') h3.vals h2
  exact ⟨h3.defers,v,hv,v,rfl,hR⟩
 ·subst h1;exact h2.elim
 ·subst h1
  obtain ⟨v,hv,hR⟩:=N3 (R:=fun v=>R v w') h3.vals h2
  exact ⟨h3.defers,v,hv,v,rfl,hR⟩

end
end Go.Vc

namespace Go.Vc
open Go.RowKit (Below)

/-! ### Memory -/
def Blk (e:TypeId) (w:World) (b:Nat) (cs:List Value):Prop:=w.heap[b]? = some (.cells cs.toArray e (0,0))
theorem hO {w:World} {b:Nat} {o:Obj} (h:w.heap[b]? = some o):b < w.heap.size:=by
 rcases Nat.lt_or_ge b w.heap.size with h' | h'
 ·exact h'
 ·simp [Array.getElem?_eq_none h'] at h
theorem Blk.lt {e:TypeId} {w:World} {b:Nat} {cs:List Value} (h:Blk e w b cs):b < w.heap.size:=hO h
theorem Blk.ext {e:TypeId} {w w':World} {b:Nat} {cs:List Value} (h:Blk e w b cs) (he:Ext w w'):Blk e w' b cs:=by
 unfold Blk at *
 rw [Below.block he b (hO h)];exact h
theorem Blk.cell {e:TypeId} {w:World} {b:Nat} {cs:List Value} (h:Blk e w b cs) (i:Nat):w.cell? ⟨b,i,none⟩ = cs[i]?:=by
 unfold Blk at h
 simp [World.cell?,h]
theorem Blk.frozen {e:TypeId} {w:World} {b:Nat} {cs:List Value} (h:Blk e w b cs) (i:Nat):w.frozen? ⟨b,i,none⟩ = false:=by
 unfold Blk at h
 simp [World.frozen?,h]
theorem Blk.set {e:TypeId} {w:World} {b:Nat} {cs:List Value} (h:Blk e w b cs) (i:Nat) (v:Value):Blk e (w.setCell ⟨b,i,none⟩ v) b (cs.set i v):=by
 unfold Blk at *
 simp [World.setCell,Array.getElem?_modify,h]
theorem Blk.new (w:World) (cs:Array Value) (e:TypeId):Blk e (w.alloc (.cells cs e)) w.heap.size cs.toList:=heap_alloc_new w _

def Sl (w:World) (v:Value) (xs:List Value):Prop:=
 ∃ a c,v = .slice a xs.length c ∧ xs.length ≤ c ∧ c ≤ 9223372036854775807 ∧ (xs = [] ∨ ∃ b o,a = some ⟨b,o,none⟩ ∧ ∀ i,i < xs.length → w.cell? ⟨b,o + i,none⟩ = xs[i]?)
theorem Sl.ext {w w':World} {v:Value} {xs:List Value} (h:Sl w v xs) (he:Ext w w'):Sl w' v xs:=by
 obtain ⟨a,c,h1,h2,h3,h4⟩:=h
 refine ⟨a,c,h1,h2,h3,h4.imp id fun ⟨b,o,ha,hc⟩=>⟨b,o,ha,fun i hi=>?_⟩⟩
 have:=hc i hi
 rw [List.getElem?_eq_getElem hi] at this ⊢
 exact he.cell this
theorem Sl.len {w:World} {v:Value} {xs:List Value} (h:Sl w v xs):xs.length ≤ 9223372036854775807:=let ⟨_,_,_,h2,h3,_⟩:=h;Nat.le_trans h2 h3
theorem Sl.nil (w:World):Sl w (.slice none 0 0) []:=⟨none,0,rfl,Nat.le_refl _,by omega,.inl rfl⟩
def ints (l:List Int):List Value:=l.map (.int .i64)
theorem aL (l:List Int):(ints l).length = l.length:=by simp [ints]
def SlI (w:World) (v:Value) (l:List Int):Prop:=Sl w v (ints l)
theorem SlI.ext {w w':World} {v:Value} {l:List Int} (h:SlI w v l) (he:Ext w w'):SlI w' v l:=Sl.ext h he
theorem SlI.len {w:World} {v:Value} {l:List Int} (h:SlI w v l):l.length ≤ 9223372036854775807:=by have:=Sl.len h;rwa [aL] at this

def Ow (lo:Nat) (e:TypeId) (w:World) (v:Value) (xs:List Value):Prop:=w.ownsRow lo e 1 v xs.length xs
theorem Ow.sl {lo:Nat} {e:TypeId} {w:World} {v:Value} {xs:List Value} (h:Ow lo e w v xs):Sl w v xs:=by
 obtain ⟨_,h | ⟨g,cap,cur,hv,_,hh,h1,h2,h3,h4⟩⟩:=h
 ·obtain ⟨rfl,h0⟩:=h
  have:xs = []:=List.length_eq_zero_iff.1 h0
  subst this
  exact Sl.nil w
 ·refine ⟨_,cap,hv,h1,h2,.inr ⟨g,0,rfl,fun i hi=>?_⟩⟩
  simp only [Nat.zero_add,World.cell?,hh]
  rw [← h4]
  simp only [Nat.mul_one,Option.isSome_none,Bool.false_eq_true,if_false,List.getElem?_take]
  rw [if_pos hi];simp
theorem Ow.ext {lo:Nat} {e:TypeId} {w w':World} {v:Value} {xs:List Value} (h:Ow lo e w v xs) (he:Ext w w'):Ow lo e w' v xs:=by
 obtain ⟨h0,h | ⟨g,cap,cur,hv,hg,hh,h1⟩⟩:=h
 ·exact ⟨h0,.inl h⟩
 ·exact ⟨h0,.inr ⟨g,cap,cur,hv,hg,by rw [Below.block he g (hO hh)];exact hh,h1⟩⟩
theorem Ow.mono {lo lo':Nat} {e:TypeId} {w:World} {v:Value} {xs:List Value} (h:Ow lo e w v xs) (hl:lo' ≤ lo):Ow lo' e w v xs:=by
 obtain ⟨h0,h | ⟨g,cap,cur,hv,hg,hh,h1⟩⟩:=h
 ·exact ⟨h0,.inl h⟩
 ·exact ⟨h0,.inr ⟨g,cap,cur,hv,Nat.le_trans hl hg,hh,h1⟩⟩
theorem Ow.nil (lo:Nat) (e:TypeId) (w:World):Ow lo e w (.slice none 0 0) []:=World.ownsRow_nil w lo e 1
theorem Ow.blk {lo:Nat} {e:TypeId} {w:World} {v:Value} {xs:List Value} (h:Ow lo e w v xs):∀ k,v.ownBlock = some k → lo ≤ k ∧ k < w.heap.size:=World.ownsRow.lt h

theorem ZB {w0 w:World} (h:Ext w0 w) {p:Addr} (hp:w0.heap.size ≤ p.block) (u:Value):Ext w0 (w.setCell p u):=Below.setCell h hp u

structure Upd (b:Nat) (w w':World):Prop where
 os:w'.os = w.os
 tape:w'.tape = w.tape
 output:w'.output = w.output
 size:w'.heap.size = w.heap.size
 block:∀ c,c ≠ b → w'.heap[c]? = w.heap[c]?
theorem Upd.refl (b:Nat) (w:World):Upd b w w:=⟨rfl,rfl,rfl,rfl,fun _ _=>rfl⟩
theorem Upd.trans {b:Nat} {w w' w'':World} (h:Upd b w w') (k:Upd b w' w''):Upd b w w'':=
 ⟨k.os.trans h.os,k.tape.trans h.tape,k.output.trans h.output,k.size.trans h.size,fun c hc=>(k.block c hc).trans (h.block c hc)⟩
theorem Upd.setCell (w:World) (b i:Nat) (v:Value):Upd b w (w.setCell ⟨b,i,none⟩ v):=
 ⟨rfl,rfl,rfl,by simp,fun c hc=>Below.heap_setCell _ _ _ _ hc⟩
theorem Ext.upd {w0 w w':World} {b:Nat} (h:Ext w0 w) (hu:Upd b w w') (hb:w0.heap.size ≤ b):Ext w0 w':=
 ⟨hu.os.trans h.os,hu.tape.trans h.tape,hu.output.trans h.output,by rw [hu.size];exact h.size,fun k hk=>(hu.block k (by omega)).trans (h.block k hk)⟩
theorem Blk.upd {e:TypeId} {w w':World} {b c:Nat} {cs:List Value} (h:Blk e w c cs) (hu:Upd b w w') (hne:c ≠ b):Blk e w' c cs:=by
 unfold Blk at *
 rw [hu.block c hne];exact h
theorem uS {P:Program} {e:TypeId} {b:Nat}:∀ (vs:List Value) (i:Nat) (w:World) (cs:List Value),Blk e w b cs → i + vs.length ≤ cs.length → (∀ v ∈ vs,aF v = true) →
  ∃ w',(storeCells ⟨b,0,none⟩ vs i).run P w = .ok () w' ∧ Upd b w w' ∧ Blk e w' b (cs.take i ++ vs ++ cs.drop (i + vs.length))
 | [],i,w,cs,hb,_,_=>⟨w,by simp [storeCells],Upd.refl _ _,by simpa using hb⟩
 | v :: vs,i,w,cs,hb,hl,hc=>by
  simp only [List.length_cons] at hl
  have ha:(⟨b,0,none⟩:Addr).add i = ⟨b,i,none⟩:=by
   simp only [Addr.add];split
   ·rename_i e;simp [e]
   ·simp
  have h1:(store ⟨b,i,none⟩ v).run P w = .ok () (w.setCell ⟨b,i,none⟩ v):=by
   rw [run_store P w _ _ _ (kJ (hc v (by simp))),hb.cell i,List.getElem?_eq_getElem (by omega)]
   simp [hb.frozen i]
  obtain ⟨w',h2,h3,h4⟩:=uS (P:=P) vs (i + 1) (w.setCell ⟨b,i,none⟩ v) (cs.set i v) (hb.set i v) (by simp;omega) (fun v' hv'=>hc v' (by simp [hv']))
  refine ⟨w',?_,(Upd.setCell w b i v).trans h3,?_⟩
  ·simp only [storeCells,Sem.run_bind,ha,h1,Result.andThen_ok,h2]
  ·have:(cs.set i v).take (i + 1) ++ vs ++ (cs.set i v).drop (i + 1 + vs.length) = cs.take i ++ v :: vs ++ cs.drop (i + (v :: vs).length):=by
    rw [List.take_succ_eq_append_getElem (by simp;omega),List.take_set_of_le (by omega),List.drop_set_of_lt (by omega)]
    simp [Nat.add_assoc,Nat.add_comm 1]
   rw [this] at h4;exact h4

/-! ### One step -/
section
variable {P:Program} {w:World}

theorem iNil {a:Addr} {K:Value → Prop} (h:K (.pointer (some a))):xNil (.pointer (some a)) K:=⟨trivial,h⟩
theorem iFa {off b o:Nat} {K:Value → Prop} (h:K (.pointer (some ⟨b,o + off,none⟩))):xFa off (.pointer (some ⟨b,o,none⟩)) K:=by
 refine ⟨_,rfl,?_⟩
 have:(⟨b,o,none⟩:Addr).add off = ⟨b,o + off,none⟩:=by
  simp only [Addr.add];split
  ·rename_i e;simp [e]
  ·rfl
 rw [this];exact h
theorem iLd {p:Addr} {v:Value} {K:Value → Prop} (hc:w.cell? p = some v) (h:K v):xLd w (.pointer (some p)) K:=⟨_,_,rfl,hc,h⟩
theorem iLdB {e:TypeId} {b i:Nat} {cs:List Value} {v:Value} {K:Value → Prop} (hb:Blk e w b cs) (hi:cs[i]? = some v) (h:K v):xLd w (.pointer (some ⟨b,i,none⟩)) K:=iLd (by rw [hb.cell i];exact hi) h
theorem iLdA {e:TypeId} {b n:Nat} {cs:List Value} {K:Value → Prop} (hb:Blk e w b cs) (hn:cs.length = n) (h:K (.agg cs.toArray)):xLdA w n (.pointer (some ⟨b,0,none⟩)) K:=by
 refine ⟨_,cs.toArray,rfl,by simpa using hn,fun i hi=>?_,h⟩
 have:(⟨b,0,none⟩:Addr).add i = ⟨b,i,none⟩:=by
  simp only [Addr.add];split
  ·rename_i e;simp [e]
  ·simp
 rw [this,hb.cell i];simp
theorem iIa {v:Value} {xs:List Value} {j:Int} {k:IntKind} {K:Value → Prop} (hs:Sl w v xs) (h0:0 ≤ j) (h1:j < xs.length)
  (h:∀ p,w.cell? p = xs[j.toNat]? → K (.pointer (some p))):xIa 1 v (.int k j) K:=by
 obtain ⟨a,c,rfl,h2,h3,h4⟩:=hs
 rcases h4 with rfl | ⟨b,o,rfl,hc⟩
 ·simp at h1;omega
 ·refine ⟨_,_,_,_,_,rfl,rfl,h0,h1,h _ ?_⟩
  have:(⟨b,o,none⟩:Addr).add (j.toNat * 1) = ⟨b,o + j.toNat,none⟩:=by
   simp only [Addr.add];split
   ·rename_i e;simp at e;simp [e]
   ·simp
  rw [this];exact hc _ (by omega)
theorem iIaI {v:Value} {l:List Int} {j:Int} {k:IntKind} {K:Value → Prop} (hs:SlI w v l) (h0:0 ≤ j) (h1:j < l.length)
  (h:∀ p,w.cell? p = some (.int .i64 (l.getD j.toNat 0)) → K (.pointer (some p))):xIa 1 v (.int k j) K:=by
 refine iIa hs h0 (by rw [aL];exact h1) fun p hp=>h p (hp.trans ?_)
 have:j.toNat < l.length:=by omega
 simp [ints,this]
theorem iLenS {v:Value} {xs:List Value} {K:Value → Prop} (hs:Sl w v xs) (h:K (.int .i64 (xs.length:Nat))):xLenS v K:=by
 obtain ⟨a,c,rfl,_⟩:=hs;exact ⟨_,_,_,rfl,h⟩
theorem iLenI {v:Value} {l:List Int} {K:Value → Prop} (hs:SlI w v l) (h:K (.int .i64 (l.length:Nat))):xLenS v K:=iLenS hs (by rw [aL];exact h)
theorem iLenL {a:Option Addr} {n c:Nat} {K:Value → Prop} (h:K (.int .i64 (n:Nat))):xLenS (.slice a n c) K:=⟨_,_,_,rfl,h⟩
theorem iAdd {a b:Int} {K:Value → Prop} (hb:-9223372036854775808 ≤ a + b ∧ a + b ≤ 9223372036854775807) (h:K (.int .i64 (a + b))):xAdd .i64 (.int .i64 a) (.int .i64 b) K:=
 ⟨_,_,rfl,rfl,by rw [IntWalk.i64_in _ hb];exact h⟩
theorem iSub {a b:Int} {K:Value → Prop} (hb:-9223372036854775808 ≤ a - b ∧ a - b ≤ 9223372036854775807) (h:K (.int .i64 (a - b))):xSub .i64 (.int .i64 a) (.int .i64 b) K:=
 ⟨_,_,rfl,rfl,by rw [IntWalk.i64_in _ hb];exact h⟩
theorem iMul {a b:Int} {K:Value → Prop} (hb:-9223372036854775808 ≤ a * b ∧ a * b ≤ 9223372036854775807) (h:K (.int .i64 (a * b))):xMul .i64 (.int .i64 a) (.int .i64 b) K:=
 ⟨_,_,rfl,rfl,by rw [IntWalk.i64_in _ hb];exact h⟩
theorem iQuo {a b:Int} {K:Value → Prop} (hb:0 ≤ a ∧ a ≤ 9223372036854775807 ∧ 1 ≤ b) (h:K (.int .i64 (a / b))):xQuo .i64 (.int .i64 a) (.int .i64 b) K:=
 ⟨_,_,rfl,rfl,by omega,by rw [IntWalk.i64_quo _ _ hb];exact h⟩
theorem iRem {a b:Int} {K:Value → Prop} (hb:0 ≤ a ∧ b ≠ 0) (h:K (.int .i64 (a % b))):xRem .i64 (.int .i64 a) (.int .i64 b) K:=
 ⟨_,_,rfl,rfl,hb.2,by rw [IntWalk.rem_in _ _ hb.1];exact h⟩
theorem iEq {k:IntKind} {a b:Int} {K:Value → Prop} (h:K (.bool (decide (a = b)))):xEq k (.int k a) (.int k b) K:=⟨_,_,rfl,rfl,h⟩
theorem iNe {k:IntKind} {a b:Int} {K:Value → Prop} (h:K (.bool (decide (¬ a = b)))):xNe k (.int k a) (.int k b) K:=⟨_,_,rfl,rfl,h⟩
theorem iLt {k:IntKind} {a b:Int} {K:Value → Prop} (h:K (.bool (decide (a < b)))):xLt k (.int k a) (.int k b) K:=⟨_,_,rfl,rfl,h⟩
theorem iLe {k:IntKind} {a b:Int} {K:Value → Prop} (h:K (.bool (decide (a ≤ b)))):xLe k (.int k a) (.int k b) K:=⟨_,_,rfl,rfl,h⟩
theorem iNot {b:Bool} {K:Value → Prop} (h:K (.bool (!b))):xNot (.bool b) K:=⟨_,rfl,h⟩
theorem iEx {vs:Array Value} {v:Value} {i:Nat} {K:Value → Prop} (hv:vs[i]? = some v) (h:K v):xEx (.tuple vs) i K:=⟨_,_,rfl,hv,h⟩
theorem iE20 {a b:Value} {K:Value → Prop} (h:K a):xEx (.tuple #[a,b]) 0 K:=⟨_,_,rfl,rfl,h⟩
theorem iE21 {a b:Value} {K:Value → Prop} (h:K b):xEx (.tuple #[a,b]) 1 K:=⟨_,_,rfl,rfl,h⟩
theorem iE30 {a b c:Value} {K:Value → Prop} (h:K a):xEx (.tuple #[a,b,c]) 0 K:=⟨_,_,rfl,rfl,h⟩
theorem iE31 {a b c:Value} {K:Value → Prop} (h:K b):xEx (.tuple #[a,b,c]) 1 K:=⟨_,_,rfl,rfl,h⟩
theorem iE32 {a b c:Value} {K:Value → Prop} (h:K c):xEx (.tuple #[a,b,c]) 2 K:=⟨_,_,rfl,rfl,h⟩
theorem f8 {z:Array Value} {pl:Array (Nat × Nat)} {ps:List (Nat × Value)} {cs:Array Value} {K:Value → Prop} (hf:Instr.fill (pl[·]?) z ps = some cs) (h:K (.agg cs)):aR z pl ps K:=⟨_,hf,h⟩
theorem D1 {a:Int} {k:IntKind} {K:Value → Prop} (hb:-9223372036854775808 ≤ a ∧ a ≤ 9223372036854775807) (h:K (.int .i64 a)):xConv .i64 (.int k a) K:=
 ⟨_,_,rfl,by rw [IntWalk.i64_in _ hb];exact h⟩
theorem C8 {a:Int} {k:IntKind} {K:Value → Prop} (hb:0 ≤ a ∧ a ≤ 18446744073709551615) (h:K (.int .u64 a)):xConv .u64 (.int k a) K:=
 ⟨_,_,rfl,by rw [IntWalk.u64_in _ hb];exact h⟩
theorem iNew {cs:Array Value} {e:TypeId} {K:Value → World → Prop} (h:∀ b w',b = w.heap.size ∧ w'.heap.size = b + 1 → Ext w w' → Blk e w' b cs.toList → K (.pointer (some ⟨b,0,none⟩)) w'):xNew cs e w K:=
 h _ _ ⟨rfl,by simp⟩ (Ext.alloc w _) (Blk.new w cs e)
theorem iStB {e:TypeId} {b i:Nat} {cs:List Value} {v:Value} {K:World → Prop} (hb:Blk e w b cs) (hi:i < cs.length) (hv:aF v = true) (h:Blk e (w.setCell ⟨b,i,none⟩ v) b (cs.set i v) → K (w.setCell ⟨b,i,none⟩ v)):
  xSt w (.pointer (some ⟨b,i,none⟩)) v K:=
 ⟨_,_,rfl,by rw [hb.cell i,List.getElem?_eq_getElem hi],hb.frozen i,hv,h (hb.set i v)⟩

theorem iMk {e:TypeId} {z:Value} {bytes n:Nat} {k:IntKind} {K:Value → World → Prop} (h1:bytes * n ≤ 2 ^ 48) (h2:(n:Int) ≤ 9223372036854775807) (hz:aF z = true)
  (h:∀ b w',b = w.heap.size ∧ w'.heap.size = b + 1 → Ext w w' → Blk e w' b (List.replicate n z) → K (.slice (some ⟨b,0,none⟩) n n) w'):xMk e (Value.cells z) 1 bytes (.int k (n:Int)) (.int k (n:Int)) w K:=by
 refine ⟨k,k,n,n,rfl,rfl,Nat.le_refl _,h2,by exact_mod_cast h1,?_⟩
 have hb:=Blk.new w ((Array.range (n * 1)).map (fun i=>z.cells[i % z.cells.size]!)) e
 have hc:((Array.range (n * 1)).map (fun i=>z.cells[i % z.cells.size]!)).toList = List.replicate n z:=by
  rw [aH hz]
  apply List.ext_getElem
  ·simp
  ·intro i h1 h2
   simp [Nat.mod_one]
 rw [hc] at hb
 exact h _ _ ⟨rfl,by simp⟩ (Ext.alloc w _) hb
theorem iIaL {b o n c:Nat} {j:Nat} {k:IntKind} {K:Value → Prop} (hj:j < n) (h:K (.pointer (some ⟨b,o + j,none⟩))):xIa 1 (.slice (some ⟨b,o,none⟩) n c) (.int k (j:Int)) K:=by
 refine ⟨_,_,_,_,_,rfl,rfl,by omega,by omega,?_⟩
 have:(⟨b,o,none⟩:Addr).add ((j:Int).toNat * 1) = ⟨b,o + j,none⟩:=by
  simp only [Addr.add,Int.toNat_natCast,Nat.mul_one];split
  ·rename_i e;simp [e]
  ·rfl
 rw [this];exact h
theorem Ow.ofBlk {lo:Nat} {e:TypeId} {w:World} {b n:Nat} {cs:List Value} (h:Blk e w b cs) (hl:lo ≤ b) (hn:cs.length = n) (hm:n ≤ 9223372036854775807):Ow lo e w (.slice (some ⟨b,0,none⟩) n n) cs:=by
 subst hn
 exact ⟨by simp,.inr ⟨b,cs.length,cs.toArray,rfl,hl,h,Nat.le_refl _,hm,by simp,by simp⟩⟩
theorem iIaOw {lo:Nat} {e:TypeId} {v:Value} {xs:List Value} {j:Int} {k:IntKind} {K:Value → Prop} (hs:Ow lo e w v xs) (h0:0 ≤ j) (h1:j < xs.length)
  (h:∀ b o,v.ownBlock = some b → lo ≤ b → b < w.heap.size → w.cell? ⟨b,o,none⟩ = xs[j.toNat]? → w.frozen? ⟨b,o,none⟩ = false → (∀ u,Ow lo e (w.setCell ⟨b,o,none⟩ u) v (xs.set j.toNat u)) → K (.pointer (some ⟨b,o,none⟩))):
  xIa 1 v (.int k j) K:=by
 obtain ⟨m,rfl⟩:=Int.eq_ofNat_of_zero_le h0
 obtain ⟨hl,hc | ⟨g,cap,cur,hv,hg,hh,h2,h3,h4,h5⟩⟩:=hs
 ·omega
 ·subst hv
  have hs':w.ownsRow lo e 1 (.slice (some ⟨g,0,none⟩) xs.length cap) xs.length xs:=⟨hl,.inr ⟨g,cap,cur,rfl,hg,hh,h2,h3,h4,h5⟩⟩
  refine iIaL (j:=m) (by omega) ?_
  rw [Nat.zero_add]
  refine h g m rfl hg (hO hh) ?_ ?_ ?_
  ·rw [Int.toNat_natCast];exact hs'.cellAt m (by omega)
  ·exact hs'.frozenAt m
  ·intro u
   rw [Int.toNat_natCast]
   have:=hs'.stored m u
   unfold Ow
   rw [List.length_set]
   exact this.1
theorem iSt {b o:Nat} {old v:Value} {K:World → Prop} (hc:w.cell? ⟨b,o,none⟩ = some old) (hf:w.frozen? ⟨b,o,none⟩ = false) (hv:aF v = true) (h:K (w.setCell ⟨b,o,none⟩ v)):xSt w (.pointer (some ⟨b,o,none⟩)) v K:=
 ⟨_,_,rfl,hc,hf,hv,h⟩

theorem iStAB {e:TypeId} {b n:Nat} {cs:List Value} {a:Array Value} {K:World → Prop} (hb:Blk e w b cs) (hn:cs.length = n) (ha:a.size = n) (hc:∀ v ∈ a.toList,aF v = true)
  (h:∀ w',Upd b w w' → Blk e w' b a.toList → K w'):xStA P w n (.pointer (some ⟨b,0,none⟩)) (.agg a) K:=by
 obtain ⟨w',h1,h2,h3⟩:=uS (P:=P) a.toList 0 w cs hb (by simp;omega) hc
 refine ⟨_,w',rfl,by simpa [Value.cells] using ha,h1,h w' h2 ?_⟩
 have:cs.drop (0 + a.toList.length) = []:=List.drop_of_length_le (by simp;omega)
 rw [this] at h3
 simpa using h3

/-! ### Worlds in which one row may have turned and new blocks lie -/
theorem Ext.toGrown {w w':World} (h:Ext w w') (row:Option Nat):w.grownBy w' row:=⟨h.os,h.tape,h.output,h.size,fun k hk _=>h.block k hk⟩
theorem N0 (w:World) (row:Option Nat):w.grownBy w row:=(Ext.refl w).toGrown row
theorem Q5 {w w' w'':World} {row row':Option Nat} (h:w.grownBy w' row) (k:w'.grownBy w'' row') (hn:∀ b,row' = some b → w.heap.size ≤ b ∨ row = some b):w.grownBy w'' row:=
 ⟨k.os.trans h.os,k.tape.trans h.tape,k.output.trans h.output,Nat.le_trans h.size k.size,fun i hi hne=>(k.block i (by have:=h.size;omega) (fun e=>by
  rcases hn i e.symm with h1 | h1
  ·omega
  ·exact hne h1.symm)).trans (h.block i hi hne)⟩
theorem Ext.grown {w0 w w':World} {row:Option Nat} (h:Ext w0 w) (hg:w.grownBy w' row) (hr:∀ b,row = some b → w0.heap.size ≤ b):Ext w0 w':=
 Below.grown h hg h.size hr
theorem Ow.lt {lo:Nat} {e:TypeId} {w:World} {v:Value} {xs:List Value} (h:Ow lo e w v xs) {b:Nat} (hb:w.heap.size ≤ b):v.ownBlock ≠ some b:=fun e=>by have:=(h.blk b e).2;omega
theorem Sl.ofBlk {e:TypeId} {w:World} {b n:Nat} {cs:List Value} (h:Blk e w b cs) (hn:cs.length = n) (hm:n ≤ 9223372036854775807):Sl w (.slice (some ⟨b,0,none⟩) n n) cs:=by
 subst hn
 exact ⟨_,cs.length,rfl,Nat.le_refl _,hm,.inr ⟨b,0,rfl,fun i _=>by rw [Nat.zero_add];exact h.cell i⟩⟩

theorem iBs0 {e:TypeId} {z:Value} {K:Value → World → Prop} (h:∀ v w',w'.heap.size = w.heap.size + 1 → Ext w w' → Ow w.heap.size e w' v [] → K v w'):xBs e (Value.cells z) 1 0 [] w K:=by
 refine ⟨_,rfl,h _ _ (by simp) (Ext.alloc w _) ?_⟩
 exact ⟨rfl,.inr ⟨w.heap.size,0,_,rfl,Nat.le_refl _,heap_alloc_new w _,Nat.le_refl _,by simp [maxLen],by simp [show Array.range 0 = #[] from rfl],rfl⟩⟩
theorem iBs1 {e:TypeId} {z x:Value} {K:Value → World → Prop} (hz:aF z = true) (hx:aF x = true) (h:∀ b w',b = w.heap.size ∧ w'.heap.size = b + 1 → Ext w w' → Blk e w' b [x] → K (.slice (some ⟨b,0,none⟩) 1 1) w'):
  xBs e (Value.cells z) 1 1 [(0,x)] w K:=by
 refine ⟨#[x],?_,h _ _ ⟨rfl,by simp⟩ (Ext.alloc w _) (Blk.new w #[x] e)⟩
 rw [aH hz]
 simp [Instr.fill,aH hx,show Array.range 1 = #[0] from rfl]
theorem iAppA {lo:Nat} {t ty e:TypeId} {z v x:Value} {bytes:Nat} {xs ys:List Value} {K:Value → World → Prop} (ht:P.underlying t = some (.slice e)) (hi:(P.info? e).map (fun i=>(i.zero,i.size,i.bytes)) = some (some z,1,bytes)) (hz:aF z = true)
  (hown:Ow lo e w v xs) (hs:Sl w x ys) (hy:∀ u ∈ ys,aF u = true) (hb:(xs.length + ys.length) * bytes ≤ 140737488355328) (hm:xs.length + ys.length ≤ 9223372036854775807) (hlo:lo ≤ w.heap.size)
  (h:∀ v' w',Ow lo e w' v' (xs ++ ys) → w.grownBy w' v.ownBlock → (v'.ownBlock = v.ownBlock ∨ ∃ c,v'.ownBlock = some c ∧ w.heap.size ≤ c) → K v' w'):xOp P (Builtin.append_ #[t,t] ty #[v,x]) w K:=by
 obtain ⟨i,hi,h3⟩:=Option.map_eq_some_iff.1 hi
 simp only [Prod.mk.injEq] at h3
 obtain ⟨hz0,hsz,hby⟩:=h3
 obtain ⟨a,c,rfl,hlc,hcm,hcells⟩:=hs
 have key:∀ ad:Addr,a = some ad → (∀ j u,ys[j]? = some u → w.cell? (ad.add j) = some u) → xOp P (Builtin.append_ #[t,t] ty #[v,.slice a ys.length c]) w K:=by
  rintro ad rfl hnews
  obtain ⟨v',w',h4,h5,h6,_,h7⟩:=run_append_own_at (P:=P) (w:=w) lo t ty e i z 1 bytes ht hi hz0 hsz hby (by rw [aH hz];rfl) (by omega) v xs.length xs hown ad ys.length c ys (by simp) hnews (fun u hu=>kJ (hy u hu)) (by simpa [maxLen] using hm) hb hlo
  refine ⟨v',w',h4,h v' w' ?_ h6 (h7.imp id fun e=>⟨_,e,Nat.le_refl _⟩)⟩
  unfold Ow
  rw [List.length_append];exact h5
 rcases hcells with rfl | ⟨b,o,rfl,hc⟩
 ·cases a with
  | some ad=>exact key ad rfl (fun j u hu=>by simp at hu)
  | none=>
   refine ⟨v,w,?_,h v w (by simpa using hown) (N0 w _) (.inl rfl)⟩
   have hr:=run_append_owned_none (P:=P) w lo t ty e i 1 ht hi v xs.length xs hown
   rcases hown.2 with ⟨rfl,hn⟩ | ⟨g,cap,cur,rfl,_,_,hnc,_⟩
   ·simp [Builtin.append_,run_underlying ht,sizeOf,typeInfo,hi,Builtin.lenOf,Builtin.firstCells]
   ·simp [Builtin.append_,run_underlying ht,sizeOf,typeInfo,hi,Builtin.lenOf,Builtin.firstCells,hnc,storeCells]
 ·refine key ⟨b,o,none⟩ rfl fun j u hu=>?_
  have hj:j < ys.length:=(List.getElem?_eq_some_iff.1 hu).1
  have:(⟨b,o,none⟩:Addr).add j = ⟨b,o + j,none⟩:=by
   simp only [Addr.add];split
   ·rename_i e;simp [e]
   ·rfl
  rw [this,hc j hj,hu]
theorem iApp {lo:Nat} {t ty e:TypeId} {z v x:Value} {bytes:Nat} {xs ys:List Value} {K:Value → World → Prop} (ht:P.underlying t = some (.slice e)) (hi:(P.info? e).map (fun i=>(i.zero,i.size,i.bytes)) = some (some z,1,bytes)) (hz:aF z = true)
  (hown:Ow lo e w v xs) (hs:Sl w x ys) (hy:∀ u ∈ ys,aF u = true) (hb:(xs.length + ys.length) * bytes ≤ 140737488355328) (hm:xs.length + ys.length ≤ 9223372036854775807) (hlo:lo ≤ w.heap.size)
  (h:∀ v' w',Ow lo e w' v' (xs ++ ys) → w.grownBy w' v.ownBlock → K v' w'):xOp P (Builtin.append_ #[t,t] ty #[v,x]) w K:=
 iAppA ht hi hz hown hs hy hb hm hlo fun v' w' h1 h2 _=>h v' w' h1 h2
theorem iP {lo:Nat} {t ty e:TypeId} {z v x:Value} {bytes:Nat} {xs:List Value} {K:Value → World → Prop} (ht:P.underlying t = some (.slice e)) (hi:(P.info? e).map (fun i=>(i.zero,i.size,i.bytes)) = some (some z,1,bytes)) (hz:aF z = true)
  (hown:Ow lo e w v xs) (hx:aF x = true) (hb:(xs.length + 1) * bytes ≤ 140737488355328) (hm:xs.length + 1 ≤ 9223372036854775807) (hlo:lo ≤ w.heap.size)
  (h:∀ v' w',Ow lo e w' v' (xs ++ [x]) → w.grownBy w' v.ownBlock → (v'.ownBlock = v.ownBlock ∨ ∃ c,v'.ownBlock = some c ∧ w.heap.size ≤ c) → K v' w'):xBs e (Value.cells z) 1 1 [(0,x)] w fun y w1=>xOp P (Builtin.append_ #[t,t] ty #[v,y]) w1 K:=by
 refine iBs1 hz hx fun b w1 hb1 h1 hB=>?_
 refine iAppA ht hi hz (hown.ext h1) (Sl.ofBlk hB rfl (by omega)) (by simpa using hx) hb hm (by omega) fun v' w' ho hg hat=>h v' w' ho ?_ (hat.imp id fun ⟨c,e,hc⟩=>⟨c,e,Nat.le_trans h1.size hc⟩)
 exact Q5 (h1.toGrown v.ownBlock) hg (fun b hb=>.inr hb)
theorem iApp1 {lo:Nat} {t ty e:TypeId} {z v x:Value} {bytes:Nat} {xs:List Value} {K:Value → World → Prop} (ht:P.underlying t = some (.slice e)) (hi:(P.info? e).map (fun i=>(i.zero,i.size,i.bytes)) = some (some z,1,bytes)) (hz:aF z = true)
  (hown:Ow lo e w v xs) (hx:aF x = true) (hb:(xs.length + 1) * bytes ≤ 140737488355328) (hm:xs.length + 1 ≤ 9223372036854775807) (hlo:lo ≤ w.heap.size)
  (h:∀ v' w',Ow lo e w' v' (xs ++ [x]) → w.grownBy w' v.ownBlock → K v' w'):xBs e (Value.cells z) 1 1 [(0,x)] w fun y w1=>xOp P (Builtin.append_ #[t,t] ty #[v,y]) w1 K:=by
 refine iBs1 hz hx fun b w1 hb1 h1 hB=>?_
 refine iApp ht hi hz (hown.ext h1) (Sl.ofBlk hB rfl (by omega)) (by simpa using hx) hb hm (by omega) fun v' w' ho hg=>h v' w' ho ?_
 exact Q5 (h1.toGrown v.ownBlock) hg (fun b hb=>.inr hb)

/-! ### Calls -/
def Ret (P:Program) (f:FuncId) (args:Array Value) (w:World) (v:Value):Prop:=Cal P f args w fun v' w'=>v' = v ∧ Ext w w'
theorem iCall {f:FuncId} {args:List Value} {K:Value → World → Prop} (hc:Cal P f args.toArray w K):callV P (.func (.func f) #[] #[]) args w K:=⟨K,.inl ⟨f,#[],#[],rfl,by simpa using hc⟩,fun _ _ h=>h⟩
theorem iClo {f:FuncId} {first cap:Array Value} {fv:Value} {args:List Value} {K:Value → World → Prop} (hv:fv = .func (.func f) first cap) (hc:Cal P f (first ++ args.toArray ++ cap) w K):callV P fv args w K:=⟨K,.inl ⟨f,first,cap,hv,hc⟩,fun _ _ h=>h⟩
theorem iRet {f:FuncId} {args:List Value} {v:Value} {K:Value → World → Prop} (hc:Ret P f args.toArray w v) (h:∀ w',Ext w w' → K v w'):callV P (.func (.func f) #[] #[]) args w K:=
 iCall (hc.mono fun _ _ ⟨e,he⟩=>by subst e;exact h _ he)
theorem iRetQ {f:FuncId} {args:List Value} {v:Value} {K:Value → Prop} (hc:∀ w',Ext w w' → Ret P f args.toArray w' v) (h:K v):callQ P (.func (.func f) #[] #[]) args w K:=
 ⟨v,fun w' hw'=>iCall (hc w' hw'),h⟩

/-! ### Control -/
theorem iCnd {b:Bool} {A B:Prop} (h1:b = true → A) (h2:b = false → B):cnd (.bool b) A B:=⟨b,rfl,h1,h2⟩
theorem iCndP {p:Prop} [Decidable p] {A B:Prop} (h1:p → A) (h2:¬ p → B):cnd (.bool (decide p)) A B:=⟨_,rfl,fun h=>h1 (of_decide_eq_true h),fun h=>h2 (of_decide_eq_false h)⟩
theorem iCndT {b:Bool} {A B:Prop} (hb:b = true) (h:A):cnd (.bool b) A B:=⟨b,rfl,fun _=>h,fun e=>by rw [hb] at e;cases e⟩
theorem iCndF {b:Bool} {A B:Prop} (hb:b = false) (h:B):cnd (.bool b) A B:=⟨b,rfl,(fun e=>by rw [hb] at e;cases e),fun _=>h⟩
theorem iJn {F:(List Value → World → Prop) → Prop} {K:List Value → World → Prop} (h:F K):jn F K:=h
theorem iLp {σ:Type} (st:σ → List Value) (I:σ → World → Prop) (μ:σ → Nat) (s0:σ) {body:(List Value → World → Prop) → List Value → World → Prop} {xs0:List Value} {w0:World}
  (h0:st s0 = xs0) (hI:I s0 w0) (h:∀ s w (Kn:List Value → World → Prop),I s w → (∀ s' w',I s' w' → μ s' < μ s → Kn (st s') w') → body Kn (st s) w):lp body xs0 w0:=by
 refine ⟨fun m xs w=>∃ s,xs = st s ∧ I s w ∧ m = μ s,⟨μ s0,s0,h0.symm,hI,rfl⟩,?_⟩
 rintro m xs w ⟨s,rfl,hs,rfl⟩
 exact h s w _ hs fun s' w' hs' hlt=>⟨μ s',hlt,s',rfl,hs',rfl⟩

/-! ### Slices of natural numbers; bits -/
def nats (l:List Nat):List Int:=l.map Int.ofNat
theorem cQ (l:List Nat):(nats l).length = l.length:=by simp [nats]
def SlN (w:World) (v:Value) (l:List Nat):Prop:=SlI w v (nats l)
theorem SlN.ext {w w':World} {v:Value} {l:List Nat} (h:SlN w v l) (he:Ext w w'):SlN w' v l:=Sl.ext h he
theorem iLenN {v:Value} {l:List Nat} {K:Value → Prop} (hs:SlN w v l) (h:K (.int .i64 (l.length:Nat))):xLenS v K:=iLenI hs (by rw [cQ];exact h)
theorem iIaN {v:Value} {l:List Int} {j:Nat} {k:IntKind} {K:Value → Prop} (hs:SlI w v l) (h1:j < l.length)
  (h:∀ p,w.cell? p = some (.int .i64 (l.getD j 0)) → K (.pointer (some p))):xIa 1 v (.int k (j:Int)) K:=
 iIaI hs (by omega) (by omega) fun p hp=>h p (by rw [hp];simp)

theorem mE (a:Nat):BitVec.ofInt 64 (a:Int) = BitVec.ofNat 64 a:=by simp
theorem YR {a b:Nat} (ha:a < 2 ^ 63) (hb:b < 2 ^ 63):iAnd .i64 (a:Int) (b:Int) = ((a &&& b:Nat):Int):=by
 have:a &&& b < 2 ^ 63:=Nat.and_lt_two_pow _ hb
 rw [show iAnd .i64 (a:Int) (b:Int) = IntKind.i64.wrap ((BitVec.ofInt 64 (a:Int) &&& BitVec.ofInt 64 (b:Int)).toNat:Nat) from rfl,mE,mE]
 rw [BitVec.toNat_and,BitVec.toNat_ofNat,BitVec.toNat_ofNat,Nat.mod_eq_of_lt (by omega),Nat.mod_eq_of_lt (by omega)]
 exact IntWalk.i64_in _ (by omega)
theorem YA {k:Nat} (hk:k < 63):iShl .i64 1 (k:Int) = ((2 ^ k:Nat):Int):=by
 have h1:min k 64 = k:=by omega
 have h2:(2:Nat) ^ k < 2 ^ 63:=Nat.pow_lt_pow_right (by omega) hk
 simp only [iShl,IntKind.bits,Int.toNat_natCast,h1]
 rw [Int.one_mul,show ((2:Int) ^ k) = ((2 ^ k:Nat):Int) by simp]
 generalize 2 ^ k = m at *
 exact IntWalk.i64_in _ (by omega)
theorem MK {a k:Nat} (hk:k ≤ 64):iShr .i64 (a:Int) (k:Int) = ((a >>> k:Nat):Int):=by
 simp only [iShr,IntKind.bits,Int.toNat_natCast,show min k 64 = k by omega]
 rw [show ((2:Int) ^ k) = ((2 ^ k:Nat):Int) by simp,Nat.shiftRight_eq_div_pow]
 rw [Int.fdiv_eq_ediv_of_nonneg _ (Int.natCast_nonneg _)]
 simp
theorem V7 {a k:Nat} (hk:k ≤ 64) (ha:a < 2 ^ 63):iAnd .i64 (iShr .i64 (a:Int) (k:Int)) 1 = (((a.testBit k).toNat:Nat):Int):=by
 rw [MK hk]
 have:a >>> k < 2 ^ 63:=Nat.lt_of_le_of_lt (Nat.shiftRight_le _ _) ha
 rw [show (1:Int) = ((1:Nat):Int) by rfl,YR this (by omega)]
 congr 1
 rw [Nat.and_one_is_mod,Nat.testBit_eq_decide_div_mod_eq,← Nat.shiftRight_eq_div_pow]
 rcases Nat.mod_two_eq_zero_or_one (a >>> k) with h | h <;> simp [h]
theorem ZZ {j:Nat} {yk:IntKind} {K:Value → Prop} (hj:j < 63) (h:K (.int .i64 ((2 ^ j:Nat):Int))):xSh iShl .i64 (.int .i64 1) (.int yk (j:Int)) K:=
 ⟨_,_,_,rfl,rfl,by omega,by rw [YA hj];exact h⟩
theorem iShrN {a j:Nat} {yk:IntKind} {K:Value → Prop} (hj:j ≤ 64) (h:K (.int .i64 ((a >>> j:Nat):Int))):xSh iShr .i64 (.int .i64 (a:Int)) (.int yk (j:Int)) K:=
 ⟨_,_,_,rfl,rfl,by omega,by rw [MK hj];exact h⟩

end
end Go.Vc

set_option maxRecDepth 100000
namespace Go.Proofs.YtbfpohbmgjcjmaaGreatDoor
open Go.Vc
theorem YC:Tryz.prog.follows .mixedOrders = true:=by kernel_rfl
theorem cD {f : FuncId} {fn : Func} {h : Hint} {args : List Value} {w : World} {R : Value → World → Prop} {S : Prop} (hf : Tryz.prog.funcs[f]? = some fn) (k : S) (hn : (fn.name == "runtime.NumGoroutine") = false := by kernel_rfl) (hb : fn.body = some (fn.body.getD .skip) := by kernel_rfl) (hs : noSel (fn.body.getD .skip) = true := by kernel_rfl) (ha : Nat.ble args.length fn.ntmps = true := by kernel_rfl) (he : S = denF Tryz.prog fn (fn.body.getD .skip) h args w R := by kernel_rfl) : Cal Tryz.prog f args.toArray w R := V3 YC hf hn hb hs ha (he.mp k)
abbrev R6:TypeId:=24
abbrev aB:TypeId:=33
theorem pL:Tryz.prog.underlying R6 = some (.slice aB):=by kernel_rfl
theorem pJ:(Tryz.prog.info? aB).map (fun i=>(i.zero,i.size,i.bytes)) = some (some (.slice none 0 0),1,24):=by kernel_rfl
abbrev gJ:TypeId:=25
abbrev aC:TypeId:=45
theorem JY:Tryz.prog.underlying gJ = some (.slice aC):=by kernel_rfl
theorem I5:(Tryz.prog.info? aC).map (fun i=>(i.zero,i.size,i.bytes)) = some (some (.agg #[(.int .i64 0),(.int .i64 0),(.int .i64 0),(.slice none 0 0)]),4,48):=by kernel_rfl
abbrev aA:TypeId:=72
theorem cA:Tryz.prog.underlying aB = some (.slice aA):=by kernel_rfl
theorem cC:(Tryz.prog.info? aA).map (fun i=>(i.zero,i.size,i.bytes)) = some (some (.agg #[(.int .i64 0),(.int .i64 0)]),2,16):=by kernel_rfl
abbrev JS:TypeId:=47
abbrev xQ:TypeId:=55
theorem IP:Tryz.prog.underlying JS = some (.slice xQ):=by kernel_rfl
theorem IQ:(Tryz.prog.info? xQ).map (fun i=>(i.zero,i.size,i.bytes)) = some (some (.pointer none),1,8):=by kernel_rfl
abbrev lF:TypeId:=51
abbrev t_i64:TypeId:=2
theorem fL:Tryz.prog.underlying lF = some (.slice t_i64):=by kernel_rfl
theorem fQ:(Tryz.prog.info? t_i64).map (fun i=>(i.zero,i.size,i.bytes)) = some (some (.int .i64 0),1,8):=by kernel_rfl
abbrev ZI:TypeId:=61
theorem VD:Tryz.prog.underlying ZI = some (.slice lF):=by kernel_rfl
theorem U6:(Tryz.prog.info? lF).map (fun i=>(i.zero,i.size,i.bytes)) = some (some (.slice none 0 0),1,24):=by kernel_rfl
abbrev Q4:TypeId:=76
abbrev aD:TypeId:=9
theorem qH:Tryz.prog.underlying Q4 = some (.slice aD):=by kernel_rfl
theorem pU:(Tryz.prog.info? aD).map (fun i=>(i.zero,i.size,i.bytes)) = some (some (.string ⟨#[]⟩),1,16):=by kernel_rfl
abbrev I9:TypeId:=146
abbrev bN:TypeId:=174
theorem JC:Tryz.prog.underlying I9 = some (.slice bN):=by kernel_rfl
theorem JK:(Tryz.prog.info? bN).map (fun i=>(i.zero,i.size,i.bytes)) = some (some (.agg #[(.string ⟨#[]⟩),(.slice none 0 0)]),2,40):=by kernel_rfl
abbrev rI:TypeId:=175
abbrev bI:TypeId:=180
theorem S1:Tryz.prog.underlying rI = some (.slice bI):=by kernel_rfl
theorem TT:(Tryz.prog.info? bI).map (fun i=>(i.zero,i.size,i.bytes)) = some (some (.agg #[(.int .i64 0),(.int .i64 0),(.slice none 0 0)]),3,40):=by kernel_rfl
abbrev f7:TypeId:=176
abbrev aQ:TypeId:=4
theorem P7:Tryz.prog.underlying f7 = some (.slice aQ):=by kernel_rfl
theorem QQ:(Tryz.prog.info? aQ).map (fun i=>(i.zero,i.size,i.bytes)) = some (some (.bool false),1,1):=by kernel_rfl
abbrev tC:FuncId:=3
def sK (v0:Value) (w:World) (R:Value → World → Prop):Prop:=
 callV Tryz.prog (.func (.func 4) #[] #[]) [v0] w fun v20 w1=>
 cnd v20 (R (.bool true) w1) (callV Tryz.prog (.func (.func 5) #[] #[]) [v0] w1 fun v23 w2=>
 xEx v23 0 fun v24=>
 xEx v23 1 fun v25=>
 xEx v23 2 fun v26=>
 callV Tryz.prog (.func (.func 6) #[] #[]) [v24,v25,v26] w2 fun v31 w3=>
 xEx v31 0 fun v32=>
 xEx v31 1 fun v33=>
 callV Tryz.prog (.func (.func 7) #[] #[]) [v24,v25,v26] w3 fun v38 w4=>
 xEx v38 0 fun v39=>
 xEx v38 1 fun v40=>
 jn (fun J5=>
 xNe .i64 v33 v40 fun v43=>
 cnd v43 (J5 [(.bool true)] w4) (callV Tryz.prog (.func (.func 8) #[] #[]) [v32,v39] w4 fun v47 w7=>
 xNot v47 fun v48=>
 J5 [v48] w7)) (fun xs5 w6=>
 ∀ _:Nat → Value,cnd (gx xs5 0) (R (.bool false) w6) (xNe .i64 v33 (.int .i64 0) fun v51=>
 cnd v51 (R (.bool true) w6) (xLenS v25 fun v53=>
 xSub .i64 v53 (.int .i64 1) fun v54=>
 xSl 1 v25 none (some v54) fun v59=>
 callV Tryz.prog (.func (.func 9) #[] #[]) [v24,v59,v39] w6 fun v61 w8=>
 xEx v61 0 fun v62=>
 xEx v61 1 fun v63=>
 xSl 1 v25 none (some v54) fun v68=>
 callV Tryz.prog (.func (.func 10) #[] #[]) [v24,v68,v39] w8 fun v70 w9=>
 xEx v70 0 fun v71=>
 xEx v70 1 fun v72=>
 callV Tryz.prog (.func (.func 11) #[] #[]) [v24,v25,v26] w9 fun v77 w10=>
 xEx v77 0 fun v78=>
 xEx v77 1 fun _=>
 xIa 1 v25 v54 fun v83=>
 xLd w10 v83 fun v84=>
 callV Tryz.prog (.func (.func 12) #[] #[]) [(.int .i64 4),v84,v78] w10 fun v86 w11=>
 xEx v86 0 fun v87=>
 xEx v86 1 fun v88=>
 jn (fun J12=>
 xNe .i64 v63 (.int .i64 0) fun v90=>
 cnd v90 (J12 [(.bool true)] w11) (xNe .i64 v62 (.int .i64 (-1)) fun v93=>
 cnd v93 (J12 [(.bool true)] w11) (xNe .i64 v72 (.int .i64 0) fun v97=>
 cnd v97 (J12 [(.bool true)] w11) (xNe .i64 v88 (.int .i64 0) fun v101=>
 cnd v101 (J12 [(.bool true)] w11) (callV Tryz.prog (.func (.func 13) #[] #[]) [v71,v87] w11 fun v106 w14=>
 xNot v106 fun v107=>
 J12 [v107] w14))))) (fun xs12 w13=>
 ∀ _:Nat → Value,cnd (gx xs12 0) (R (.bool false) w13) (xLt .i64 (.int .i64 0) v54 fun v110=>
 cnd v110 (R (.bool true) w13) (callV Tryz.prog (.func (.func 14) #[] #[]) [v24,v87] w13 fun v113 w15=>
 R v113 w15)))))))
theorem HM {v0:Value} {w:World} {R:Value → World → Prop} (h:sK v0 w R):Cal Tryz.prog tC #[v0] w R:=cD (h:=(.node none .leaf (.node none .leaf (.node none .leaf (.node none .leaf (.node none .leaf (.node none (.node none (.reg [] (some [49])) .leaf) (.node none .leaf (.node none .leaf (.node none .leaf (.node none .leaf (.node none .leaf (.node none .leaf (.node none (.node none (.reg [] (some [108])) .leaf) .leaf)))))))))))))) Tryz.func3 h
abbrev OA:FuncId:=4
def O7 (v0:Value) (w:World) (R:Value → World → Prop):Prop:=
 xLenS v0 fun v4=>
 xLt .i64 (.int .i64 4096) v4 fun v5=>
 R v5 w
theorem VQ {v0:Value} {w:World} {R:Value → World → Prop} (h:O7 v0 w R):Cal Tryz.prog OA #[v0] w R:=cD (h:=.leaf) Tryz.func4 h
abbrev iH:FuncId:=5
def iJ (v0:Value) (w:World) (R:Value → World → Prop):Prop:=
 callV Tryz.prog (.func (.func 15) #[] #[]) [v0] w fun v10 w1=>
 callV Tryz.prog (.func (.func 16) #[] #[]) [v10] w1 fun v13 w2=>
 xEx v13 0 fun v14=>
 xEx v13 1 fun v15=>
 xEx v13 2 fun v16=>
 callV Tryz.prog (.func (.func 17) #[] #[]) [v10,(.int .i64 24)] w2 fun v18 w3=>
 xEq .i64 v18 (.int .i64 0) fun v19=>
 cnd v19 (xBs 33 (Value.cells (.slice none 0 0)) 1 0 [] w3 fun v21 w4=>
 callV Tryz.prog (.func (.func 18) #[] #[]) [(.int .i64 8)] w4 fun v22 w5=>
 aR #[(.int .i64 0),(.int .i64 0),(.int .i64 0),(.slice none 0 0)] #[(0,1),(1,1),(2,1),(3,1)] [(0,(.int .i64 1)),(1,(.int .i64 8)),(3,v22)] fun v23=>
 xBs 45 (Value.cells (.agg #[(.int .i64 0),(.int .i64 0),(.int .i64 0),(.slice none 0 0)])) 4 1 [(0,v23)] w5 fun v24 w6=>
 R (.tuple #[v14,v21,v24]) w6) (R (.tuple #[v14,v15,v16]) w3)
theorem qX {v0:Value} {w:World} {R:Value → World → Prop} (h:iJ v0 w R):Cal Tryz.prog iH #[v0] w R:=cD (h:=.leaf) Tryz.func5 h
abbrev kM:FuncId:=6
def kV (v0 v1 v2:Value) (w:World) (R:Value → World → Prop):Prop:=
 callV Tryz.prog (.func (.func 19) #[] #[]) [v0,v1] w fun v14 w1=>
 xNe .i64 v14 (.int .i64 0) fun v17=>
 cnd v17 (R (.tuple #[(.slice none 0 0),v14]) w1) (xLenS v1 fun v21=>
 xEq .i64 v21 (.int .i64 0) fun v22=>
 cnd v22 (R (.tuple #[(.slice none 0 0),(.int .i64 4)]) w1) (xBs 25 (Value.cells (.slice none 0 0)) 1 1 [(0,v2)] w1 fun v27 w2=>
 callV Tryz.prog (.func (.func 20) #[] #[]) [v0,v1,v27] w2 fun v28 w3=>
 xEx v28 0 fun v29=>
 xEx v28 1 fun v30=>
 xNe .i64 v30 (.int .i64 0) fun v32=>
 cnd v32 (R (.tuple #[(.slice none 0 0),v30]) w3) (xLenS v1 fun v36=>
 xSub .i64 v36 (.int .i64 1) fun v37=>
 xIa 1 v1 v37 fun v38=>
 xLd w3 v38 fun v39=>
 aR #[(.slice none 0 0),(.slice none 0 0),(.slice none 0 0),(.slice none 0 0)] #[(0,1),(1,1),(2,1),(3,1)] [(0,v39)] fun v40=>
 xNew (Value.cells v40) 53 w3 fun v41 w4=>
 xLenS v2 fun v43=>
 lp (fun K5 xs5 w6=>
 ∀ _:Nat → Value,xLt .i64 (gx xs5 0) v43 fun v45=>
 cnd v45 (xIa 1 v29 (.int .i64 0) fun v49=>
 xLd w6 v49 fun v50=>
 callV Tryz.prog (.func (.func 21) #[] #[]) [v41,v50,(gx xs5 0)] w6 fun _ w7=>
 xAdd .i64 (gx xs5 0) (.int .i64 1) fun v53=>
 K5 [v53] w7) (jn (fun J8=>
 xNil v41 fun v55=>
 xFa 1 v55 fun v56=>
 xLd w6 v56 fun v57=>
 xLenS v57 fun v58=>
 xLt .i64 (.int .i64 200) v58 fun v59=>
 cnd v59 (J8 [(.bool true)] w6) (xNil v41 fun v62=>
 xFa 1 v62 fun v63=>
 xLd w6 v63 fun v64=>
 callV Tryz.prog (.func (.func 22) #[] #[]) [v64,(.func (.func 23) #[] #[])] w6 fun v65 w10=>
 J8 [v65] w10)) (fun xs8 w9=>
 ∀ _:Nat → Value,cnd (gx xs8 0) (R (.tuple #[(.slice none 0 0),(.int .i64 3)]) w9) (xNil v41 fun v68=>
 xFa 1 v68 fun v69=>
 xLd w9 v69 fun v70=>
 R (.tuple #[v70,(.int .i64 0)]) w9)))) [(.int .i64 0)] w4)))
theorem wV {v0 v1 v2:Value} {w:World} {R:Value → World → Prop} (h:kV v0 v1 v2 w R):Cal Tryz.prog kM #[v0,v1,v2] w R:=cD (h:=(.node none .leaf (.node none .leaf (.node none .leaf (.node none .leaf (.node none .leaf (.node none .leaf (.node none (.node none .leaf (.node (some [44]) .leaf .leaf)) (.node none (.node none (.reg [] (some [66])) .leaf) .leaf))))))))) Tryz.func6 h
abbrev kR:FuncId:=7
def kN (v0 v1 v2:Value) (w:World) (R:Value → World → Prop):Prop:=
 callV Tryz.prog (.func (.func 24) #[] #[]) [v0,v1,v2,(.bool false)] w fun v14 w1=>
 jn (fun J2=>
 xEq .i64 v14 (.int .i64 2) fun v16=>
 cnd v16 (J2 [(.bool true)] w1) (xEq .i64 v14 (.int .i64 1) fun v19=>
 J2 [v19] w1)) (fun xs2 w3=>
 ∀ _:Nat → Value,cnd (gx xs2 0) (R (.tuple #[(.slice none 0 0),v14]) w3) (xLenS v1 fun v23=>
 xEq .i64 v23 (.int .i64 0) fun v24=>
 cnd v24 (R (.tuple #[(.slice none 0 0),(.int .i64 4)]) w3) (xEq .i64 v14 (.int .i64 0) fun v26=>
 jn (fun J4=>
 cnd v26 (callV Tryz.prog (.func (.func 24) #[] #[]) [v0,v1,v2,(.bool true)] w3 fun v30 w6=>
 J4 [v30] w6) (J4 [v14] w3)) (fun xs4 w5=>
 ∀ _:Nat → Value,xNe .i64 (gx xs4 0) (.int .i64 0) fun v32=>
 cnd v32 (R (.tuple #[(.slice none 0 0),(gx xs4 0)]) w5) (callV Tryz.prog (.func (.func 25) #[] #[]) [v1,v2] w5 fun v36 w7=>
 xLenS v36 fun v38=>
 xLt .i64 (.int .i64 200) v38 fun v39=>
 cnd v39 (R (.tuple #[(.slice none 0 0),(.int .i64 3)]) w7) (lp (fun K8 xs8 w9=>
 ∀ _:Nat → Value,xLenS v36 fun v42=>
 xLt .i64 (gx xs8 0) v42 fun v43=>
 cnd v43 (xIa 4 v36 (gx xs8 0) fun v48=>
 xFa 3 v48 fun v49=>
 xLd w9 v49 fun v50=>
 xLenS v50 fun v51=>
 xLt .i64 (.int .i64 40) v51 fun v52=>
 cnd v52 (R (.tuple #[(.slice none 0 0),(.int .i64 3)]) w9) (xAdd .i64 (gx xs8 0) (.int .i64 1) fun v45=>
 K8 [v45] w9)) (R (.tuple #[v36,(.int .i64 0)]) w9)) [(.int .i64 0)] w7))))))
theorem wS {v0 v1 v2:Value} {w:World} {R:Value → World → Prop} (h:kN v0 v1 v2 w R):Cal Tryz.prog kR #[v0,v1,v2] w R:=cD (h:=(.node none .leaf (.node none .leaf (.node none (.node none (.reg [] (some [20])) .leaf) (.node none .leaf (.node none (.node none .leaf (.node (some [8]) .leaf .leaf)) (.node none .leaf (.node none .leaf (.node none .leaf (.node none (.node none .leaf (.node (some [10]) .leaf .leaf)) .leaf)))))))))) Tryz.func7 h
abbrev xJ:FuncId:=8
def yA (v0 v1:Value) (w:World) (R:Value → World → Prop):Prop:=
 xLenS v0 fun v7=>
 xLenS v1 fun v9=>
 xNe .i64 v7 v9 fun v10=>
 cnd v10 (R (.bool false) w) (lp (fun K1 xs1 w2=>
 ∀ _:Nat → Value,xLenS v0 fun v13=>
 xLt .i64 (gx xs1 0) v13 fun v14=>
 cnd v14 (jn (fun J3=>
 xIa 4 v0 (gx xs1 0) fun v19=>
 xFa 0 v19 fun v20=>
 xLd w2 v20 fun v21=>
 xIa 4 v1 (gx xs1 0) fun v24=>
 xFa 0 v24 fun v25=>
 xLd w2 v25 fun v26=>
 xNe .i64 v21 v26 fun v27=>
 cnd v27 (∀ w5,Ext w2 w5 → J3 [(.bool true)] w5) (xIa 4 v0 (gx xs1 0) fun v31=>
 xFa 1 v31 fun v32=>
 xLd w2 v32 fun v33=>
 xIa 4 v1 (gx xs1 0) fun v36=>
 xFa 1 v36 fun v37=>
 xLd w2 v37 fun v38=>
 xNe .i64 v33 v38 fun v39=>
 cnd v39 (∀ w6,Ext w2 w6 → J3 [(.bool true)] w6) (xIa 4 v0 (gx xs1 0) fun v44=>
 xFa 2 v44 fun v45=>
 xLd w2 v45 fun v46=>
 xIa 4 v1 (gx xs1 0) fun v49=>
 xFa 2 v49 fun v50=>
 xLd w2 v50 fun v51=>
 xNe .i64 v46 v51 fun v52=>
 cnd v52 (∀ w7,Ext w2 w7 → J3 [(.bool true)] w7) (xIa 4 v0 (gx xs1 0) fun v57=>
 xFa 3 v57 fun v58=>
 xLd w2 v58 fun v59=>
 xIa 4 v1 (gx xs1 0) fun v62=>
 xFa 3 v62 fun v63=>
 xLd w2 v63 fun v64=>
 callQ Tryz.prog (.func (.func 13) #[] #[]) [v59,v64] w2 fun v65=>
 xNot v65 fun v66=>
 ∀ w8,Ext w2 w8 → J3 [v66] w8)))) (fun xs3 w4=>
 ∀ _:Nat → Value,cnd (gx xs3 0) (R (.bool false) w4) (xAdd .i64 (gx xs1 0) (.int .i64 1) fun v16=>
 K1 [v16] w4))) (R (.bool true) w2)) [(.int .i64 0)] w)
theorem KO {v0 v1:Value} {w:World} {R:Value → World → Prop} (h:yA v0 v1 w R):Cal Tryz.prog xJ #[v0,v1] w R:=cD (h:=(.node none .leaf (.node none .leaf (.node none (.node none .leaf (.node (some [5]) (.node none .leaf (.node none (.node none (.reg [48] (some [67])) .leaf) .leaf)) .leaf)) .leaf)))) Tryz.func8 h
abbrev tS:FuncId:=9
def sO (v0 v1 v2:Value) (w:World) (R:Value → World → Prop):Prop:=
 callV Tryz.prog (.func (.func 19) #[] #[]) [v0,v1] w fun v12 w1=>
 xNe .i64 v12 (.int .i64 0) fun v15=>
 cnd v15 (R (.tuple #[(.int .i64 0),v12]) w1) (callV Tryz.prog (.func (.func 26) #[] #[]) [v2] w1 fun v19 w2=>
 xNot v19 fun v20=>
 cnd v20 (R (.tuple #[(.int .i64 0),(.int .i64 3)]) w2) (aR #[(.string ⟨#[]⟩),(.slice none 0 0),(.slice none 0 0),(.slice none 0 0)] #[(0,1),(1,1),(2,1),(3,1)] [(0,v0),(1,v1),(2,v2)] fun v24=>
 xNew (Value.cells v24) 63 w2 fun v25 w3=>
 callV Tryz.prog (.func (.func 27) #[] #[]) [v25] w3 fun v27 w4=>
 R (.tuple #[v27,(.int .i64 0)]) w4))
theorem H8 {v0 v1 v2:Value} {w:World} {R:Value → World → Prop} (h:sO v0 v1 v2 w R):Cal Tryz.prog tS #[v0,v1,v2] w R:=cD (h:=.leaf) Tryz.func9 h
abbrev lY:FuncId:=10
def mA (v0 v1 v2:Value) (w:World) (R:Value → World → Prop):Prop:=
 xBs 25 (Value.cells (.slice none 0 0)) 1 1 [(0,v2)] w fun v14 w1=>
 callV Tryz.prog (.func (.func 28) #[] #[]) [v0,v1,v14] w1 fun v15 w2=>
 xEx v15 0 fun v16=>
 xEx v15 1 fun v17=>
 xNe .i64 v17 (.int .i64 0) fun v19=>
 cnd v19 (R (.tuple #[(.slice none 0 0),v17]) w2) (xIa 1 v16 (.int .i64 0) fun v22=>
 xLd w2 v22 fun v23=>
 callV Tryz.prog (.func (.func 30) #[] #[]) [v23] w2 fun v24 w3=>
 callV Tryz.prog (.func (.func 29) #[] #[]) [v24] w3 fun v25 w4=>
 R (.tuple #[v25,(.int .i64 0)]) w4)
theorem zH {v0 v1 v2:Value} {w:World} {R:Value → World → Prop} (h:mA v0 v1 v2 w R):Cal Tryz.prog lY #[v0,v1,v2] w R:=cD (h:=.leaf) Tryz.func10 h
abbrev mI:FuncId:=11
def mC (v0 v1 v2:Value) (w:World) (R:Value → World → Prop):Prop:=
 callV Tryz.prog (.func (.func 24) #[] #[]) [v0,v1,v2,(.bool true)] w fun v12 w1=>
 xNe .i64 v12 (.int .i64 0) fun v14=>
 cnd v14 (R (.tuple #[(.slice none 0 0),v12]) w1) (xLenS v2 fun v18=>
 xSub .i64 v18 (.int .i64 1) fun v19=>
 xIa 4 v2 v19 fun v20=>
 xFa 3 v20 fun v21=>
 xLd w1 v21 fun v22=>
 callV Tryz.prog (.func (.func 31) #[] #[]) [v22] w1 fun v23 w2=>
 R (.tuple #[v23,(.int .i64 0)]) w2)
theorem z4 {v0 v1 v2:Value} {w:World} {R:Value → World → Prop} (h:mC v0 v1 v2 w R):Cal Tryz.prog mI #[v0,v1,v2] w R:=cD (h:=.leaf) Tryz.func11 h
abbrev tL:FuncId:=12
def tK (v0 v1 v2:Value) (w:World) (R:Value → World → Prop):Prop:=
 jn (fun J1=>
 callV Tryz.prog (.func (.func 32) #[] #[]) [v1] w fun v11 w3=>
 xNot v11 fun v12=>
 cnd v12 (J1 [(.bool true)] w3) (callV Tryz.prog (.func (.func 32) #[] #[]) [v2] w3 fun v15 w4=>
 xNot v15 fun v16=>
 J1 [v16] w4)) (fun xs1 w2=>
 ∀ _:Nat → Value,cnd (gx xs1 0) (R (.tuple #[(.slice none 0 0),(.int .i64 1)]) w2) (callV Tryz.prog (.func (.func 33) #[] #[]) [v0,(.int .i64 2),(.int .i64 4)] w2 fun v19 w5=>
 xNot v19 fun v20=>
 cnd v20 (R (.tuple #[(.slice none 0 0),(.int .i64 2)]) w5) (callV Tryz.prog (.func (.func 35) #[] #[]) [v0,v1,v2] w5 fun v25 w6=>
 callV Tryz.prog (.func (.func 34) #[] #[]) [v25] w6 fun v26 w7=>
 xEx v26 0 fun v27=>
 xEx v26 1 fun v28=>
 R (.tuple #[v27,v28]) w7)))
theorem H2 {v0 v1 v2:Value} {w:World} {R:Value → World → Prop} (h:tK v0 v1 v2 w R):Cal Tryz.prog tL #[v0,v1,v2] w R:=cD (h:=(.node none .leaf (.node none (.node none (.reg [] (some [17])) .leaf) .leaf))) Tryz.func12 h
abbrev tO:FuncId:=13
def tM (v0 v1:Value) (w:World) (R:Value → World → Prop):Prop:=
 xLenS v0 fun v7=>
 xLenS v1 fun v9=>
 xNe .i64 v7 v9 fun v10=>
 cnd v10 (R (.bool false) w) (lp (fun K1 xs1 w2=>
 ∀ _:Nat → Value,xLenS v0 fun v13=>
 xLt .i64 (gx xs1 0) v13 fun v14=>
 cnd v14 (xIa 2 v0 (gx xs1 0) fun v19=>
 xLdA w2 2 v19 fun v20=>
 xIa 2 v1 (gx xs1 0) fun v23=>
 xLdA w2 2 v23 fun v24=>
 xR Tryz.prog w2 (do eqGuard .neq 72 (.tmp 20) (.tmp 24) v20 v24;binOp .neq 72 v20 v24) fun v25=>
 ∀ w3,Ext w2 w3 → cnd v25 (R (.bool false) w3) (xAdd .i64 (gx xs1 0) (.int .i64 1) fun v16=>
 K1 [v16] w3)) (R (.bool true) w2)) [(.int .i64 0)] w)
theorem HO {v0 v1:Value} {w:World} {R:Value → World → Prop} (h:tM v0 v1 w R):Cal Tryz.prog tO #[v0,v1] w R:=cD (h:=(.node none .leaf (.node none .leaf (.node none (.node none .leaf (.node (some [5]) .leaf .leaf)) .leaf)))) Tryz.func13 h
abbrev BH:FuncId:=14
def BD (v0 v1:Value) (w:World) (R:Value → World → Prop):Prop:=
 xStr .eql v0 (.string ⟨#[73,110,116]⟩) fun v13=>
 cnd v13 (callV Tryz.prog (.func (.func 36) #[] #[]) [v1] w fun v16 w1=>
 xEx v16 0 fun v17=>
 xEx v16 1 fun v18=>
 jn (fun J2=>
 xNe .i64 v18 (.int .i64 0) fun v20=>
 cnd v20 (J2 [(.bool true)] w1) (J2 [v17] w1)) (fun xs2 w3=>
 ∀ _:Nat → Value,R (gx xs2 0) w3)) (xStr .eql v0 (.string ⟨#[67,76]⟩) fun v25=>
 cnd v25 (callV Tryz.prog (.func (.func 37) #[] #[]) [v1] w fun v28 w4=>
 xEx v28 0 fun v29=>
 xEx v28 1 fun v30=>
 jn (fun J5=>
 xNe .i64 v30 (.int .i64 0) fun v32=>
 cnd v32 (J5 [(.bool true)] w4) (J5 [v29] w4)) (fun xs5 w6=>
 ∀ _:Nat → Value,R (gx xs5 0) w6)) (xBs 9 (Value.cells (.string ⟨#[]⟩)) 1 0 [] w fun v38 w7=>
 callV Tryz.prog (.func (.func 39) #[] #[]) [v1] w7 fun v40 w8=>
 xBs 9 (Value.cells (.string ⟨#[]⟩)) 1 1 [(0,v40)] w8 fun v41 w9=>
 aR #[(.slice none 0 0),(.slice none 0 0)] #[(0,1),(1,1)] [(0,v38),(1,v41)] fun v42=>
 callV Tryz.prog (.func (.func 38) #[] #[]) [v0,v42] w9 fun v43 w10=>
 xEx v43 0 fun v44=>
 xEx v43 1 fun v45=>
 jn (fun J11=>
 xEq .i64 v45 (.int .i64 3) fun v47=>
 cnd v47 (J11 [(.bool true)] w10) (xEq .i64 v45 (.int .i64 0) fun v50=>
 cnd v50 (J11 [v44] w10) (J11 [(.bool false)] w10))) (fun xs11 w12=>
 ∀ _:Nat → Value,R (gx xs11 0) w12)))
theorem OS {v0 v1:Value} {w:World} {R:Value → World → Prop} (h:BD v0 v1 w R):Cal Tryz.prog BH #[v0,v1] w R:=cD (h:=(.node none .leaf (.node none (.node none .leaf (.node none .leaf (.node none (.node none .leaf (.node none (.reg [] (some [4])) .leaf)) (.node none .leaf (.node none (.node none .leaf (.node none (.reg [] (some [4])) .leaf)) .leaf))))) (.node none .leaf (.node none (.reg [] (some [4])) .leaf))))) Tryz.func14 h
abbrev DC:FuncId:=15
def DF (v0:Value) (w:World) (R:Value → World → Prop):Prop:=
 xLenS v0 fun v7=>
 xConv .u64 v7 fun v8=>
 xAdd .u64 (.int .u64 7129) v8 fun v9=>
 aR #[(.slice none 0 0),(.int .i64 0),(.int .u64 0)] #[(0,1),(1,1),(2,1)] [(0,v0),(2,v9)] fun v10=>
 xNew (Value.cells v10) 82 w fun v11 w1=>
 lp (fun K2 xs2 w3=>
 ∀ _:Nat → Value,jn (fun J4=>
 xLenS v0 fun v14=>
 xLt .i64 (gx xs2 0) v14 fun v15=>
 cnd v15 (xLt .i64 (gx xs2 0) (.int .i64 4096) fun v18=>
 J4 [v18] w3) (J4 [(.bool false)] w3)) (fun xs4 w5=>
 ∀ _:Nat → Value,cnd (gx xs4 0) (xNil v11 fun v24=>
 xFa 2 v24 fun v25=>
 xLd w5 v25 fun v26=>
 xMul .u64 v26 (.int .u64 1099511628211) fun v27=>
 xIa 1 v0 (gx xs2 0) fun v30=>
 xLd w5 v30 fun v31=>
 xConv .u64 v31 fun v32=>
 xAdd .u64 v27 v32 fun v33=>
 xAdd .u64 v33 (.int .u64 11) fun v34=>
 xNil v11 fun v35=>
 xFa 2 v35 fun v36=>
 ∀ w6,Ext w5 w6 → xSt w6 v36 v34 fun w7=>
 ∀ w8,Ext w7 w8 → xAdd .i64 (gx xs2 0) (.int .i64 1) fun v21=>
 K2 [v21] w8) (R v11 w5))) [(.int .i64 0)] w1
theorem P2 {v0:Value} {w:World} {R:Value → World → Prop} (h:DF v0 w R):Cal Tryz.prog DC #[v0] w R:=cD (h:=(.node none .leaf (.node none .leaf (.node none (.node none .leaf (.node (some [4]) (.node none (.node none (.reg [] (some [19])) .leaf) .leaf) .leaf)) .leaf)))) Tryz.func15 h
abbrev B8:FuncId:=16
def BK (v0:Value) (w:World) (R:Value → World → Prop):Prop:=
 callV Tryz.prog (.func (.func 40) #[] #[]) [v0] w fun v23 w1=>
 callV Tryz.prog (.func (.func 41) #[] #[]) [v23] w1 fun v25 w2=>
 xLenS v25 fun v27=>
 xLt .i64 (.int .i64 10) v27 fun v28=>
 xBs 33 (Value.cells (.slice none 0 0)) 1 0 [] w2 fun v29 w3=>
 xBs 45 (Value.cells (.agg #[(.int .i64 0),(.int .i64 0),(.int .i64 0),(.slice none 0 0)])) 4 0 [] w3 fun v30 w4=>
 callV Tryz.prog (.func (.func 42) #[] #[]) [v0,v28] w4 fun v33 w5=>
 callV Tryz.prog (.func (.func 42) #[] #[]) [v0,v28] w5 fun v36 w6=>
 callV Tryz.prog (.func (.func 43) #[] #[]) [v33,v36] w6 fun v40 w7=>
 xBs 33 (Value.cells (.slice none 0 0)) 1 2 [(0,v40),(1,v33)] w7 fun v42 w8=>
 xOp Tryz.prog (Builtin.append_ #[24,24] 24 #[v29,v42]) w8 fun v43 w9=>
 callV Tryz.prog (.func (.func 17) #[] #[]) [v0,(.int .i64 2)] w9 fun v45 w10=>
 xEq .i64 v45 (.int .i64 0) fun v46=>
 jn (fun J11=>
 cnd v46 (callV Tryz.prog (.func (.func 42) #[] #[]) [v0,v28] w10 fun v50 w13=>
 xBs 33 (Value.cells (.slice none 0 0)) 1 1 [(0,v50)] w13 fun v51 w14=>
 xOp Tryz.prog (Builtin.append_ #[24,24] 24 #[v43,v51]) w14 fun v52 w15=>
 J11 [v52] w15) (J11 [v43] w10)) (fun xs11 w12=>
 ∀ _:Nat → Value,callV Tryz.prog (.func (.func 17) #[] #[]) [v0,(.int .i64 7)] w12 fun v54 w16=>
 xAdd .i64 (.int .i64 2) v54 fun v55=>
 lp (fun K17 xs17 w18=>
 ∀ _:Nat → Value,jn (fun J19=>
 xLt .i64 (.int .i64 0) (gx xs17 1) fun v57=>
 cnd v57 (xLenS v25 fun v60=>
 xLt .i64 (.int .i64 0) v60 fun v61=>
 J19 [v61] w18) (J19 [(.bool false)] w18)) (fun xs19 w20=>
 ∀ _:Nat → Value,cnd (gx xs19 0) (xLenS (gx xs17 0) fun v66=>
 callV Tryz.prog (.func (.func 17) #[] #[]) [v0,(.int .i64 6)] w20 fun v68 w21=>
 xEq .i64 v68 (.int .i64 0) fun v171=>
 cnd v171 (xLenS v25 fun v175=>
 callV Tryz.prog (.func (.func 17) #[] #[]) [v0,v175] w21 fun v176 w22=>
 xIa 1 v25 v176 fun v177=>
 xLd w22 v177 fun v178=>
 callV Tryz.prog (.func (.func 44) #[] #[]) [] w22 fun v179 w23=>
 lp (fun K24 xs24 w25=>
 ∀ _:Nat → Value,xLt .i64 (gx xs24 0) (.int .i64 3) fun v181=>
 cnd v181 (callV Tryz.prog (.func (.func 42) #[] #[]) [v0,v28] w25 fun v188 w26=>
 xIa 1 v179 (gx xs24 0) fun v189=>
 xSt w26 v189 v188 fun w27=>
 xAdd .i64 (gx xs24 0) (.int .i64 1) fun v183=>
 K24 [v183] w27) (callV Tryz.prog (.func (.func 18) #[] #[]) [v178] w25 fun v194 w28=>
 callV Tryz.prog (.func (.func 46) #[] #[]) [v194,v179] w28 fun v196 w29=>
 callV Tryz.prog (.func (.func 45) #[] #[]) [(gx xs17 0),(.int .i64 1),v178,(.int .i64 0),v196] w29 fun v197 w30=>
 xEx v197 0 fun v198=>
 xEx v197 1 fun _=>
 xSub .i64 (gx xs17 1) (.int .i64 1) fun v64=>
 K17 [v198,v64] w30)) [(.int .i64 0)] w23) (xEq .i64 v68 (.int .i64 1) fun v201=>
 cnd v201 (jn (fun J31=>
 xLt .i64 (.int .i64 0) v66 fun v203=>
 cnd v203 (cnd v28 (callV Tryz.prog (.func (.func 47) #[] #[]) [(gx xs17 0)] w21 fun v209 w33=>
 xSub .i64 v66 (.int .i64 1) fun v211=>
 xIa 1 v209 v211 fun v212=>
 xLd w33 v212 fun v213=>
 xLenS v213 fun v214=>
 xEq .i64 v214 (.int .i64 0) fun v215=>
 cnd v215 (xSub .i64 v66 (.int .i64 1) fun v220=>
 xIa 4 (gx xs17 0) v220 fun v221=>
 xFa 3 v221 fun v222=>
 xLd w33 v222 fun v223=>
 xLenS v223 fun v224=>
 xLt .i64 v224 (.int .i64 30) fun v225=>
 J31 [v225] w33) (J31 [(.bool false)] w33)) (J31 [(.bool false)] w21)) (J31 [(.bool false)] w21)) (fun xs31 w32=>
 ∀ _:Nat → Value,cnd (gx xs31 0) (xSub .i64 v66 (.int .i64 1) fun v230=>
 xSub .i64 v66 (.int .i64 1) fun v233=>
 xIa 4 (gx xs17 0) v233 fun v234=>
 xFa 3 v234 fun v235=>
 xLd w32 v235 fun v236=>
 callV Tryz.prog (.func (.func 48) #[] #[]) [(.int .i64 5),v236] w32 fun v237 w34=>
 callV Tryz.prog (.func (.func 45) #[] #[]) [(gx xs17 0),(.int .i64 4),v230,(.int .i64 0),v237] w34 fun v238 w35=>
 xEx v238 0 fun v239=>
 xEx v238 1 fun _=>
 xSub .i64 (gx xs17 1) (.int .i64 1) fun v64=>
 K17 [v239,v64] w35) (xSub .i64 (gx xs17 1) (.int .i64 1) fun v64=>
 K17 [(gx xs17 0),v64] w32))) (xEq .i64 v68 (.int .i64 2) fun v242=>
 jn (fun J36=>
 cnd v242 (J36 [(.bool true)] w21) (xEq .i64 v68 (.int .i64 3) fun v243=>
 J36 [v243] w21)) (fun xs36 w37=>
 ∀ _:Nat → Value,cnd (gx xs36 0) (xLenS (gx xs11 0) fun v246=>
 callV Tryz.prog (.func (.func 17) #[] #[]) [v0,v246] w37 fun v247 w38=>
 xIa 1 (gx xs11 0) v247 fun v253=>
 xLd w38 v253 fun v254=>
 callV Tryz.prog (.func (.func 45) #[] #[]) [(gx xs17 0),(.int .i64 2),v247,(.int .i64 0),v254] w38 fun v255 w39=>
 xEx v255 0 fun v256=>
 xEx v255 1 fun _=>
 xSub .i64 (gx xs17 1) (.int .i64 1) fun v64=>
 K17 [v256,v64] w39) (lp (fun K40 xs40 w41=>
 ∀ _:Nat → Value,xLenS (gx xs40 0) fun v71=>
 xLt .i64 (gx xs40 1) v71 fun v72=>
 cnd v72 (lp (fun K42 xs42 w43=>
 ∀ _:Nat → Value,xLenS (gx xs42 0) fun v77=>
 xLt .i64 (gx xs42 1) v77 fun v78=>
 cnd v78 (xIa 4 (gx xs42 0) (gx xs40 1) fun v83=>
 xFa 3 v83 fun v84=>
 xLd w43 v84 fun v85=>
 jn (fun J44=>
 xIa 2 v85 (.int .i64 0) fun v87=>
 xFa 0 v87 fun v88=>
 xLd w43 v88 fun v89=>
 xEq .i64 v89 (.int .i64 4) fun v90=>
 cnd v90 (xIa 4 (gx xs42 0) (gx xs42 1) fun v96=>
 xFa 3 v96 fun v97=>
 xLd w43 v97 fun v98=>
 ∀ w46,Ext w43 w46 → callV Tryz.prog (.func (.func 50) #[] #[]) [v85] w46 fun v93 w47=>
 Ext w46 w47 ∧ callQ Tryz.prog (.func (.func 49) #[] #[]) [v93,v98] w47 fun v99=>
 cnd v99 (xLenS (gx xs42 0) fun v103=>
 xEq .i64 v103 v66 fun v105=>
 ∀ w48,Ext w47 w48 → J44 [v105] w48) (∀ w49,Ext w47 w49 → J44 [(.bool false)] w49)) (∀ w50,Ext w43 w50 → ∀ w51,Ext w50 w51 → J44 [(.bool false)] w51)) (fun xs44 w45=>
 ∀ _:Nat → Value,cnd (gx xs44 0) (callV Tryz.prog (.func (.func 51) #[] #[]) [v85] w45 fun v112 w52=>
 callV Tryz.prog (.func (.func 45) #[] #[]) [(gx xs42 0),(.int .i64 3),(gx xs40 1),(gx xs42 1),v112] w52 fun v113 w53=>
 xEx v113 0 fun v114=>
 xEx v113 1 fun _=>
 xAdd .i64 (gx xs42 1) (.int .i64 1) fun v80=>
 K42 [v114,v80] w53) (xAdd .i64 (gx xs42 1) (.int .i64 1) fun v80=>
 K42 [(gx xs42 0),v80] w45))) (xAdd .i64 (gx xs40 1) (.int .i64 1) fun v74=>
 K40 [(gx xs42 0),v74] w43)) [(gx xs40 0),(.int .i64 0)] w41) (jn (fun J54=>
 xLenS (gx xs40 0) fun v117=>
 xEq .i64 v117 v66 fun v119=>
 cnd v119 (xLt .i64 (.int .i64 0) v66 fun v122=>
 cnd v122 (xSub .i64 v66 (.int .i64 1) fun v127=>
 xIa 4 (gx xs40 0) v127 fun v128=>
 xFa 3 v128 fun v129=>
 xLd w41 v129 fun v130=>
 xLenS v130 fun v131=>
 xLt .i64 v131 (.int .i64 12) fun v132=>
 J54 [v132] w41) (J54 [(.bool false)] w41)) (J54 [(.bool false)] w41)) (fun xs54 w55=>
 ∀ _:Nat → Value,cnd (gx xs54 0) (xSub .i64 v66 (.int .i64 1) fun v138=>
 xIa 4 (gx xs40 0) v138 fun v139=>
 xFa 3 v139 fun v140=>
 xLd w55 v140 fun v141=>
 xSub .i64 v66 (.int .i64 1) fun v145=>
 xIa 4 (gx xs40 0) v145 fun v146=>
 xFa 3 v146 fun v147=>
 xLd w55 v147 fun v148=>
 ∀ w56,Ext w55 w56 → callV Tryz.prog (.func (.func 43) #[] #[]) [v33,v148] w56 fun v149 w57=>
 Ext w56 w57 ∧ ∀ w58,Ext w57 w58 → callV Tryz.prog (.func (.func 43) #[] #[]) [v141,v149] w58 fun v150 w59=>
 ∀ w60,Ext w59 w60 → callV Tryz.prog (.func (.func 45) #[] #[]) [(gx xs40 0),(.int .i64 1),(.int .i64 0),(.int .i64 0),v150] w60 fun v151 w61=>
 xEx v151 0 fun v152=>
 xEx v151 1 fun _=>
 ∀ w62,Ext w61 w62 → xSub .i64 v66 (.int .i64 1) fun v158=>
 xSub .i64 v66 (.int .i64 1) fun v162=>
 xIa 4 v152 v162 fun v163=>
 xFa 3 v163 fun v164=>
 xLd w62 v164 fun v165=>
 callV Tryz.prog (.func (.func 43) #[] #[]) [v33,v165] w62 fun v166 w63=>
 callV Tryz.prog (.func (.func 45) #[] #[]) [v152,(.int .i64 3),v66,v158,v166] w63 fun v167 w64=>
 xEx v167 0 fun v168=>
 xEx v167 1 fun _=>
 xSub .i64 (gx xs17 1) (.int .i64 1) fun v64=>
 K17 [v168,v64] w64) (xSub .i64 (gx xs17 1) (.int .i64 1) fun v64=>
 K17 [(gx xs40 0),v64] w55)))) [(gx xs17 0),(.int .i64 0)] w37))))) (jn (fun J65=>
 xLenS (gx xs17 0) fun v259=>
 xLt .i64 (.int .i64 0) v259 fun v260=>
 cnd v260 (callV Tryz.prog (.func (.func 17) #[] #[]) [v0,(.int .i64 5)] w20 fun v263 w67=>
 xEq .i64 v263 (.int .i64 0) fun v264=>
 J65 [v264] w67) (J65 [(.bool false)] w20)) (fun xs65 w66=>
 ∀ _:Nat → Value,jn (fun J68=>
 cnd (gx xs65 0) (xLenS (gx xs17 0) fun v268=>
 callV Tryz.prog (.func (.func 17) #[] #[]) [v0,v268] w66 fun v269 w70=>
 callV Tryz.prog (.func (.func 17) #[] #[]) [v0,(.int .i64 5)] w70 fun v271 w71=>
 xEq .i64 v271 (.int .i64 0) fun v284=>
 jn (fun J72=>
 cnd v284 (callV Tryz.prog (.func (.func 17) #[] #[]) [v0,(.int .i64 6)] w71 fun v288 w74=>
 xSub .i64 v288 (.int .i64 1) fun v289=>
 xIa 4 (gx xs17 0) v269 fun v290=>
 xFa 1 v290 fun v291=>
 xSt w74 v291 v289 fun w75=>
 J72 [] w75) (xEq .i64 v271 (.int .i64 1) fun v293=>
 jn (fun J76=>
 cnd v293 (callV Tryz.prog (.func (.func 17) #[] #[]) [v0,(.int .i64 3)] w71 fun v297 w78=>
 xIa 4 (gx xs17 0) v269 fun v298=>
 xFa 2 v298 fun v299=>
 xSt w78 v299 v297 fun w79=>
 J76 [] w79) (xEq .i64 v271 (.int .i64 2) fun v301=>
 jn (fun J80=>
 cnd v301 (callV Tryz.prog (.func (.func 42) #[] #[]) [v0,v28] w71 fun v306 w82=>
 xIa 4 (gx xs17 0) v269 fun v307=>
 xFa 3 v307 fun v308=>
 xSt w82 v308 v306 fun w83=>
 J80 [] w83) (xEq .i64 v271 (.int .i64 3) fun v310=>
 jn (fun J84=>
 cnd v310 (callV Tryz.prog (.func (.func 17) #[] #[]) [v0,(.int .i64 6)] w71 fun v314 w86=>
 xIa 4 (gx xs17 0) v269 fun v315=>
 xFa 0 v315 fun v316=>
 xSt w86 v316 v314 fun w87=>
 J84 [] w87) (xIa 4 (gx xs17 0) v269 fun v277=>
 xFa 3 v277 fun v278=>
 xLd w71 v278 fun v279=>
 callV Tryz.prog (.func (.func 52) #[] #[]) [v0,v279] w71 fun v280 w88=>
 xIa 4 (gx xs17 0) v269 fun v281=>
 xFa 3 v281 fun v282=>
 xSt w88 v282 v280 fun w89=>
 J84 [] w89)) (fun _ w85=>
 ∀ _:Nat → Value,J80 [] w85))) (fun _ w81=>
 ∀ _:Nat → Value,J76 [] w81))) (fun _ w77=>
 ∀ _:Nat → Value,J72 [] w77))) (fun _ w73=>
 ∀ _:Nat → Value,J68 [] w73)) (J68 [] w66)) (fun _ w69=>
 ∀ _:Nat → Value,R (.tuple #[v23,(gx xs11 0),(gx xs17 0)]) w69))))) [v30,v55] w16)
theorem OI {v0:Value} {w:World} {R:Value → World → Prop} (h:BK v0 w R):Cal Tryz.prog B8 #[v0] w R:=cD (h:=(.node none .leaf (.node none .leaf (.node none .leaf (.node none .leaf (.node none .leaf (.node none .leaf (.node none .leaf (.node none (.node none .leaf (.node (some [8]) .leaf .leaf)) (.node none (.node none .leaf (.node (some [9,12]) (.node none (.node none (.reg [] (some [62])) .leaf) (.node none (.node none .leaf (.node none .leaf (.node none .leaf (.node none (.node none .leaf (.node none .leaf (.node none (.node none .leaf (.node (some [16]) .leaf .leaf)) .leaf))) (.node none .leaf (.node none (.node none (.reg [] (some [226])) .leaf) (.node none (.node none .leaf (.node (some [241]) .leaf .leaf)) (.node none .leaf (.node none (.node none .leaf (.node (some [9,18]) (.node none .leaf (.node none (.node none .leaf (.node (some [9,19]) (.node none .leaf (.node none (.node none .leaf (.node none (.reg [13] (some [106])) .leaf)) .leaf)) .leaf)) .leaf)) .leaf)) (.node none (.reg [] (some [133])) .leaf)))))))))) .leaf)) .leaf)) (.node none (.node none (.reg [] (some [265])) (.node (some []) (.node none .leaf (.node none .leaf (.node none .leaf (.node (some []) .leaf (.node none .leaf (.node (some []) .leaf (.node none .leaf (.node (some []) .leaf (.node none .leaf (.node (some []) .leaf .leaf)))))))))) .leaf)) .leaf))))))))))) Tryz.func16 h
abbrev tZ:FuncId:=17
def DX (v0 v1:Value) (w:World) (R:Value → World → Prop):Prop:=
 xLt .i64 v1 (.int .i64 1) fun v7=>
 cnd v7 (R (.int .i64 0) w) (xNil v0 fun v10=>
 xFa 2 v10 fun v11=>
 xLd w v11 fun v12=>
 xMul .u64 v12 (.int .u64 6364136223846793005) fun v13=>
 xAdd .u64 v13 (.int .u64 1442695040888963407) fun v14=>
 xNil v0 fun v15=>
 xFa 2 v15 fun v16=>
 xSt w v16 v14 fun w1=>
 xNil v0 fun v18=>
 xFa 2 v18 fun v19=>
 xLd w1 v19 fun v20=>
 xSh iShr .u64 v20 (.int .u64 33) fun v21=>
 xBits iAnd .u64 v21 (.int .u64 16777215) fun v22=>
 xConv .i64 v22 fun v23=>
 xNil v0 fun v25=>
 xFa 1 v25 fun v26=>
 xLd w1 v26 fun v27=>
 xNil v0 fun v29=>
 xFa 0 v29 fun v30=>
 xLd w1 v30 fun v31=>
 xLenS v31 fun v32=>
 xLt .i64 v27 v32 fun v33=>
 ∀ w2,Ext w1 w2 → jn (fun J3=>
 cnd v33 (xNil v0 fun v36=>
 xFa 0 v36 fun v37=>
 xLd w2 v37 fun v38=>
 xNil v0 fun v40=>
 xFa 1 v40 fun v41=>
 xLd w2 v41 fun v42=>
 xIa 1 v38 v42 fun v43=>
 xLd w2 v43 fun v44=>
 xConv .i64 v44 fun v45=>
 xAdd .i64 v23 v45 fun v46=>
 ∀ w5,Ext w2 w5 → xNil v0 fun v49=>
 xFa 1 v49 fun v50=>
 xLd w5 v50 fun v51=>
 xAdd .i64 v51 (.int .i64 1) fun v52=>
 xNil v0 fun v53=>
 xFa 1 v53 fun v54=>
 xSt w5 v54 v52 fun w6=>
 J3 [v46] w6) (J3 [v23] w2)) (fun xs3 w4=>
 ∀ _:Nat → Value,xRem .i64 (gx xs3 0) v1 fun v57=>
 R v57 w4))
theorem QO {v0 v1:Value} {w:World} {R:Value → World → Prop} (h:DX v0 v1 w R):Cal Tryz.prog tZ #[v0,v1] w R:=cD (h:=(.node none .leaf (.node none .leaf (.node none .leaf (.node none .leaf (.node none (.node none .leaf (.node (some [5]) .leaf .leaf)) .leaf)))))) Tryz.func17 h
abbrev pR:FuncId:=18
def AB (v0:Value) (w:World) (R:Value → World → Prop):Prop:=
 callV Tryz.prog (.func (.func 54) #[] #[]) [] w fun v6 w1=>
 xIa 1 v6 v0 fun v8=>
 xLd w1 v8 fun v9=>
 callV Tryz.prog (.func (.func 53) #[] #[]) [v9] w1 fun v10 w2=>
 xEx v10 0 fun v11=>
 xEx v10 1 fun _=>
 R v11 w2
theorem M5 {v0:Value} {w:World} {R:Value → World → Prop} (h:AB v0 w R):Cal Tryz.prog pR #[v0] w R:=cD (h:=.leaf) Tryz.func18 h
abbrev qN:FuncId:=19
def qA (v0 v1:Value) (w:World) (R:Value → World → Prop):Prop:=
 callV Tryz.prog (.func (.func 55) #[] #[]) [v0] w fun v9 w1=>
 xEx v9 0 fun _=>
 xEx v9 1 fun v11=>
 xNot v11 fun v13=>
 cnd v13 (R (.int .i64 2) w1) (callV Tryz.prog (.func (.func 56) #[] #[]) [v1] w1 fun v15 w2=>
 xNot v15 fun v16=>
 cnd v16 (R (.int .i64 1) w2) (R (.int .i64 0) w2))
theorem E8 {v0 v1:Value} {w:World} {R:Value → World → Prop} (h:qA v0 v1 w R):Cal Tryz.prog qN #[v0,v1] w R:=cD (h:=.leaf) Tryz.func19 h
abbrev wJ:FuncId:=20
def vY (v0 v1 v2:Value) (w:World) (R:Value → World → Prop):Prop:=
 callV Tryz.prog (.func (.func 57) #[] #[]) [v2,(.func (.func 58) #[] #[])] w fun v13 w1=>
 cnd v13 (R (.tuple #[(.slice none 0 0),(.int .i64 3)]) w1) (xLenS v2 fun v15=>
 lp (fun K2 xs2 w3=>
 ∀ _:Nat → Value,xLt .i64 (gx xs2 1) v15 fun v17=>
 cnd v17 (xIa 1 v2 (gx xs2 1) fun v18=>
 xLd w3 v18 fun v19=>
 aR #[(.string ⟨#[]⟩),(.slice none 0 0),(.slice none 0 0),(.slice none 0 0)] #[(0,1),(1,1),(2,1),(3,1)] [(0,v0),(1,v1),(2,v19)] fun v23=>
 xNew (Value.cells v23) 63 w3 fun v24 w4=>
 callV Tryz.prog (.func (.func 27) #[] #[]) [v24] w4 fun v26 w5=>
 xLe .i64 (.int .i64 0) v26 fun v27=>
 cnd v27 (R (.tuple #[(.slice none 0 0),(.int .i64 5)]) w5) (xBs 55 (Value.cells (.pointer none)) 1 1 [(0,v24)] w5 fun v30 w6=>
 xOp Tryz.prog (Builtin.append_ #[47,47] 47 #[(gx xs2 0),v30]) w6 fun v31 w7=>
 xAdd .i64 (gx xs2 1) (.int .i64 1) fun v32=>
 K2 [v31,v32] w7)) (R (.tuple #[(gx xs2 0),(.int .i64 0)]) w3)) [(.slice none 0 0),(.int .i64 0)] w1)
theorem KA {v0 v1 v2:Value} {w:World} {R:Value → World → Prop} (h:vY v0 v1 v2 w R):Cal Tryz.prog wJ #[v0,v1,v2] w R:=cD (h:=(.node none .leaf (.node none .leaf (.node none .leaf (.node none (.node none .leaf (.node (some [8,16]) .leaf .leaf)) .leaf))))) Tryz.func20 h
abbrev pE:FuncId:=21
def oI (v0 v1 v2:Value) (w:World) (R:Value → World → Prop):Prop:=
 xNil v1 fun v9=>
 xFa 2 v9 fun v10=>
 xLd w v10 fun v11=>
 xIa 4 v11 v2 fun v13=>
 xLdA w 4 v13 fun v14=>
 xNew (Value.cells (.agg #[(.int .i64 0),(.int .i64 0),(.int .i64 0),(.slice none 0 0)])) 45 w fun v6 w1=>
 xStA Tryz.prog w1 4 v6 v14 fun w2=>
 xNil v1 fun v29=>
 xFa 3 v29 fun v30=>
 xLd w2 v30 fun v31=>
 xIa 1 v31 v2 fun v33=>
 xLd w2 v33 fun v34=>
 xLenS v34 fun v35=>
 xEq .i64 v35 (.int .i64 0) fun v36=>
 cnd v36 (∃ E3:World → World → Prop,FrE E3 ∧ xLdA w2 4 v6 fun v37=>
 (∀ w4,E3 w2 w4 → xLdA w4 4 v6 fun u37=>
 u37 = v37) ∧ xNil v0 fun v39=>
 xFa 2 v39 fun v40=>
 xLd w2 v40 fun v41=>
 (∀ w5,E3 w2 w5 → xLd w5 v40 fun u41=>
 u41 = v41) ∧ ∀ w6,Ext w2 w6 → (callV Tryz.prog (.func (.func 59) #[] #[]) [v37,v41] w6 fun v42 w7=>
 ∀ w8,Ext w7 w8 → xNew (Value.cells (.agg #[(.int .i64 0),(.int .i64 0),(.int .i64 0),(.slice none 0 0)])) 45 w8 fun v7 w9=>
 E3 w8 w9 ∧ ∀ w10,Ext w9 w10 → xStA Tryz.prog w10 4 v7 v42 fun w11=>
 ∀ w12,Ext w11 w12 → ∃ E13:World → World → Prop,FrE E13 ∧ xFa 0 v7 fun v45=>
 xLd w12 v45 fun v46=>
 (∀ w14,E13 w12 w14 → xLd w14 v45 fun u46=>
 u46 = v46) ∧ xFa 1 v7 fun v47=>
 xLd w12 v47 fun v48=>
 (∀ w15,E13 w12 w15 → xLd w15 v47 fun u48=>
 u48 = v48) ∧ xFa 2 v7 fun v49=>
 xLd w12 v49 fun v50=>
 (∀ w16,E13 w12 w16 → xLd w16 v49 fun u50=>
 u50 = v50) ∧ xFa 3 v7 fun v51=>
 xLd w12 v51 fun v52=>
 (∀ w17,E13 w12 w17 → xLd w17 v51 fun u52=>
 u52 = v52) ∧ xFa 3 v6 fun v54=>
 xLd w12 v54 fun v55=>
 (∀ w18,E13 w12 w18 → xLd w18 v54 fun u55=>
 u55 = v55) ∧ ∀ w19,Ext w12 w19 → callV Tryz.prog (.func (.func 61) #[] #[]) [v0,v46,v48,v50,v52] w19 fun v53 w20=>
 E13 w19 w20 ∧ ∀ w21,Ext w20 w21 → callV Tryz.prog (.func (.func 60) #[] #[]) [v0,v53,v55] w21 fun _ w22=>
 ∀ w23,Ext w22 w23 → R (.tuple #[]) w23) ∧ (xNew (Value.cells (.agg #[(.int .i64 0),(.int .i64 0),(.int .i64 0),(.slice none 0 0)])) 45 w6 fun v7 w24=>
 E3 w6 w24 ∧ ∀ w25,Ext w24 w25 → callV Tryz.prog (.func (.func 59) #[] #[]) [v37,v41] w25 fun v42 w26=>
 ∀ w27,Ext w26 w27 → xStA Tryz.prog w27 4 v7 v42 fun w28=>
 ∀ w29,Ext w28 w29 → ∃ E30:World → World → Prop,FrE E30 ∧ xFa 0 v7 fun v45=>
 xLd w29 v45 fun v46=>
 (∀ w31,E30 w29 w31 → xLd w31 v45 fun u46=>
 u46 = v46) ∧ xFa 1 v7 fun v47=>
 xLd w29 v47 fun v48=>
 (∀ w32,E30 w29 w32 → xLd w32 v47 fun u48=>
 u48 = v48) ∧ xFa 2 v7 fun v49=>
 xLd w29 v49 fun v50=>
 (∀ w33,E30 w29 w33 → xLd w33 v49 fun u50=>
 u50 = v50) ∧ xFa 3 v7 fun v51=>
 xLd w29 v51 fun v52=>
 (∀ w34,E30 w29 w34 → xLd w34 v51 fun u52=>
 u52 = v52) ∧ xFa 3 v6 fun v54=>
 xLd w29 v54 fun v55=>
 (∀ w35,E30 w29 w35 → xLd w35 v54 fun u55=>
 u55 = v55) ∧ ∀ w36,Ext w29 w36 → callV Tryz.prog (.func (.func 61) #[] #[]) [v0,v46,v48,v50,v52] w36 fun v53 w37=>
 E30 w36 w37 ∧ ∀ w38,Ext w37 w38 → callV Tryz.prog (.func (.func 60) #[] #[]) [v0,v53,v55] w38 fun _ w39=>
 ∀ w40,Ext w39 w40 → R (.tuple #[]) w40)) (jn (fun J41=>
 ∃ E43:World → World → Prop,FrE E43 ∧ xFa 0 v6 fun v58=>
 xLd w2 v58 fun v59=>
 (∀ w44,E43 w2 w44 → xLd w44 v58 fun u59=>
 u59 = v59) ∧ xEq .i64 v59 (.int .i64 2) fun v60=>
 cnd v60 (xFa 1 v6 fun v62=>
 xLd w2 v62 fun v63=>
 (∀ w45,E43 w2 w45 → xLd w45 v62 fun u63=>
 u63 = v63) ∧ xNil v1 fun v65=>
 xFa 1 v65 fun v66=>
 xLd w2 v66 fun v67=>
 (∀ w46,E43 w2 w46 → xLd w46 v66 fun u67=>
 u67 = v67) ∧ mH Tryz.prog E43 (.func (.func 62) #[] #[]) [v67] w2 fun v68=>
 xSub .i64 v68 (.int .i64 1) fun v69=>
 xEq .i64 v63 v69 fun v70=>
 ∀ w47,Ext w2 w47 → J41 [v70] w47) (∀ w48,Ext w2 w48 → J41 [(.bool false)] w48)) (fun xs41 w42=>
 ∀ _:Nat → Value,cnd (gx xs41 0) (callV Tryz.prog (.func (.func 63) #[] #[]) [v0] w42 fun _ w49=>
 R (.tuple #[]) w49) (xFa 0 v6 fun v75=>
 xLd w42 v75 fun v76=>
 xEq .i64 v76 (.int .i64 2) fun v77=>
 cnd v77 (∃ E50:World → World → Prop,FrE E50 ∧ xFa 0 v6 fun v80=>
 xLd w42 v80 fun v81=>
 (∀ w51,E50 w42 w51 → xLd w51 v80 fun u81=>
 u81 = v81) ∧ xFa 1 v6 fun v82=>
 xLd w42 v82 fun v83=>
 (∀ w52,E50 w42 w52 → xLd w52 v82 fun u83=>
 u83 = v83) ∧ xFa 3 v6 fun v84=>
 xLd w42 v84 fun v85=>
 (∀ w53,E50 w42 w53 → xLd w53 v84 fun u85=>
 u85 = v85) ∧ xFa 3 v6 fun v88=>
 xLd w42 v88 fun v89=>
 (∀ w54,E50 w42 w54 → xLd w54 v88 fun u89=>
 u89 = v89) ∧ ∀ w55,Ext w42 w55 → callV Tryz.prog (.func (.func 29) #[] #[]) [v85] w55 fun v86 w56=>
 E50 w55 w56 ∧ ∀ w57,Ext w56 w57 → callV Tryz.prog (.func (.func 61) #[] #[]) [v0,v81,v83,(.int .i64 0),v86] w57 fun v87 w58=>
 E50 w57 w58 ∧ ∀ w59,Ext w58 w59 → callV Tryz.prog (.func (.func 60) #[] #[]) [v0,v87,v89] w59 fun _ w60=>
 ∀ w61,Ext w60 w61 → R (.tuple #[]) w61) (∃ E62:World → World → Prop,FrE E62 ∧ xLdA w42 4 v6 fun v16=>
 (∀ w63,E62 w42 w63 → xLdA w63 4 v6 fun u16=>
 u16 = v16) ∧ xNil v1 fun v18=>
 xFa 2 v18 fun v19=>
 xLd w42 v19 fun v20=>
 (∀ w64,E62 w42 w64 → xLd w64 v19 fun u20=>
 u20 = v20) ∧ xFa 2 v6 fun v21=>
 xLd w42 v21 fun v22=>
 (∀ w65,E62 w42 w65 → xLd w65 v21 fun u22=>
 u22 = v22) ∧ xIa 4 v20 v22 fun v23=>
 xFa 3 v23 fun v24=>
 xLd w42 v24 fun v25=>
 (∀ w66,E62 w42 w66 → xLd w66 v24 fun u25=>
 u25 = v25) ∧ ∀ w67,Ext w42 w67 → callV Tryz.prog (.func (.func 64) #[] #[]) [v0,v16,v25] w67 fun _ w68=>
 ∀ w69,Ext w68 w69 → R (.tuple #[]) w69))))
theorem CA {v0 v1 v2:Value} {w:World} {R:Value → World → Prop} (h:oI v0 v1 v2 w R):Cal Tryz.prog pE #[v0,v1,v2] w R:=cD (h:=(.node none .leaf (.node none .leaf (.node none (.node none (.regE [1000001] none) (.regE [1000001] none)) (.node none (.regE [10,1000001] (some [57])) (.node none .leaf (.node none .leaf (.node none (.regE [1000001] none) (.regE [1000001] none))))))))) Tryz.func21 h
abbrev c8:FuncId:=22
def dD (v0 v1:Value) (w:World) (R:Value → World → Prop):Prop:=
 callV Tryz.prog (.func (.func 65) #[] #[]) [v0,v1] w fun v7 w1=>
 xLe .i64 (.int .i64 0) v7 fun v8=>
 R v8 w1
theorem jS {v0 v1:Value} {w:World} {R:Value → World → Prop} (h:dD v0 v1 w R):Cal Tryz.prog c8 #[v0,v1] w R:=cD (h:=.leaf) Tryz.func22 h
abbrev cH:FuncId:=23
def jL (v0:Value) (w:World) (R:Value → World → Prop):Prop:=
 xNew (Value.cells v0) 45 w fun v1 w1=>
 xFa 3 v1 fun v3=>
 xLd w1 v3 fun v4=>
 xLenS v4 fun v5=>
 xLt .i64 (.int .i64 40) v5 fun v6=>
 R v6 w1
theorem uL {v0:Value} {w:World} {R:Value → World → Prop} (h:jL v0 w R):Cal Tryz.prog cH #[v0] w R:=cD (h:=.leaf) Tryz.func23 h
abbrev FD:FuncId:=24
def FC (v0 v1 v2 v3:Value) (w:World) (R:Value → World → Prop):Prop:=
 callV Tryz.prog (.func (.func 41) #[] #[]) [v0] w fun v11 w1=>
 xLenS v11 fun v12=>
 xEq .i64 v12 (.int .i64 0) fun v13=>
 cnd v13 (R (.int .i64 2) w1) (lp (fun K2 xs2 w3=>
 ∀ _:Nat → Value,xLenS v1 fun v16=>
 xLt .i64 (gx xs2 0) v16 fun v17=>
 cnd v17 (xIa 1 v1 (gx xs2 0) fun v22=>
 xLd w3 v22 fun v23=>
 callV Tryz.prog (.func (.func 32) #[] #[]) [v23] w3 fun v24 w4=>
 xNot v24 fun v25=>
 cnd v25 (R (.int .i64 1) w4) (xAdd .i64 (gx xs2 0) (.int .i64 1) fun v19=>
 K2 [v19] w4)) (jn (fun J5=>
 xLenS v2 fun v27=>
 xEq .i64 v27 (.int .i64 0) fun v28=>
 cnd v28 (J5 [(.bool true)] w3) (xLenS v2 fun v31=>
 xLt .i64 (.int .i64 200) v31 fun v32=>
 J5 [v32] w3)) (fun xs5 w6=>
 ∀ _:Nat → Value,cnd (gx xs5 0) (R (.int .i64 3) w6) (jn (fun J7=>
 cnd v3 (callV Tryz.prog (.func (.func 66) #[] #[]) [v0,v1,v2] w6 fun v39 w9=>
 xLe .i64 (.int .i64 0) v39 fun v40=>
 J7 [v40] w9) (J7 [(.bool false)] w6)) (fun xs7 w8=>
 ∀ _:Nat → Value,cnd (gx xs7 0) (R (.int .i64 5) w8) (R (.int .i64 0) w8)))))) [(.int .i64 0)] w1)
theorem QR {v0 v1 v2 v3:Value} {w:World} {R:Value → World → Prop} (h:FC v0 v1 v2 v3 w R):Cal Tryz.prog FD #[v0,v1,v2,v3] w R:=cD (h:=(.node none .leaf (.node none .leaf (.node none (.node none .leaf (.node (some [9]) .leaf .leaf)) (.node none (.node none (.reg [] (some [33])) .leaf) (.node none (.node none (.reg [] (some [41])) .leaf) .leaf)))))) Tryz.func24 h
abbrev s8:FuncId:=25
def sL (v0 v1:Value) (w:World) (R:Value → World → Prop):Prop:=
 xLenS v0 fun v22=>
 xSub .i64 v22 (.int .i64 1) fun v23=>
 xIa 1 v0 v23 fun v26=>
 xLd w v26 fun v27=>
 ∀ w1,Ext w w1 → (callV Tryz.prog (.func (.func 47) #[] #[]) [v1] w1 fun v29 w2=>
 Ext w1 w2 ∧ ∀ w3,Ext w2 w3 → xBs 45 (Value.cells (.agg #[(.int .i64 0),(.int .i64 0),(.int .i64 0),(.slice none 0 0)])) 4 0 [] w3 fun v30 w4=>
 Ext w3 w4 ∧ ∀ w5,Ext w4 w5 → xLenS v1 fun v32=>
 xLenS v1 fun v35=>
 ∀ w6,Ext w5 w6 → (xMk 2 (Value.cells (.int .i64 0)) 1 8 v32 v32 w6 fun v33 w7=>
 Ext w6 w7 ∧ ∀ w8,Ext w7 w8 → xMk 2 (Value.cells (.int .i64 0)) 1 8 v35 v35 w8 fun v36 w9=>
 Ext w8 w9 ∧ ∀ w10,Ext w9 w10 → lp (fun K11 xs11 w12=>
 ∀ _:Nat → Value,xLenS v1 fun v39=>
 xLt .i64 (gx xs11 1) v39 fun v40=>
 cnd v40 (xIa 4 v1 (gx xs11 1) fun v45=>
 xLdA w12 4 v45 fun v46=>
 xNew (Value.cells (.agg #[(.int .i64 0),(.int .i64 0),(.int .i64 0),(.slice none 0 0)])) 45 w12 fun v12 w13=>
 xStA Tryz.prog w13 4 v12 v46 fun w14=>
 xFa 3 v12 fun v47=>
 xLd w14 v47 fun v48=>
 xIa 1 v29 (gx xs11 1) fun v105=>
 xLd w14 v105 fun v106=>
 xLenS v106 fun v107=>
 xEq .i64 v107 (.int .i64 0) fun v108=>
 jn (fun J15=>
 cnd v108 (xLenS (gx xs11 0) fun v110=>
 xLdA w14 4 v12 fun v112=>
 callV Tryz.prog (.func (.func 67) #[] #[]) [v112,v33] w14 fun v114 w17=>
 xBs 45 (Value.cells (.agg #[(.int .i64 0),(.int .i64 0),(.int .i64 0),(.slice none 0 0)])) 4 1 [(0,v114)] w17 fun v115 w18=>
 xOp Tryz.prog (Builtin.append_ #[25,25] 25 #[(gx xs11 0),v115]) w18 fun v116 w19=>
 xIa 1 v33 (gx xs11 1) fun v120=>
 xSt w19 v120 v110 fun w20=>
 callV Tryz.prog (.func (.func 68) #[] #[]) [v116,v110,v27,v48] w20 fun v126 w21=>
 xEx v126 0 fun v127=>
 xEx v126 1 fun v128=>
 J15 [v127,v128] w21) (jn (fun J22=>
 xFa 0 v12 fun v130=>
 xLd w14 v130 fun v131=>
 xEq .i64 v131 (.int .i64 2) fun v132=>
 cnd v132 (xFa 1 v12 fun v134=>
 xLd w14 v134 fun v135=>
 xEq .i64 v135 v23 fun v137=>
 J22 [v137] w14) (J22 [(.bool false)] w14)) (fun xs22 w23=>
 ∀ _:Nat → Value,jn (fun J24=>
 cnd (gx xs22 0) (callV Tryz.prog (.func (.func 69) #[] #[]) [(gx xs11 0),v27] w23 fun v142 w26=>
 xEx v142 0 fun v143=>
 xEx v142 1 fun v144=>
 J24 [v143,v144] w26) (xFa 0 v12 fun v146=>
 xLd w23 v146 fun v147=>
 xEq .i64 v147 (.int .i64 2) fun v148=>
 jn (fun J27=>
 cnd v148 (xLenS (gx xs11 0) fun v150=>
 xLdA w23 4 v12 fun v152=>
 callV Tryz.prog (.func (.func 67) #[] #[]) [v152,v33] w23 fun v154 w29=>
 xBs 45 (Value.cells (.agg #[(.int .i64 0),(.int .i64 0),(.int .i64 0),(.slice none 0 0)])) 4 1 [(0,v154)] w29 fun v155 w30=>
 xOp Tryz.prog (Builtin.append_ #[25,25] 25 #[(gx xs11 0),v155]) w30 fun v156 w31=>
 callV Tryz.prog (.func (.func 68) #[] #[]) [v156,v150,v27,v48] w31 fun v162 w32=>
 xEx v162 0 fun v163=>
 xEx v162 1 fun v164=>
 J27 [v163,v164] w32) (xFa 2 v12 fun v50=>
 xLd w23 v50 fun v51=>
 xIa 4 v1 v51 fun v52=>
 xFa 3 v52 fun v53=>
 xLd w23 v53 fun v54=>
 callV Tryz.prog (.func (.func 43) #[] #[]) [v27,v54] w23 fun v57 w33=>
 callV Tryz.prog (.func (.func 43) #[] #[]) [v27,v48] w33 fun v60 w34=>
 callV Tryz.prog (.func (.func 43) #[] #[]) [v54,v48] w34 fun v64 w35=>
 callV Tryz.prog (.func (.func 43) #[] #[]) [v27,v64] w35 fun v65 w36=>
 callV Tryz.prog (.func (.func 43) #[] #[]) [v57,v60] w36 fun v71 w37=>
 callV Tryz.prog (.func (.func 43) #[] #[]) [v65,v71] w37 fun v72 w38=>
 callV Tryz.prog (.func (.func 45) #[] #[]) [(gx xs11 0),(.int .i64 1),(.int .i64 1),(.int .i64 0),v72] w38 fun v73 w39=>
 xEx v73 0 fun v74=>
 xEx v73 1 fun v75=>
 xFa 1 v12 fun v80=>
 xLd w39 v80 fun v81=>
 xIa 1 v36 v81 fun v82=>
 xLd w39 v82 fun v83=>
 ∀ w40,Ext w39 w40 → callV Tryz.prog (.func (.func 43) #[] #[]) [v57,v60] w40 fun v86 w41=>
 Ext w40 w41 ∧ ∀ w42,Ext w41 w42 → callV Tryz.prog (.func (.func 45) #[] #[]) [v74,(.int .i64 3),v75,v83,v86] w42 fun v87 w43=>
 xEx v87 0 fun v88=>
 xEx v87 1 fun v89=>
 ∀ w44,Ext w43 w44 → xFa 2 v12 fun v94=>
 xLd w44 v94 fun v95=>
 xIa 1 v36 v95 fun v96=>
 xLd w44 v96 fun v97=>
 callV Tryz.prog (.func (.func 45) #[] #[]) [v88,(.int .i64 3),v89,v97,v60] w44 fun v99 w45=>
 xEx v99 0 fun v100=>
 xEx v99 1 fun v101=>
 J27 [v100,v101] w45)) (fun xs27 w28=>
 ∀ _:Nat → Value,J24 [(gx xs27 0),(gx xs27 1)] w28))) (fun xs24 w25=>
 ∀ _:Nat → Value,J15 [(gx xs24 0),(gx xs24 1)] w25)))) (fun xs15 w16=>
 ∀ _:Nat → Value,xIa 1 v36 (gx xs11 1) fun v168=>
 xSt w16 v168 (gx xs15 1) fun w46=>
 xAdd .i64 (gx xs11 1) (.int .i64 1) fun v42=>
 K11 [(gx xs15 0),v42] w46)) (R (gx xs11 0) w12)) [v30,(.int .i64 0)] w10) ∧ (xMk 2 (Value.cells (.int .i64 0)) 1 8 v35 v35 w6 fun v36 w47=>
 Ext w6 w47 ∧ ∀ w48,Ext w47 w48 → xMk 2 (Value.cells (.int .i64 0)) 1 8 v32 v32 w48 fun v33 w49=>
 Ext w48 w49 ∧ ∀ w50,Ext w49 w50 → lp (fun K51 xs51 w52=>
 ∀ _:Nat → Value,xLenS v1 fun v39=>
 xLt .i64 (gx xs51 1) v39 fun v40=>
 cnd v40 (xIa 4 v1 (gx xs51 1) fun v45=>
 xLdA w52 4 v45 fun v46=>
 xNew (Value.cells (.agg #[(.int .i64 0),(.int .i64 0),(.int .i64 0),(.slice none 0 0)])) 45 w52 fun v12 w53=>
 xStA Tryz.prog w53 4 v12 v46 fun w54=>
 xFa 3 v12 fun v47=>
 xLd w54 v47 fun v48=>
 xIa 1 v29 (gx xs51 1) fun v105=>
 xLd w54 v105 fun v106=>
 xLenS v106 fun v107=>
 xEq .i64 v107 (.int .i64 0) fun v108=>
 jn (fun J55=>
 cnd v108 (xLenS (gx xs51 0) fun v110=>
 xLdA w54 4 v12 fun v112=>
 callV Tryz.prog (.func (.func 67) #[] #[]) [v112,v33] w54 fun v114 w57=>
 xBs 45 (Value.cells (.agg #[(.int .i64 0),(.int .i64 0),(.int .i64 0),(.slice none 0 0)])) 4 1 [(0,v114)] w57 fun v115 w58=>
 xOp Tryz.prog (Builtin.append_ #[25,25] 25 #[(gx xs51 0),v115]) w58 fun v116 w59=>
 xIa 1 v33 (gx xs51 1) fun v120=>
 xSt w59 v120 v110 fun w60=>
 callV Tryz.prog (.func (.func 68) #[] #[]) [v116,v110,v27,v48] w60 fun v126 w61=>
 xEx v126 0 fun v127=>
 xEx v126 1 fun v128=>
 J55 [v127,v128] w61) (jn (fun J62=>
 xFa 0 v12 fun v130=>
 xLd w54 v130 fun v131=>
 xEq .i64 v131 (.int .i64 2) fun v132=>
 cnd v132 (xFa 1 v12 fun v134=>
 xLd w54 v134 fun v135=>
 xEq .i64 v135 v23 fun v137=>
 J62 [v137] w54) (J62 [(.bool false)] w54)) (fun xs62 w63=>
 ∀ _:Nat → Value,jn (fun J64=>
 cnd (gx xs62 0) (callV Tryz.prog (.func (.func 69) #[] #[]) [(gx xs51 0),v27] w63 fun v142 w66=>
 xEx v142 0 fun v143=>
 xEx v142 1 fun v144=>
 J64 [v143,v144] w66) (xFa 0 v12 fun v146=>
 xLd w63 v146 fun v147=>
 xEq .i64 v147 (.int .i64 2) fun v148=>
 jn (fun J67=>
 cnd v148 (xLenS (gx xs51 0) fun v150=>
 xLdA w63 4 v12 fun v152=>
 callV Tryz.prog (.func (.func 67) #[] #[]) [v152,v33] w63 fun v154 w69=>
 xBs 45 (Value.cells (.agg #[(.int .i64 0),(.int .i64 0),(.int .i64 0),(.slice none 0 0)])) 4 1 [(0,v154)] w69 fun v155 w70=>
 xOp Tryz.prog (Builtin.append_ #[25,25] 25 #[(gx xs51 0),v155]) w70 fun v156 w71=>
 callV Tryz.prog (.func (.func 68) #[] #[]) [v156,v150,v27,v48] w71 fun v162 w72=>
 xEx v162 0 fun v163=>
 xEx v162 1 fun v164=>
 J67 [v163,v164] w72) (xFa 2 v12 fun v50=>
 xLd w63 v50 fun v51=>
 xIa 4 v1 v51 fun v52=>
 xFa 3 v52 fun v53=>
 xLd w63 v53 fun v54=>
 callV Tryz.prog (.func (.func 43) #[] #[]) [v27,v54] w63 fun v57 w73=>
 callV Tryz.prog (.func (.func 43) #[] #[]) [v27,v48] w73 fun v60 w74=>
 callV Tryz.prog (.func (.func 43) #[] #[]) [v54,v48] w74 fun v64 w75=>
 callV Tryz.prog (.func (.func 43) #[] #[]) [v27,v64] w75 fun v65 w76=>
 callV Tryz.prog (.func (.func 43) #[] #[]) [v57,v60] w76 fun v71 w77=>
 callV Tryz.prog (.func (.func 43) #[] #[]) [v65,v71] w77 fun v72 w78=>
 callV Tryz.prog (.func (.func 45) #[] #[]) [(gx xs51 0),(.int .i64 1),(.int .i64 1),(.int .i64 0),v72] w78 fun v73 w79=>
 xEx v73 0 fun v74=>
 xEx v73 1 fun v75=>
 xFa 1 v12 fun v80=>
 xLd w79 v80 fun v81=>
 xIa 1 v36 v81 fun v82=>
 xLd w79 v82 fun v83=>
 ∀ w80,Ext w79 w80 → callV Tryz.prog (.func (.func 43) #[] #[]) [v57,v60] w80 fun v86 w81=>
 Ext w80 w81 ∧ ∀ w82,Ext w81 w82 → callV Tryz.prog (.func (.func 45) #[] #[]) [v74,(.int .i64 3),v75,v83,v86] w82 fun v87 w83=>
 xEx v87 0 fun v88=>
 xEx v87 1 fun v89=>
 ∀ w84,Ext w83 w84 → xFa 2 v12 fun v94=>
 xLd w84 v94 fun v95=>
 xIa 1 v36 v95 fun v96=>
 xLd w84 v96 fun v97=>
 callV Tryz.prog (.func (.func 45) #[] #[]) [v88,(.int .i64 3),v89,v97,v60] w84 fun v99 w85=>
 xEx v99 0 fun v100=>
 xEx v99 1 fun v101=>
 J67 [v100,v101] w85)) (fun xs67 w68=>
 ∀ _:Nat → Value,J64 [(gx xs67 0),(gx xs67 1)] w68))) (fun xs64 w65=>
 ∀ _:Nat → Value,J55 [(gx xs64 0),(gx xs64 1)] w65)))) (fun xs55 w56=>
 ∀ _:Nat → Value,xIa 1 v36 (gx xs51 1) fun v168=>
 xSt w56 v168 (gx xs55 1) fun w86=>
 xAdd .i64 (gx xs51 1) (.int .i64 1) fun v42=>
 K51 [(gx xs55 0),v42] w86)) (R (gx xs51 0) w52)) [v30,(.int .i64 0)] w50)) ∧ (xBs 45 (Value.cells (.agg #[(.int .i64 0),(.int .i64 0),(.int .i64 0),(.slice none 0 0)])) 4 0 [] w1 fun v30 w87=>
 Ext w1 w87 ∧ ∀ w88,Ext w87 w88 → callV Tryz.prog (.func (.func 47) #[] #[]) [v1] w88 fun v29 w89=>
 Ext w88 w89 ∧ ∀ w90,Ext w89 w90 → xLenS v1 fun v32=>
 xLenS v1 fun v35=>
 ∀ w91,Ext w90 w91 → (xMk 2 (Value.cells (.int .i64 0)) 1 8 v32 v32 w91 fun v33 w92=>
 Ext w91 w92 ∧ ∀ w93,Ext w92 w93 → xMk 2 (Value.cells (.int .i64 0)) 1 8 v35 v35 w93 fun v36 w94=>
 Ext w93 w94 ∧ ∀ w95,Ext w94 w95 → lp (fun K96 xs96 w97=>
 ∀ _:Nat → Value,xLenS v1 fun v39=>
 xLt .i64 (gx xs96 1) v39 fun v40=>
 cnd v40 (xIa 4 v1 (gx xs96 1) fun v45=>
 xLdA w97 4 v45 fun v46=>
 xNew (Value.cells (.agg #[(.int .i64 0),(.int .i64 0),(.int .i64 0),(.slice none 0 0)])) 45 w97 fun v12 w98=>
 xStA Tryz.prog w98 4 v12 v46 fun w99=>
 xFa 3 v12 fun v47=>
 xLd w99 v47 fun v48=>
 xIa 1 v29 (gx xs96 1) fun v105=>
 xLd w99 v105 fun v106=>
 xLenS v106 fun v107=>
 xEq .i64 v107 (.int .i64 0) fun v108=>
 jn (fun J100=>
 cnd v108 (xLenS (gx xs96 0) fun v110=>
 xLdA w99 4 v12 fun v112=>
 callV Tryz.prog (.func (.func 67) #[] #[]) [v112,v33] w99 fun v114 w102=>
 xBs 45 (Value.cells (.agg #[(.int .i64 0),(.int .i64 0),(.int .i64 0),(.slice none 0 0)])) 4 1 [(0,v114)] w102 fun v115 w103=>
 xOp Tryz.prog (Builtin.append_ #[25,25] 25 #[(gx xs96 0),v115]) w103 fun v116 w104=>
 xIa 1 v33 (gx xs96 1) fun v120=>
 xSt w104 v120 v110 fun w105=>
 callV Tryz.prog (.func (.func 68) #[] #[]) [v116,v110,v27,v48] w105 fun v126 w106=>
 xEx v126 0 fun v127=>
 xEx v126 1 fun v128=>
 J100 [v127,v128] w106) (jn (fun J107=>
 xFa 0 v12 fun v130=>
 xLd w99 v130 fun v131=>
 xEq .i64 v131 (.int .i64 2) fun v132=>
 cnd v132 (xFa 1 v12 fun v134=>
 xLd w99 v134 fun v135=>
 xEq .i64 v135 v23 fun v137=>
 J107 [v137] w99) (J107 [(.bool false)] w99)) (fun xs107 w108=>
 ∀ _:Nat → Value,jn (fun J109=>
 cnd (gx xs107 0) (callV Tryz.prog (.func (.func 69) #[] #[]) [(gx xs96 0),v27] w108 fun v142 w111=>
 xEx v142 0 fun v143=>
 xEx v142 1 fun v144=>
 J109 [v143,v144] w111) (xFa 0 v12 fun v146=>
 xLd w108 v146 fun v147=>
 xEq .i64 v147 (.int .i64 2) fun v148=>
 jn (fun J112=>
 cnd v148 (xLenS (gx xs96 0) fun v150=>
 xLdA w108 4 v12 fun v152=>
 callV Tryz.prog (.func (.func 67) #[] #[]) [v152,v33] w108 fun v154 w114=>
 xBs 45 (Value.cells (.agg #[(.int .i64 0),(.int .i64 0),(.int .i64 0),(.slice none 0 0)])) 4 1 [(0,v154)] w114 fun v155 w115=>
 xOp Tryz.prog (Builtin.append_ #[25,25] 25 #[(gx xs96 0),v155]) w115 fun v156 w116=>
 callV Tryz.prog (.func (.func 68) #[] #[]) [v156,v150,v27,v48] w116 fun v162 w117=>
 xEx v162 0 fun v163=>
 xEx v162 1 fun v164=>
 J112 [v163,v164] w117) (xFa 2 v12 fun v50=>
 xLd w108 v50 fun v51=>
 xIa 4 v1 v51 fun v52=>
 xFa 3 v52 fun v53=>
 xLd w108 v53 fun v54=>
 callV Tryz.prog (.func (.func 43) #[] #[]) [v27,v54] w108 fun v57 w118=>
 callV Tryz.prog (.func (.func 43) #[] #[]) [v27,v48] w118 fun v60 w119=>
 callV Tryz.prog (.func (.func 43) #[] #[]) [v54,v48] w119 fun v64 w120=>
 callV Tryz.prog (.func (.func 43) #[] #[]) [v27,v64] w120 fun v65 w121=>
 callV Tryz.prog (.func (.func 43) #[] #[]) [v57,v60] w121 fun v71 w122=>
 callV Tryz.prog (.func (.func 43) #[] #[]) [v65,v71] w122 fun v72 w123=>
 callV Tryz.prog (.func (.func 45) #[] #[]) [(gx xs96 0),(.int .i64 1),(.int .i64 1),(.int .i64 0),v72] w123 fun v73 w124=>
 xEx v73 0 fun v74=>
 xEx v73 1 fun v75=>
 xFa 1 v12 fun v80=>
 xLd w124 v80 fun v81=>
 xIa 1 v36 v81 fun v82=>
 xLd w124 v82 fun v83=>
 ∀ w125,Ext w124 w125 → callV Tryz.prog (.func (.func 43) #[] #[]) [v57,v60] w125 fun v86 w126=>
 Ext w125 w126 ∧ ∀ w127,Ext w126 w127 → callV Tryz.prog (.func (.func 45) #[] #[]) [v74,(.int .i64 3),v75,v83,v86] w127 fun v87 w128=>
 xEx v87 0 fun v88=>
 xEx v87 1 fun v89=>
 ∀ w129,Ext w128 w129 → xFa 2 v12 fun v94=>
 xLd w129 v94 fun v95=>
 xIa 1 v36 v95 fun v96=>
 xLd w129 v96 fun v97=>
 callV Tryz.prog (.func (.func 45) #[] #[]) [v88,(.int .i64 3),v89,v97,v60] w129 fun v99 w130=>
 xEx v99 0 fun v100=>
 xEx v99 1 fun v101=>
 J112 [v100,v101] w130)) (fun xs112 w113=>
 ∀ _:Nat → Value,J109 [(gx xs112 0),(gx xs112 1)] w113))) (fun xs109 w110=>
 ∀ _:Nat → Value,J100 [(gx xs109 0),(gx xs109 1)] w110)))) (fun xs100 w101=>
 ∀ _:Nat → Value,xIa 1 v36 (gx xs96 1) fun v168=>
 xSt w101 v168 (gx xs100 1) fun w131=>
 xAdd .i64 (gx xs96 1) (.int .i64 1) fun v42=>
 K96 [(gx xs100 0),v42] w131)) (R (gx xs96 0) w97)) [v30,(.int .i64 0)] w95) ∧ (xMk 2 (Value.cells (.int .i64 0)) 1 8 v35 v35 w91 fun v36 w132=>
 Ext w91 w132 ∧ ∀ w133,Ext w132 w133 → xMk 2 (Value.cells (.int .i64 0)) 1 8 v32 v32 w133 fun v33 w134=>
 Ext w133 w134 ∧ ∀ w135,Ext w134 w135 → lp (fun K136 xs136 w137=>
 ∀ _:Nat → Value,xLenS v1 fun v39=>
 xLt .i64 (gx xs136 1) v39 fun v40=>
 cnd v40 (xIa 4 v1 (gx xs136 1) fun v45=>
 xLdA w137 4 v45 fun v46=>
 xNew (Value.cells (.agg #[(.int .i64 0),(.int .i64 0),(.int .i64 0),(.slice none 0 0)])) 45 w137 fun v12 w138=>
 xStA Tryz.prog w138 4 v12 v46 fun w139=>
 xFa 3 v12 fun v47=>
 xLd w139 v47 fun v48=>
 xIa 1 v29 (gx xs136 1) fun v105=>
 xLd w139 v105 fun v106=>
 xLenS v106 fun v107=>
 xEq .i64 v107 (.int .i64 0) fun v108=>
 jn (fun J140=>
 cnd v108 (xLenS (gx xs136 0) fun v110=>
 xLdA w139 4 v12 fun v112=>
 callV Tryz.prog (.func (.func 67) #[] #[]) [v112,v33] w139 fun v114 w142=>
 xBs 45 (Value.cells (.agg #[(.int .i64 0),(.int .i64 0),(.int .i64 0),(.slice none 0 0)])) 4 1 [(0,v114)] w142 fun v115 w143=>
 xOp Tryz.prog (Builtin.append_ #[25,25] 25 #[(gx xs136 0),v115]) w143 fun v116 w144=>
 xIa 1 v33 (gx xs136 1) fun v120=>
 xSt w144 v120 v110 fun w145=>
 callV Tryz.prog (.func (.func 68) #[] #[]) [v116,v110,v27,v48] w145 fun v126 w146=>
 xEx v126 0 fun v127=>
 xEx v126 1 fun v128=>
 J140 [v127,v128] w146) (jn (fun J147=>
 xFa 0 v12 fun v130=>
 xLd w139 v130 fun v131=>
 xEq .i64 v131 (.int .i64 2) fun v132=>
 cnd v132 (xFa 1 v12 fun v134=>
 xLd w139 v134 fun v135=>
 xEq .i64 v135 v23 fun v137=>
 J147 [v137] w139) (J147 [(.bool false)] w139)) (fun xs147 w148=>
 ∀ _:Nat → Value,jn (fun J149=>
 cnd (gx xs147 0) (callV Tryz.prog (.func (.func 69) #[] #[]) [(gx xs136 0),v27] w148 fun v142 w151=>
 xEx v142 0 fun v143=>
 xEx v142 1 fun v144=>
 J149 [v143,v144] w151) (xFa 0 v12 fun v146=>
 xLd w148 v146 fun v147=>
 xEq .i64 v147 (.int .i64 2) fun v148=>
 jn (fun J152=>
 cnd v148 (xLenS (gx xs136 0) fun v150=>
 xLdA w148 4 v12 fun v152=>
 callV Tryz.prog (.func (.func 67) #[] #[]) [v152,v33] w148 fun v154 w154=>
 xBs 45 (Value.cells (.agg #[(.int .i64 0),(.int .i64 0),(.int .i64 0),(.slice none 0 0)])) 4 1 [(0,v154)] w154 fun v155 w155=>
 xOp Tryz.prog (Builtin.append_ #[25,25] 25 #[(gx xs136 0),v155]) w155 fun v156 w156=>
 callV Tryz.prog (.func (.func 68) #[] #[]) [v156,v150,v27,v48] w156 fun v162 w157=>
 xEx v162 0 fun v163=>
 xEx v162 1 fun v164=>
 J152 [v163,v164] w157) (xFa 2 v12 fun v50=>
 xLd w148 v50 fun v51=>
 xIa 4 v1 v51 fun v52=>
 xFa 3 v52 fun v53=>
 xLd w148 v53 fun v54=>
 callV Tryz.prog (.func (.func 43) #[] #[]) [v27,v54] w148 fun v57 w158=>
 callV Tryz.prog (.func (.func 43) #[] #[]) [v27,v48] w158 fun v60 w159=>
 callV Tryz.prog (.func (.func 43) #[] #[]) [v54,v48] w159 fun v64 w160=>
 callV Tryz.prog (.func (.func 43) #[] #[]) [v27,v64] w160 fun v65 w161=>
 callV Tryz.prog (.func (.func 43) #[] #[]) [v57,v60] w161 fun v71 w162=>
 callV Tryz.prog (.func (.func 43) #[] #[]) [v65,v71] w162 fun v72 w163=>
 callV Tryz.prog (.func (.func 45) #[] #[]) [(gx xs136 0),(.int .i64 1),(.int .i64 1),(.int .i64 0),v72] w163 fun v73 w164=>
 xEx v73 0 fun v74=>
 xEx v73 1 fun v75=>
 xFa 1 v12 fun v80=>
 xLd w164 v80 fun v81=>
 xIa 1 v36 v81 fun v82=>
 xLd w164 v82 fun v83=>
 ∀ w165,Ext w164 w165 → callV Tryz.prog (.func (.func 43) #[] #[]) [v57,v60] w165 fun v86 w166=>
 Ext w165 w166 ∧ ∀ w167,Ext w166 w167 → callV Tryz.prog (.func (.func 45) #[] #[]) [v74,(.int .i64 3),v75,v83,v86] w167 fun v87 w168=>
 xEx v87 0 fun v88=>
 xEx v87 1 fun v89=>
 ∀ w169,Ext w168 w169 → xFa 2 v12 fun v94=>
 xLd w169 v94 fun v95=>
 xIa 1 v36 v95 fun v96=>
 xLd w169 v96 fun v97=>
 callV Tryz.prog (.func (.func 45) #[] #[]) [v88,(.int .i64 3),v89,v97,v60] w169 fun v99 w170=>
 xEx v99 0 fun v100=>
 xEx v99 1 fun v101=>
 J152 [v100,v101] w170)) (fun xs152 w153=>
 ∀ _:Nat → Value,J149 [(gx xs152 0),(gx xs152 1)] w153))) (fun xs149 w150=>
 ∀ _:Nat → Value,J140 [(gx xs149 0),(gx xs149 1)] w150)))) (fun xs140 w141=>
 ∀ _:Nat → Value,xIa 1 v36 (gx xs136 1) fun v168=>
 xSt w141 v168 (gx xs140 1) fun w171=>
 xAdd .i64 (gx xs136 1) (.int .i64 1) fun v42=>
 K136 [(gx xs140 0),v42] w171)) (R (gx xs136 0) w137)) [v30,(.int .i64 0)] w135))
theorem HP {v0 v1:Value} {w:World} {R:Value → World → Prop} (h:sL v0 v1 w R):Cal Tryz.prog s8 #[v0,v1] w R:=cD (h:=(.node none .leaf (.node none .leaf (.node none .leaf (.node none .leaf (.node none (.node none .leaf (.node (some [8,11]) (.node none .leaf (.node none (.node none .leaf (.node none .leaf (.node none (.node none .leaf (.node (some [8,13]) .leaf (.node none (.reg [] (some [129])) (.node (some [8,13]) .leaf (.node none .leaf (.node (some [8,13]) .leaf .leaf)))))) .leaf))) .leaf)) .leaf)) .leaf)))))) Tryz.func25 h
abbrev vZ:FuncId:=26
def vE (v0:Value) (w:World) (R:Value → World → Prop):Prop:=
 jn (fun J1=>
 xLenS v0 fun v4=>
 xLe .i64 (.int .i64 1) v4 fun v5=>
 cnd v5 (xLenS v0 fun v8=>
 xLe .i64 v8 (.int .i64 200) fun v9=>
 J1 [v9] w) (J1 [(.bool false)] w)) (fun xs1 w2=>
 ∀ _:Nat → Value,R (gx xs1 0) w2)
theorem JP {v0:Value} {w:World} {R:Value → World → Prop} (h:vE v0 w R):Cal Tryz.prog vZ #[v0] w R:=cD (h:=(.node none .leaf (.node none (.reg [] (some [2])) .leaf))) Tryz.func26 h
abbrev k9:FuncId:=27
def kO (v0:Value) (w:World) (R:Value → World → Prop):Prop:=
 xNil v0 fun v6=>
 xFa 2 v6 fun v7=>
 xLd w v7 fun v8=>
 xLenS v8 fun v9=>
 lp (fun K1 xs1 w2=>
 ∀ _:Nat → Value,xLt .i64 (gx xs1 0) v9 fun v11=>
 cnd v11 (xIa 4 v8 (gx xs1 0) fun v13=>
 xLdA w2 4 v13 fun v14=>
 xNew (Value.cells (.agg #[(.int .i64 0),(.int .i64 0),(.int .i64 0),(.slice none 0 0)])) 45 w2 fun v4 w3=>
 xStA Tryz.prog w3 4 v4 v14 fun w4=>
 callV Tryz.prog (.func (.func 70) #[] #[]) [v0,(gx xs1 0)] w4 fun v17 w5=>
 xNot v17 fun v18=>
 cnd v18 (R (gx xs1 0) w5) (xLdA w5 4 v4 fun v21=>
 callV Tryz.prog (.func (.func 71) #[] #[]) [v0,v21] w5 fun _ w6=>
 xAdd .i64 (gx xs1 0) (.int .i64 1) fun v23=>
 K1 [v23] w6)) (R (.int .i64 (-1)) w2)) [(.int .i64 0)] w
theorem xB {v0:Value} {w:World} {R:Value → World → Prop} (h:kO v0 w R):Cal Tryz.prog k9 #[v0] w R:=cD (h:=(.node none .leaf (.node none (.node none .leaf (.node (some [10]) .leaf .leaf)) .leaf))) Tryz.func27 h
abbrev G9:FuncId:=28
def GM (v0 v1 v2:Value) (w:World) (R:Value → World → Prop):Prop:=
 callV Tryz.prog (.func (.func 19) #[] #[]) [v0,v1] w fun v11 w1=>
 xNe .i64 v11 (.int .i64 0) fun v13=>
 cnd v13 (R (.tuple #[(.slice none 0 0),v11]) w1) (callV Tryz.prog (.func (.func 20) #[] #[]) [v0,v1,v2] w1 fun v18 w2=>
 xEx v18 0 fun v19=>
 xEx v18 1 fun v20=>
 R (.tuple #[v19,v20]) w2)
theorem SG {v0 v1 v2:Value} {w:World} {R:Value → World → Prop} (h:GM v0 v1 v2 w R):Cal Tryz.prog G9 #[v0,v1,v2] w R:=cD (h:=.leaf) Tryz.func28 h
abbrev IY:FuncId:=29
def IN (v0:Value) (w:World) (R:Value → World → Prop):Prop:=
 callV Tryz.prog (.func (.func 72) #[] #[]) [v0] w fun v4 w1=>
 R v4 w1
theorem TI {v0:Value} {w:World} {R:Value → World → Prop} (h:IN v0 w R):Cal Tryz.prog IY #[v0] w R:=cD (h:=.leaf) Tryz.func29 h
abbrev jY:FuncId:=30
def jP (v0:Value) (w:World) (R:Value → World → Prop):Prop:=
 xNil v0 fun v4=>
 xFa 2 v4 fun v5=>
 xLd w v5 fun v6=>
 xNil v0 fun v8=>
 xFa 2 v8 fun v9=>
 xLd w v9 fun v10=>
 xLenS v10 fun v11=>
 xSub .i64 v11 (.int .i64 1) fun v12=>
 xIa 4 v6 v12 fun v13=>
 xFa 3 v13 fun v14=>
 xLd w v14 fun v15=>
 ∀ w1,Ext w w1 → R v15 w1
theorem uC {v0:Value} {w:World} {R:Value → World → Prop} (h:jP v0 w R):Cal Tryz.prog jY #[v0] w R:=cD (h:=.leaf) Tryz.func30 h
abbrev GS:FuncId:=31
def GN (v0:Value) (w:World) (R:Value → World → Prop):Prop:=
 xBs 72 (Value.cells (.agg #[(.int .i64 0),(.int .i64 0)])) 2 0 [] w fun v3 w1=>
 xOp Tryz.prog (Builtin.append_ #[33,33] 33 #[v3,v0]) w1 fun v5 w2=>
 R v5 w2
theorem SC {v0:Value} {w:World} {R:Value → World → Prop} (h:GN v0 w R):Cal Tryz.prog GS #[v0] w R:=cD (h:=.leaf) Tryz.func31 h
abbrev IK:FuncId:=32
def JM (v0:Value) (w:World) (R:Value → World → Prop):Prop:=
 jn (fun J1=>
 xLenS v0 fun v4=>
 xLe .i64 v4 (.int .i64 40) fun v5=>
 cnd v5 (callV Tryz.prog (.func (.func 73) #[] #[]) [v0] w fun v8 w3=>
 J1 [v8] w3) (J1 [(.bool false)] w)) (fun xs1 w2=>
 ∀ _:Nat → Value,R (gx xs1 0) w2)
theorem SS {v0:Value} {w:World} {R:Value → World → Prop} (h:JM v0 w R):Cal Tryz.prog IK #[v0] w R:=cD (h:=(.node none .leaf (.node none (.reg [] (some [2])) .leaf))) Tryz.func32 h
abbrev JG:FuncId:=33
def IR (v0 v1 v2:Value) (w:World) (R:Value → World → Prop):Prop:=
 jn (fun J1=>
 xLe .i64 v1 v0 fun v9=>
 cnd v9 (xLe .i64 v0 v2 fun v13=>
 J1 [v13] w) (J1 [(.bool false)] w)) (fun xs1 w2=>
 ∀ _:Nat → Value,R (gx xs1 0) w2)
theorem TF {v0 v1 v2:Value} {w:World} {R:Value → World → Prop} (h:IR v0 v1 v2 w R):Cal Tryz.prog JG #[v0,v1,v2] w R:=cD (h:=(.node none .leaf (.node none (.reg [] (some [6])) .leaf))) Tryz.func33 h
abbrev EC:FuncId:=34
def EH (v0:Value) (w:World) (R:Value → World → Prop):Prop:=
 xLenS v0 fun v5=>
 xLt .i64 (.int .i64 40) v5 fun v6=>
 cnd v6 (R (.tuple #[(.slice none 0 0),(.int .i64 3)]) w) (R (.tuple #[v0,(.int .i64 0)]) w)
theorem PR {v0:Value} {w:World} {R:Value → World → Prop} (h:EH v0 w R):Cal Tryz.prog EC #[v0] w R:=cD (h:=.leaf) Tryz.func34 h
abbrev E6:FuncId:=35
def CV (v0 v1 v2:Value) (w:World) (R:Value → World → Prop):Prop:=
 aR #[(.int .i64 0),(.int .i64 0)] #[(0,1),(1,1)] [(0,v0)] fun v8=>
 xBs 72 (Value.cells (.agg #[(.int .i64 0),(.int .i64 0)])) 2 1 [(0,v8)] w fun v9 w1=>
 xOp Tryz.prog (Builtin.append_ #[33,33] 33 #[v9,v1]) w1 fun v11 w2=>
 xOp Tryz.prog (Builtin.append_ #[33,33] 33 #[v11,v2]) w2 fun v13 w3=>
 R v13 w3
theorem P3 {v0 v1 v2:Value} {w:World} {R:Value → World → Prop} (h:CV v0 v1 v2 w R):Cal Tryz.prog E6 #[v0,v1,v2] w R:=cD (h:=.leaf) Tryz.func35 h
abbrev sT:FuncId:=36
def sS (v0:Value) (w:World) (R:Value → World → Prop):Prop:=
 xBs 33 (Value.cells (.slice none 0 0)) 1 1 [(0,v0)] w fun v6 w1=>
 callV Tryz.prog (.func (.func 74) #[] #[]) [v6] w1 fun v7 w2=>
 xNe .i64 v7 (.int .i64 0) fun v9=>
 cnd v9 (R (.tuple #[(.bool false),v7]) w2) (callV Tryz.prog (.func (.func 76) #[] #[]) [v0] w2 fun v12 w3=>
 callV Tryz.prog (.func (.func 75) #[] #[]) [(.slice none 0 0),v12] w3 fun v13 w4=>
 R (.tuple #[v13,(.int .i64 0)]) w4)
theorem HT {v0:Value} {w:World} {R:Value → World → Prop} (h:sS v0 w R):Cal Tryz.prog sT #[v0] w R:=cD (h:=.leaf) Tryz.func36 h
abbrev vN:FuncId:=37
def wM (v0:Value) (w:World) (R:Value → World → Prop):Prop:=
 xBs 33 (Value.cells (.slice none 0 0)) 1 1 [(0,v0)] w fun v6 w1=>
 callV Tryz.prog (.func (.func 77) #[] #[]) [v6] w1 fun v7 w2=>
 xNe .i64 v7 (.int .i64 0) fun v9=>
 cnd v9 (R (.tuple #[(.bool false),v7]) w2) (callV Tryz.prog (.func (.func 78) #[] #[]) [v0] w2 fun v12 w3=>
 xEq .u64 v12 (.int .u64 18446744073709551615) fun v13=>
 R (.tuple #[v13,(.int .i64 0)]) w3)
theorem ID {v0:Value} {w:World} {R:Value → World → Prop} (h:wM v0 w R):Cal Tryz.prog vN #[v0] w R:=cD (h:=.leaf) Tryz.func37 h
abbrev qO:FuncId:=38
def qF (v0 v1:Value) (w:World) (R:Value → World → Prop):Prop:=
 xNew (Value.cells v1) 79 w fun v3 w1=>
 xLdA w1 2 v3 fun v8=>
 xBs 79 (Value.cells (.agg #[(.slice none 0 0),(.slice none 0 0)])) 2 1 [(0,v8)] w1 fun v9 w2=>
 callV Tryz.prog (.func (.func 79) #[] #[]) [v0,v9] w2 fun v10 w3=>
 xNe .i64 v10 (.int .i64 0) fun v12=>
 cnd v12 (R (.tuple #[(.bool false),v10]) w3) (xLdA w3 2 v3 fun v15=>
 callV Tryz.prog (.func (.func 80) #[] #[]) [v0,v15] w3 fun v16 w4=>
 R (.tuple #[v16,(.int .i64 0)]) w4)
theorem EY {v0 v1:Value} {w:World} {R:Value → World → Prop} (h:qF v0 v1 w R):Cal Tryz.prog qO #[v0,v1] w R:=cD (h:=.leaf) Tryz.func38 h
abbrev LR:FuncId:=39
def MD (v0:Value) (w:World) (R:Value → World → Prop):Prop:=
 callV Tryz.prog (.func (.func 81) #[] #[]) [v0] w fun v7 w1=>
 xEx v7 0 fun v8=>
 xEx v7 1 fun _=>
 R v8 w1
theorem T7 {v0:Value} {w:World} {R:Value → World → Prop} (h:MD v0 w R):Cal Tryz.prog LR #[v0] w R:=cD (h:=.leaf) Tryz.func39 h
abbrev zL:FuncId:=40
def zF (v0:Value) (w:World) (R:Value → World → Prop):Prop:=
 callV Tryz.prog (.func (.func 17) #[] #[]) [v0,(.int .i64 30)] w fun v4 w1=>
 xEq .i64 v4 (.int .i64 0) fun v5=>
 cnd v5 (xBs 9 (Value.cells (.string ⟨#[]⟩)) 1 3 [(0,(.string ⟨#[]⟩)),(1,(.string ⟨#[105,110,116]⟩)),(2,(.string ⟨#[71,114,122]⟩))] w1 fun v6 w2=>
 callV Tryz.prog (.func (.func 17) #[] #[]) [v0,(.int .i64 3)] w2 fun v8 w3=>
 xIa 1 v6 v8 fun v9=>
 xLd w3 v9 fun v10=>
 R v10 w3) (xBs 9 (Value.cells (.string ⟨#[]⟩)) 1 10 [(0,(.string ⟨#[73,110,116]⟩)),(1,(.string ⟨#[67,76]⟩)),(2,(.string ⟨#[75]⟩)),(3,(.string ⟨#[68]⟩)),(4,(.string ⟨#[84]⟩)),(5,(.string ⟨#[75,52]⟩)),(6,(.string ⟨#[83,52]⟩)),(7,(.string ⟨#[83,53]⟩)),(8,(.string ⟨#[75,66]⟩)),(9,(.string ⟨#[71,76]⟩))] w1 fun v11 w4=>
 callV Tryz.prog (.func (.func 17) #[] #[]) [v0,(.int .i64 10)] w4 fun v13 w5=>
 xIa 1 v11 v13 fun v14=>
 xLd w5 v14 fun v15=>
 R v15 w5)
theorem MX {v0:Value} {w:World} {R:Value → World → Prop} (h:zF v0 w R):Cal Tryz.prog zL #[v0] w R:=cD (h:=.leaf) Tryz.func40 h
abbrev n8:FuncId:=41
def yH (v0:Value) (w:World) (R:Value → World → Prop):Prop:=
 xBs 2 (Value.cells (.int .i64 0)) 1 0 [] w fun v7 w1=>
 xStr .eql v0 (.string ⟨#[73,110,116]⟩) fun v10=>
 jn (fun J2=>
 cnd v10 (J2 [(.int .i64 9),v7] w1) (xStr .eql v0 (.string ⟨#[67,76]⟩) fun v12=>
 jn (fun J4=>
 cnd v12 (J4 [(.int .i64 10),v7] w1) (xStr .eql v0 (.string ⟨#[75]⟩) fun v14=>
 jn (fun J6=>
 cnd v14 (J6 [v7] w1) (xStr .eql v0 (.string ⟨#[68]⟩) fun v16=>
 jn (fun J8=>
 cnd v16 (xBs 2 (Value.cells (.int .i64 0)) 1 1 [(0,(.int .i64 17))] w1 fun v17 w10=>
 J8 [v17] w10) (xStr .eql v0 (.string ⟨#[84]⟩) fun v19=>
 jn (fun J11=>
 cnd v19 (xBs 2 (Value.cells (.int .i64 0)) 1 1 [(0,(.int .i64 13))] w1 fun v20 w13=>
 J11 [v20] w13) (xStr .eql v0 (.string ⟨#[75,52]⟩) fun v22=>
 jn (fun J14=>
 cnd v22 (xBs 2 (Value.cells (.int .i64 0)) 1 1 [(0,(.int .i64 14))] w1 fun v23 w16=>
 J14 [v23] w16) (xStr .eql v0 (.string ⟨#[83,52]⟩) fun v25=>
 jn (fun J17=>
 cnd v25 (xBs 2 (Value.cells (.int .i64 0)) 1 2 [(0,(.int .i64 13)),(1,(.int .i64 14))] w1 fun v26 w19=>
 J17 [v26] w19) (xStr .eql v0 (.string ⟨#[83,53]⟩) fun v28=>
 jn (fun J20=>
 cnd v28 (xBs 2 (Value.cells (.int .i64 0)) 1 2 [(0,(.int .i64 13)),(1,(.int .i64 15))] w1 fun v29 w22=>
 J20 [v29] w22) (xStr .eql v0 (.string ⟨#[75,66]⟩) fun v31=>
 jn (fun J23=>
 cnd v31 (xBs 2 (Value.cells (.int .i64 0)) 1 1 [(0,(.int .i64 16))] w1 fun v32 w25=>
 J23 [v32] w25) (xStr .eql v0 (.string ⟨#[71,76]⟩) fun v34=>
 cnd v34 (xBs 2 (Value.cells (.int .i64 0)) 1 1 [(0,(.int .i64 18))] w1 fun v35 w26=>
 J23 [v35] w26) (R (.slice none 0 0) w1))) (fun xs23 w24=>
 ∀ _:Nat → Value,J20 [(gx xs23 0)] w24))) (fun xs20 w21=>
 ∀ _:Nat → Value,J17 [(gx xs20 0)] w21))) (fun xs17 w18=>
 ∀ _:Nat → Value,J14 [(gx xs17 0)] w18))) (fun xs14 w15=>
 ∀ _:Nat → Value,J11 [(gx xs14 0)] w15))) (fun xs11 w12=>
 ∀ _:Nat → Value,J8 [(gx xs11 0)] w12))) (fun xs8 w9=>
 ∀ _:Nat → Value,J6 [(gx xs8 0)] w9))) (fun xs6 w7=>
 ∀ _:Nat → Value,J4 [(.int .i64 13),(gx xs6 0)] w7))) (fun xs4 w5=>
 ∀ _:Nat → Value,J2 [(gx xs4 0),(gx xs4 1)] w5))) (fun xs2 w3=>
 ∀ _:Nat → Value,xBs 2 (Value.cells (.int .i64 0)) 1 0 [] w3 fun v36 w27=>
 lp (fun K28 xs28 w29=>
 ∀ _:Nat → Value,xLt .i64 (gx xs28 1) (gx xs2 0) fun v39=>
 cnd v39 (xBs 2 (Value.cells (.int .i64 0)) 1 1 [(0,(gx xs28 1))] w29 fun v44 w30=>
 xOp Tryz.prog (Builtin.append_ #[51,51] 51 #[(gx xs28 0),v44]) w30 fun v45 w31=>
 xAdd .i64 (gx xs28 1) (.int .i64 1) fun v41=>
 K28 [v45,v41] w31) (xOp Tryz.prog (Builtin.append_ #[51,51] 51 #[(gx xs28 0),(gx xs2 1)]) w29 fun v48 w32=>
 R v48 w32)) [v36,(.int .i64 0)] w27)
theorem KR {v0:Value} {w:World} {R:Value → World → Prop} (h:yH v0 w R):Cal Tryz.prog n8 #[v0] w R:=cD (h:=(.node none .leaf (.node none .leaf (.node none (.node none .leaf (.node none .leaf (.node (some [3,4]) .leaf (.node none .leaf (.node (some [3,4]) .leaf (.node none .leaf (.node (some [4]) .leaf (.node none .leaf (.node (some [4]) .leaf (.node none .leaf (.node (some [4]) .leaf (.node none .leaf (.node (some [4]) .leaf (.node none .leaf (.node (some [4]) .leaf (.node none .leaf (.node (some [4]) .leaf (.node none .leaf (.node (some [4]) .leaf .leaf))))))))))))))))))) (.node none .leaf (.node none (.node none .leaf (.node (some [5,6]) .leaf .leaf)) .leaf)))))) Tryz.func41 h
abbrev rX:FuncId:=42
def A6 (v0 v1:Value) (w:World) (R:Value → World → Prop):Prop:=
 callV Tryz.prog (.func (.func 17) #[] #[]) [v0,(.int .i64 3)] w fun v7 w1=>
 xAdd .i64 (.int .i64 1) v7 fun v8=>
 callV Tryz.prog (.func (.func 82) #[] #[]) [v0,v8,(.int .i64 3),v1] w1 fun v10 w2=>
 R v10 w2
theorem PB {v0 v1:Value} {w:World} {R:Value → World → Prop} (h:A6 v0 v1 w R):Cal Tryz.prog rX #[v0,v1] w R:=cD (h:=.leaf) Tryz.func42 h
abbrev BG:FuncId:=43
def BP (v0 v1:Value) (w:World) (R:Value → World → Prop):Prop:=
 callV Tryz.prog (.func (.func 35) #[] #[]) [(.int .i64 4),v0,v1] w fun v7 w1=>
 R v7 w1
theorem PA {v0 v1:Value} {w:World} {R:Value → World → Prop} (h:BP v0 v1 w R):Cal Tryz.prog BG #[v0,v1] w R:=cD (h:=.leaf) Tryz.func43 h
abbrev uP:FuncId:=44
def DH (w:World) (R:Value → World → Prop):Prop:=
 xBs 33 (Value.cells (.slice none 0 0)) 1 0 [] w fun v3 w1=>
 lp (fun K2 xs2 w3=>
 ∀ _:Nat → Value,xLt .i64 (gx xs2 1) (.int .i64 6) fun v5=>
 cnd v5 (callV Tryz.prog (.func (.func 83) #[] #[]) [(gx xs2 1)] w3 fun v10 w4=>
 xBs 33 (Value.cells (.slice none 0 0)) 1 1 [(0,v10)] w4 fun v11 w5=>
 xOp Tryz.prog (Builtin.append_ #[24,24] 24 #[(gx xs2 0),v11]) w5 fun v12 w6=>
 xAdd .i64 (gx xs2 1) (.int .i64 1) fun v7=>
 K2 [v12,v7] w6) (R (gx xs2 0) w3)) [v3,(.int .i64 0)] w1
theorem QE {w:World} {R:Value → World → Prop} (h:DH w R):Cal Tryz.prog uP #[] w R:=cD (h:=(.node none .leaf (.node none .leaf (.node none (.node none .leaf (.node (some [1,2]) .leaf .leaf)) .leaf)))) Tryz.func44 h
abbrev iA:FuncId:=45
def G5 (v0 v1 v2 v3 v4:Value) (w:World) (R:Value → World → Prop):Prop:=
 callV Tryz.prog (.func (.func 31) #[] #[]) [v4] w fun v17 w1=>
 aR #[(.int .i64 0),(.int .i64 0),(.int .i64 0),(.slice none 0 0)] #[(0,1),(1,1),(2,1),(3,1)] [(0,v1),(1,v2),(2,v3),(3,v17)] fun v18=>
 xBs 45 (Value.cells (.agg #[(.int .i64 0),(.int .i64 0),(.int .i64 0),(.slice none 0 0)])) 4 1 [(0,v18)] w1 fun v19 w2=>
 xOp Tryz.prog (Builtin.append_ #[25,25] 25 #[v0,v19]) w2 fun v20 w3=>
 xLenS v0 fun v22=>
 R (.tuple #[v20,v22]) w3
theorem R4 {v0 v1 v2 v3 v4:Value} {w:World} {R:Value → World → Prop} (h:G5 v0 v1 v2 v3 v4 w R):Cal Tryz.prog iA #[v0,v1,v2,v3,v4] w R:=cD (h:=.leaf) Tryz.func45 h
abbrev xC:FuncId:=46
def GG (v0 v1:Value) (w:World) (R:Value → World → Prop):Prop:=
 xBs 72 (Value.cells (.agg #[(.int .i64 0),(.int .i64 0)])) 2 0 [] w fun v7 w1=>
 lp (fun K2 xs2 w3=>
 ∀ _:Nat → Value,xLenS v0 fun v10=>
 xLt .i64 (gx xs2 1) v10 fun v11=>
 cnd v11 (xIa 2 v0 (gx xs2 1) fun v16=>
 xFa 0 v16 fun v17=>
 xLd w3 v17 fun v18=>
 xEq .i64 v18 (.int .i64 0) fun v19=>
 cnd v19 (xIa 2 v0 (gx xs2 1) fun v24=>
 xFa 1 v24 fun v25=>
 xLd w3 v25 fun v26=>
 xIa 1 v1 v26 fun v27=>
 xLd w3 v27 fun v28=>
 xOp Tryz.prog (Builtin.append_ #[33,33] 33 #[(gx xs2 0),v28]) w3 fun v29 w4=>
 xAdd .i64 (gx xs2 1) (.int .i64 1) fun v13=>
 K2 [v29,v13] w4) (xIa 2 v0 (gx xs2 1) fun v33=>
 xLdA w3 2 v33 fun v34=>
 xBs 72 (Value.cells (.agg #[(.int .i64 0),(.int .i64 0)])) 2 1 [(0,v34)] w3 fun v35 w5=>
 xOp Tryz.prog (Builtin.append_ #[33,33] 33 #[(gx xs2 0),v35]) w5 fun v36 w6=>
 xAdd .i64 (gx xs2 1) (.int .i64 1) fun v13=>
 K2 [v36,v13] w6)) (R (gx xs2 0) w3)) [v7,(.int .i64 0)] w1
theorem RS {v0 v1:Value} {w:World} {R:Value → World → Prop} (h:GG v0 v1 w R):Cal Tryz.prog xC #[v0,v1] w R:=cD (h:=(.node none .leaf (.node none .leaf (.node none (.node none .leaf (.node (some [5,6]) .leaf .leaf)) .leaf)))) Tryz.func46 h
abbrev yI:FuncId:=47
def xV (v0:Value) (w:World) (R:Value → World → Prop):Prop:=
 xBs 51 (Value.cells (.slice none 0 0)) 1 0 [] w fun v8 w1=>
 lp (fun K2 xs2 w3=>
 ∀ _:Nat → Value,xLenS v0 fun v11=>
 xLt .i64 (gx xs2 1) v11 fun v12=>
 cnd v12 (xBs 2 (Value.cells (.int .i64 0)) 1 0 [] w3 fun v15 w4=>
 xIa 4 v0 (gx xs2 1) fun v18=>
 xFa 0 v18 fun v19=>
 xLd w4 v19 fun v20=>
 xEq .i64 v20 (.int .i64 2) fun v22=>
 jn (fun J5=>
 cnd v22 (xIa 4 v0 (gx xs2 1) fun v25=>
 xFa 1 v25 fun v26=>
 xLd w4 v26 fun v27=>
 xBs 2 (Value.cells (.int .i64 0)) 1 1 [(0,v27)] w4 fun v28 w7=>
 J5 [v28] w7) (xEq .i64 v20 (.int .i64 3) fun v30=>
 jn (fun J8=>
 cnd v30 (xIa 4 v0 (gx xs2 1) fun v34=>
 xFa 1 v34 fun v35=>
 xLd w4 v35 fun v36=>
 xIa 1 (gx xs2 0) v36 fun v37=>
 xLd w4 v37 fun v38=>
 callV Tryz.prog (.func (.func 84) #[] #[]) [v38] w4 fun v39 w10=>
 xIa 4 v0 (gx xs2 1) fun v43=>
 xFa 2 v43 fun v44=>
 xLd w10 v44 fun v45=>
 xIa 1 (gx xs2 0) v45 fun v46=>
 xLd w10 v46 fun v47=>
 lp (fun K11 xs11 w12=>
 ∀ _:Nat → Value,xLenS v47 fun v50=>
 xLt .i64 (gx xs11 1) v50 fun v51=>
 cnd v51 (xIa 1 v47 (gx xs11 1) fun v57=>
 xLd w12 v57 fun v58=>
 callV Tryz.prog (.func (.func 85) #[] #[]) [(gx xs11 0),v58] w12 fun v59 w13=>
 xNot v59 fun v60=>
 cnd v60 (xIa 1 v47 (gx xs11 1) fun v64=>
 xLd w13 v64 fun v65=>
 xBs 2 (Value.cells (.int .i64 0)) 1 1 [(0,v65)] w13 fun v66 w14=>
 xOp Tryz.prog (Builtin.append_ #[51,51] 51 #[(gx xs11 0),v66]) w14 fun v67 w15=>
 xAdd .i64 (gx xs11 1) (.int .i64 1) fun v53=>
 K11 [v67,v53] w15) (xAdd .i64 (gx xs11 1) (.int .i64 1) fun v53=>
 K11 [(gx xs11 0),v53] w13)) (J8 [(gx xs11 0)] w12)) [v39,(.int .i64 0)] w10) (xEq .i64 v20 (.int .i64 4) fun v69=>
 jn (fun J16=>
 cnd v69 (xIa 4 v0 (gx xs2 1) fun v73=>
 xFa 1 v73 fun v74=>
 xLd w4 v74 fun v75=>
 xIa 1 (gx xs2 0) v75 fun v76=>
 xLd w4 v76 fun v77=>
 callV Tryz.prog (.func (.func 84) #[] #[]) [v77] w4 fun v78 w18=>
 J16 [v78] w18) (J16 [v15] w4)) (fun xs16 w17=>
 ∀ _:Nat → Value,J8 [(gx xs16 0)] w17))) (fun xs8 w9=>
 ∀ _:Nat → Value,J5 [(gx xs8 0)] w9))) (fun xs5 w6=>
 ∀ _:Nat → Value,xBs 51 (Value.cells (.slice none 0 0)) 1 1 [(0,(gx xs5 0))] w6 fun v81 w19=>
 xOp Tryz.prog (Builtin.append_ #[61,61] 61 #[(gx xs2 0),v81]) w19 fun v82 w20=>
 xAdd .i64 (gx xs2 1) (.int .i64 1) fun v14=>
 K2 [v82,v14] w20)) (R (gx xs2 0) w3)) [v8,(.int .i64 0)] w1
theorem KS {v0:Value} {w:World} {R:Value → World → Prop} (h:xV v0 w R):Cal Tryz.prog yI #[v0] w R:=cD (h:=(.node none .leaf (.node none .leaf (.node none (.node none .leaf (.node (some [3,4]) (.node none .leaf (.node none (.node none .leaf (.node none (.node none .leaf (.node none .leaf (.node (some [5]) .leaf (.node none .leaf (.node (some [5]) (.node none .leaf (.node none .leaf (.node none .leaf (.node (some [5,7]) .leaf .leaf)))) (.node none .leaf (.node (some [5]) .leaf .leaf))))))) .leaf)) .leaf)) .leaf)) .leaf)))) Tryz.func47 h
abbrev G4:FuncId:=48
def HG (v0 v1:Value) (w:World) (R:Value → World → Prop):Prop:=
 aR #[(.int .i64 0),(.int .i64 0)] #[(0,1),(1,1)] [(0,v0)] fun v6=>
 xBs 72 (Value.cells (.agg #[(.int .i64 0),(.int .i64 0)])) 2 1 [(0,v6)] w fun v7 w1=>
 xOp Tryz.prog (Builtin.append_ #[33,33] 33 #[v7,v1]) w1 fun v9 w2=>
 R v9 w2
theorem RW {v0 v1:Value} {w:World} {R:Value → World → Prop} (h:HG v0 v1 w R):Cal Tryz.prog G4 #[v0,v1] w R:=cD (h:=.leaf) Tryz.func48 h
abbrev r6:FuncId:=49
def BV (v0 v1:Value) (w:World) (R:Value → World → Prop):Prop:=
 xLenS v0 fun v7=>
 xLenS v1 fun v9=>
 xNe .i64 v7 v9 fun v10=>
 cnd v10 (R (.bool false) w) (lp (fun K1 xs1 w2=>
 ∀ _:Nat → Value,xLenS v0 fun v13=>
 xLt .i64 (gx xs1 0) v13 fun v14=>
 cnd v14 (xIa 2 v0 (gx xs1 0) fun v19=>
 xLdA w2 2 v19 fun v20=>
 xIa 2 v1 (gx xs1 0) fun v23=>
 xLdA w2 2 v23 fun v24=>
 xR Tryz.prog w2 (do eqGuard .neq 72 (.tmp 20) (.tmp 24) v20 v24;binOp .neq 72 v20 v24) fun v25=>
 ∀ w3,Ext w2 w3 → cnd v25 (R (.bool false) w3) (xAdd .i64 (gx xs1 0) (.int .i64 1) fun v16=>
 K1 [v16] w3)) (R (.bool true) w2)) [(.int .i64 0)] w)
theorem O8 {v0 v1:Value} {w:World} {R:Value → World → Prop} (h:BV v0 v1 w R):Cal Tryz.prog r6 #[v0,v1] w R:=cD (h:=(.node none .leaf (.node none .leaf (.node none (.node none .leaf (.node (some [5]) .leaf .leaf)) .leaf)))) Tryz.func49 h
abbrev uB:FuncId:=50
def ED (v0:Value) (w:World) (R:Value → World → Prop):Prop:=
 callV Tryz.prog (.func (.func 86) #[] #[]) [v0,(.int .i64 1)] w fun v5 w1=>
 xSl 2 v0 (some (.int .i64 1)) (some v5) fun v6=>
 R v6 w1
theorem PT {v0:Value} {w:World} {R:Value → World → Prop} (h:ED v0 w R):Cal Tryz.prog uB #[v0] w R:=cD (h:=.leaf) Tryz.func50 h
abbrev rR:FuncId:=51
def A8 (v0:Value) (w:World) (R:Value → World → Prop):Prop:=
 callV Tryz.prog (.func (.func 86) #[] #[]) [v0,(.int .i64 1)] w fun v5 w1=>
 xSl 2 v0 (some v5) none fun v6=>
 R v6 w1
theorem PI {v0:Value} {w:World} {R:Value → World → Prop} (h:A8 v0 w R):Cal Tryz.prog rR #[v0] w R:=cD (h:=.leaf) Tryz.func51 h
abbrev E1:FuncId:=52
def DY (v0 v1:Value) (w:World) (R:Value → World → Prop):Prop:=
 callV Tryz.prog (.func (.func 31) #[] #[]) [v1] w fun v8 w1=>
 xLenS v8 fun v11=>
 callV Tryz.prog (.func (.func 17) #[] #[]) [v0,v11] w1 fun v12 w2=>
 callV Tryz.prog (.func (.func 17) #[] #[]) [v0,(.int .i64 5)] w2 fun v14 w3=>
 xEq .i64 v14 (.int .i64 0) fun v16=>
 cnd v16 (callV Tryz.prog (.func (.func 17) #[] #[]) [v0,(.int .i64 9)] w3 fun v20 w4=>
 xSub .i64 v20 (.int .i64 1) fun v21=>
 xIa 2 v8 v12 fun v22=>
 xFa 0 v22 fun v23=>
 xSt w4 v23 v21 fun w5=>
 R v8 w5) (xEq .i64 v14 (.int .i64 1) fun v25=>
 cnd v25 (xBs 2 (Value.cells (.int .i64 0)) 1 5 [(0,(.int .i64 (-1))),(1,(.int .i64 0)),(2,(.int .i64 1)),(3,(.int .i64 5)),(4,(.int .i64 6))] w3 fun v29 w6=>
 callV Tryz.prog (.func (.func 87) #[] #[]) [v0,v29] w6 fun v30 w7=>
 xIa 2 v8 v12 fun v31=>
 xFa 1 v31 fun v32=>
 xSt w7 v32 v30 fun w8=>
 R v8 w8) (xEq .i64 v14 (.int .i64 2) fun v34=>
 cnd v34 (callV Tryz.prog (.func (.func 17) #[] #[]) [v0,(.int .i64 7)] w3 fun v37 w9=>
 aR #[(.int .i64 0),(.int .i64 0)] #[(0,1),(1,1)] [(0,v37)] fun v38=>
 xBs 72 (Value.cells (.agg #[(.int .i64 0),(.int .i64 0)])) 2 1 [(0,v38)] w9 fun v39 w10=>
 xOp Tryz.prog (Builtin.append_ #[33,33] 33 #[v8,v39]) w10 fun v40 w11=>
 R v40 w11) (xEq .i64 v14 (.int .i64 3) fun v42=>
 cnd v42 (xSl 2 v8 none (some v12) fun v45=>
 R v45 w3) (xEq .i64 v14 (.int .i64 4) fun v47=>
 cnd v47 (xSl 2 v8 none (some v12) fun v50=>
 xAdd .i64 v12 (.int .i64 1) fun v53=>
 xSl 2 v8 (some v53) none fun v54=>
 ∀ w12,Ext w3 w12 → xOp Tryz.prog (Builtin.append_ #[33,33] 33 #[v50,v54]) w12 fun v55 w13=>
 ∀ w14,Ext w13 w14 → R v55 w14) (R v8 w3)))))
theorem QF {v0 v1:Value} {w:World} {R:Value → World → Prop} (h:DY v0 v1 w R):Cal Tryz.prog E1 #[v0,v1] w R:=cD (h:=.leaf) Tryz.func52 h
abbrev DZ:FuncId:=53
def DW (v0:Value) (w:World) (R:Value → World → Prop):Prop:=
 callV Tryz.prog (.func (.func 88) #[] #[]) [v0] w fun v9 w1=>
 xEx v9 0 fun v10=>
 xEx v9 1 fun _=>
 xEx v9 2 fun v12=>
 jn (fun J2=>
 xEq .i64 v12 (.int .i64 0) fun v15=>
 cnd v15 (callV Tryz.prog (.func (.func 89) #[] #[]) [v10] w1 fun v18 w4=>
 xStr .eql v18 v0 fun v20=>
 J2 [v10,v20] w4) (J2 [v10,(.bool false)] w1)) (fun xs2 w3=>
 ∀ _:Nat → Value,R (.tuple #[(gx xs2 0),(gx xs2 1)]) w3)
theorem PW {v0:Value} {w:World} {R:Value → World → Prop} (h:DW v0 w R):Cal Tryz.prog DZ #[v0] w R:=cD (h:=(.node none .leaf (.node none .leaf (.node none (.reg [] (some [2,3])) .leaf)))) Tryz.func53 h
abbrev N1:FuncId:=54
def B6 (w:World) (R:Value → World → Prop):Prop:=
 xBs 9 (Value.cells (.string ⟨#[]⟩)) 1 19 [(0,(.string ⟨#[112,62,113,62,112]⟩)),(1,(.string ⟨#[40,112,62,113,62,114,41,62,40,112,62,113,41,62,112,62,114]⟩)),(2,(.string ⟨#[112,38,113,62,112]⟩)),(3,(.string ⟨#[112,38,113,62,113]⟩)),(4,(.string ⟨#[112,62,113,62,112,38,113]⟩)),(5,(.string ⟨#[112,62,112,124,113]⟩)),(6,(.string ⟨#[113,62,112,124,113]⟩)),(7,(.string ⟨#[40,112,62,114,41,62,40,113,62,114,41,62,112,124,113,62,114]⟩)),(8,(.string ⟨#[70,62,112]⟩)),(9,(.string ⟨#[126,126,112,62,112]⟩)),(10,(.string ⟨#[91,93,40,112,62,113,41,62,91,93,112,62,91,93,113]⟩)),(11,(.string ⟨#[60,62,112,62,126,91,93,126,112]⟩)),(12,(.string ⟨#[126,91,93,126,112,62,60,62,112]⟩)),(13,(.string ⟨#[91,93,112,62,112]⟩)),(14,(.string ⟨#[91,93,112,62,91,93,91,93,112]⟩)),(15,(.string ⟨#[60,62,112,62,91,93,60,62,112]⟩)),(16,(.string ⟨#[112,62,91,93,60,62,112]⟩)),(17,(.string ⟨#[91,93,112,62,60,62,112]⟩)),(18,(.string ⟨#[91,93,40,91,93,112,62,112,41,62,91,93,112]⟩))] w fun v1 w1=>
 R v1 w1
theorem OE {w:World} {R:Value → World → Prop} (h:B6 w R):Cal Tryz.prog N1 #[] w R:=cD (h:=.leaf) Tryz.func54 h
abbrev zS:FuncId:=55
def z7 (v0:Value) (w:World) (R:Value → World → Prop):Prop:=
 xStr .eql v0 (.string ⟨#[73,110,116]⟩) fun v10=>
 jn (fun J1=>
 cnd v10 (J1 [(.int .i64 8),(.slice none 0 0)] w) (xStr .eql v0 (.string ⟨#[67,76]⟩) fun v12=>
 jn (fun J3=>
 cnd v12 (J3 [(.int .i64 9),(.slice none 0 0)] w) (xStr .eql v0 (.string ⟨#[75]⟩) fun v14=>
 jn (fun J5=>
 cnd v14 (J5 [(.slice none 0 0)] w) (xStr .eql v0 (.string ⟨#[68]⟩) fun v16=>
 jn (fun J7=>
 cnd v16 (xBs 2 (Value.cells (.int .i64 0)) 1 1 [(0,(.int .i64 17))] w fun v17 w9=>
 J7 [v17] w9) (xStr .eql v0 (.string ⟨#[84]⟩) fun v19=>
 jn (fun J10=>
 cnd v19 (xBs 2 (Value.cells (.int .i64 0)) 1 1 [(0,(.int .i64 13))] w fun v20 w12=>
 J10 [v20] w12) (xStr .eql v0 (.string ⟨#[75,52]⟩) fun v22=>
 jn (fun J13=>
 cnd v22 (xBs 2 (Value.cells (.int .i64 0)) 1 1 [(0,(.int .i64 14))] w fun v23 w15=>
 J13 [v23] w15) (xStr .eql v0 (.string ⟨#[83,52]⟩) fun v25=>
 jn (fun J16=>
 cnd v25 (xBs 2 (Value.cells (.int .i64 0)) 1 2 [(0,(.int .i64 13)),(1,(.int .i64 14))] w fun v26 w18=>
 J16 [v26] w18) (xStr .eql v0 (.string ⟨#[83,53]⟩) fun v28=>
 jn (fun J19=>
 cnd v28 (xBs 2 (Value.cells (.int .i64 0)) 1 2 [(0,(.int .i64 13)),(1,(.int .i64 15))] w fun v29 w21=>
 J19 [v29] w21) (xStr .eql v0 (.string ⟨#[75,66]⟩) fun v31=>
 jn (fun J22=>
 cnd v31 (xBs 2 (Value.cells (.int .i64 0)) 1 1 [(0,(.int .i64 16))] w fun v32 w24=>
 J22 [v32] w24) (xStr .eql v0 (.string ⟨#[71,76]⟩) fun v34=>
 cnd v34 (xBs 2 (Value.cells (.int .i64 0)) 1 1 [(0,(.int .i64 18))] w fun v35 w25=>
 J22 [v35] w25) (R (.tuple #[(.slice none 0 0),(.bool false)]) w))) (fun xs22 w23=>
 ∀ _:Nat → Value,J19 [(gx xs22 0)] w23))) (fun xs19 w20=>
 ∀ _:Nat → Value,J16 [(gx xs19 0)] w20))) (fun xs16 w17=>
 ∀ _:Nat → Value,J13 [(gx xs16 0)] w17))) (fun xs13 w14=>
 ∀ _:Nat → Value,J10 [(gx xs13 0)] w14))) (fun xs10 w11=>
 ∀ _:Nat → Value,J7 [(gx xs10 0)] w11))) (fun xs7 w8=>
 ∀ _:Nat → Value,J5 [(gx xs7 0)] w8))) (fun xs5 w6=>
 ∀ _:Nat → Value,J3 [(.int .i64 12),(gx xs5 0)] w6))) (fun xs3 w4=>
 ∀ _:Nat → Value,J1 [(gx xs3 0),(gx xs3 1)] w4))) (fun xs1 w2=>
 ∀ _:Nat → Value,xAdd .i64 (gx xs1 0) (.int .i64 1) fun v37=>
 lp (fun K26 xs26 w27=>
 ∀ _:Nat → Value,xLt .i64 (gx xs26 1) v37 fun v39=>
 cnd v39 (xBs 2 (Value.cells (.int .i64 0)) 1 1 [(0,(gx xs26 1))] w27 fun v43 w28=>
 xOp Tryz.prog (Builtin.append_ #[51,51] 51 #[(gx xs26 0),v43]) w28 fun v44 w29=>
 xAdd .i64 (gx xs26 1) (.int .i64 1) fun v45=>
 K26 [v44,v45] w29) (xOp Tryz.prog (Builtin.append_ #[51,51] 51 #[(gx xs26 0),(gx xs1 1)]) w27 fun v48 w30=>
 R (.tuple #[v48,(.bool true)]) w30)) [(.slice none 0 0),(.int .i64 0)] w2)
theorem NS {v0:Value} {w:World} {R:Value → World → Prop} (h:z7 v0 w R):Cal Tryz.prog zS #[v0] w R:=cD (h:=(.node none .leaf (.node none .leaf (.node none (.node none .leaf (.node none .leaf (.node (some [4,5]) .leaf (.node none .leaf (.node (some [4,5]) .leaf (.node none .leaf (.node (some [5]) .leaf (.node none .leaf (.node (some [5]) .leaf (.node none .leaf (.node (some [5]) .leaf (.node none .leaf (.node (some [5]) .leaf (.node none .leaf (.node (some [5]) .leaf (.node none .leaf (.node (some [5]) .leaf (.node none .leaf (.node (some [5]) .leaf .leaf))))))))))))))))))) (.node none .leaf (.node none (.node none .leaf (.node (some [6,38]) .leaf .leaf)) .leaf)))))) Tryz.func55 h
abbrev vH:FuncId:=56
def wG (v0:Value) (w:World) (R:Value → World → Prop):Prop:=
 callV Tryz.prog (.func (.func 90) #[] #[]) [v0,(.func (.func 91) #[] #[])] w fun v4 w1=>
 xNot v4 fun v5=>
 R v5 w1
theorem IU {v0:Value} {w:World} {R:Value → World → Prop} (h:wG v0 w R):Cal Tryz.prog vH #[v0] w R:=cD (h:=.leaf) Tryz.func56 h
abbrev cP:FuncId:=57
def cT (v0 v1:Value) (w:World) (R:Value → World → Prop):Prop:=
 callV Tryz.prog (.func (.func 93) #[] #[]) [v0,v1] w fun v7 w1=>
 xLe .i64 (.int .i64 0) v7 fun v8=>
 R v8 w1
theorem iZ {v0 v1:Value} {w:World} {R:Value → World → Prop} (h:cT v0 v1 w R):Cal Tryz.prog cP #[v0,v1] w R:=cD (h:=.leaf) Tryz.func57 h
abbrev fW:FuncId:=58
def rG (v0:Value) (w:World) (R:Value → World → Prop):Prop:=
 callV Tryz.prog (.func (.func 26) #[] #[]) [v0] w fun v4 w1=>
 xNot v4 fun v5=>
 R v5 w1
theorem FK {v0:Value} {w:World} {R:Value → World → Prop} (h:rG v0 w R):Cal Tryz.prog fW #[v0] w R:=cD (h:=.leaf) Tryz.func58 h
abbrev pH:FuncId:=59
def pG (v0 v1:Value) (w:World) (R:Value → World → Prop):Prop:=
 xNew (Value.cells v0) 45 w fun v2 w1=>
 xNew (Value.cells (.agg #[(.int .i64 0),(.int .i64 0),(.int .i64 0),(.slice none 0 0)])) 45 w1 fun v4 w2=>
 xFa 3 v2 fun v6=>
 xLd w2 v6 fun v7=>
 callV Tryz.prog (.func (.func 29) #[] #[]) [v7] w2 fun v8 w3=>
 xFa 3 v2 fun v9=>
 xSt w3 v9 v8 fun w4=>
 xLdA w4 4 v2 fun v10=>
 callV Tryz.prog (.func (.func 95) #[] #[]) [v10] w4 fun v11 w5=>
 callV Tryz.prog (.func (.func 94) #[] #[]) [v11,v1] w5 fun v13 w6=>
 xLenS v13 fun v15=>
 xLt .i64 (.int .i64 0) v15 fun v16=>
 cnd v16 (xIa 1 v13 (.int .i64 0) fun v18=>
 xLd w6 v18 fun v19=>
 xFa 1 v2 fun v20=>
 xSt w6 v20 v19 fun w7=>
 xLenS v13 fun v22=>
 xLt .i64 (.int .i64 1) v22 fun v23=>
 cnd v23 (xIa 1 v13 (.int .i64 1) fun v25=>
 xLd w7 v25 fun v26=>
 xFa 2 v2 fun v27=>
 xSt w7 v27 v26 fun w8=>
 xLdA w8 4 v2 fun v28=>
 xStA Tryz.prog w8 4 v4 v28 fun w9=>
 xLdA w9 4 v4 fun r10=>
 R r10 w9) (xLdA w7 4 v2 fun v28=>
 xStA Tryz.prog w7 4 v4 v28 fun w11=>
 xLdA w11 4 v4 fun r12=>
 R r12 w11)) (xLdA w6 4 v2 fun v28=>
 xStA Tryz.prog w6 4 v4 v28 fun w13=>
 xLdA w13 4 v4 fun r14=>
 R r14 w13)
theorem CE {v0 v1:Value} {w:World} {R:Value → World → Prop} (h:pG v0 v1 w R):Cal Tryz.prog pH #[v0,v1] w R:=cD (h:=.leaf) Tryz.func59 h
abbrev gK:FuncId:=60
def mN (v0 v1 v2:Value) (w:World) (R:Value → World → Prop):Prop:=
 xNil v0 fun v10=>
 xFa 0 v10 fun v11=>
 xLd w v11 fun v12=>
 xBs 33 (Value.cells (.slice none 0 0)) 1 3 [(0,v2),(1,v12),(2,v2)] w fun v14 w1=>
 callV Tryz.prog (.func (.func 96) #[] #[]) [v14] w1 fun v15 w2=>
 callV Tryz.prog (.func (.func 61) #[] #[]) [v0,(.int .i64 1),(.int .i64 0),(.int .i64 0),v15] w2 fun v16 w3=>
 xNil v0 fun v19=>
 xFa 2 v19 fun v20=>
 xLd w3 v20 fun v21=>
 xBs 2 (Value.cells (.int .i64 0)) 1 1 [(0,v1)] w3 fun v23 w4=>
 xOp Tryz.prog (Builtin.append_ #[51,51] 51 #[v21,v23]) w4 fun v24 w5=>
 xNil v0 fun v25=>
 xFa 2 v25 fun v26=>
 xSt w5 v26 v24 fun w6=>
 ∃ E7:World → World → Prop,FrE E7 ∧ xNil v0 fun v29=>
 xFa 3 v29 fun v30=>
 xLd w6 v30 fun v31=>
 (∀ w8,E7 w6 w8 → xLd w8 v30 fun u31=>
 u31 = v31) ∧ xNil v0 fun v36=>
 xFa 0 v36 fun v37=>
 xLd w6 v37 fun v38=>
 (∀ w9,E7 w6 w9 → xLd w9 v37 fun u38=>
 u38 = v38) ∧ ∀ w10,Ext w6 w10 → xBs 33 (Value.cells (.slice none 0 0)) 1 2 [(0,v38),(1,v2)] w10 fun v40 w11=>
 E7 w10 w11 ∧ ∀ w12,Ext w11 w12 → callV Tryz.prog (.func (.func 96) #[] #[]) [v40] w12 fun v41 w13=>
 E7 w12 w13 ∧ ∀ w14,Ext w13 w14 → callV Tryz.prog (.func (.func 61) #[] #[]) [v0,(.int .i64 3),v16,v1,v41] w14 fun v42 w15=>
 E7 w14 w15 ∧ ∀ w16,Ext w15 w16 → xBs 2 (Value.cells (.int .i64 0)) 1 1 [(0,v42)] w16 fun v43 w17=>
 E7 w16 w17 ∧ ∀ w18,Ext w17 w18 → xOp Tryz.prog (Builtin.append_ #[51,51] 51 #[v31,v43]) w18 fun v44 w19=>
 xNil v0 fun v45=>
 xFa 3 v45 fun v46=>
 ∀ w20,Ext w19 w20 → xSt w20 v46 v44 fun w21=>
 ∀ w22,Ext w21 w22 → R (.tuple #[]) w22
theorem AH {v0 v1 v2:Value} {w:World} {R:Value → World → Prop} (h:mN v0 v1 v2 w R):Cal Tryz.prog gK #[v0,v1,v2] w R:=cD (h:=(.node none .leaf (.node none .leaf (.regE [1000001] none)))) Tryz.func60 h
abbrev jU:FuncId:=61
def qB (v0 v1 v2 v3 v4:Value) (w:World) (R:Value → World → Prop):Prop:=
 xNil v0 fun v13=>
 xFa 1 v13 fun v14=>
 xLd w v14 fun v15=>
 aR #[(.int .i64 0),(.int .i64 0),(.int .i64 0),(.slice none 0 0)] #[(0,1),(1,1),(2,1),(3,1)] [(0,v1),(1,v2),(2,v3),(3,v4)] fun v20=>
 xBs 45 (Value.cells (.agg #[(.int .i64 0),(.int .i64 0),(.int .i64 0),(.slice none 0 0)])) 4 1 [(0,v20)] w fun v21 w1=>
 xOp Tryz.prog (Builtin.append_ #[25,25] 25 #[v15,v21]) w1 fun v22 w2=>
 xNil v0 fun v23=>
 xFa 1 v23 fun v24=>
 xSt w2 v24 v22 fun w3=>
 xNil v0 fun v26=>
 xFa 1 v26 fun v27=>
 xLd w3 v27 fun v28=>
 callV Tryz.prog (.func (.func 97) #[] #[]) [v28] w3 fun v29 w4=>
 xSub .i64 v29 (.int .i64 1) fun v30=>
 R v30 w4
theorem EJ {v0 v1 v2 v3 v4:Value} {w:World} {R:Value → World → Prop} (h:qB v0 v1 v2 v3 v4 w R):Cal Tryz.prog jU #[v0,v1,v2,v3,v4] w R:=cD (h:=.leaf) Tryz.func61 h
abbrev pC:FuncId:=62
def oX (v0:Value) (w:World) (R:Value → World → Prop):Prop:=
 xLenS v0 fun v4=>
 R v4 w
theorem CR {v0:Value} {w:World} {R:Value → World → Prop} (h:oX v0 w R):Cal Tryz.prog pC #[v0] w R:=cD (h:=.leaf) Tryz.func62 h
abbrev lB:FuncId:=63
def kX (v0:Value) (w:World) (R:Value → World → Prop):Prop:=
 xNil v0 fun v9=>
 xFa 0 v9 fun v10=>
 xLd w v10 fun v11=>
 xBs 33 (Value.cells (.slice none 0 0)) 1 2 [(0,v11),(1,v11)] w fun v14 w1=>
 callV Tryz.prog (.func (.func 96) #[] #[]) [v14] w1 fun v15 w2=>
 xBs 33 (Value.cells (.slice none 0 0)) 1 3 [(0,v11),(1,v15),(2,v11)] w2 fun v20 w3=>
 callV Tryz.prog (.func (.func 96) #[] #[]) [v20] w3 fun v21 w4=>
 callV Tryz.prog (.func (.func 61) #[] #[]) [v0,(.int .i64 1),(.int .i64 0),(.int .i64 0),v21] w4 fun v22 w5=>
 xBs 33 (Value.cells (.slice none 0 0)) 1 3 [(0,v11),(1,v15),(2,v11)] w5 fun v27 w6=>
 callV Tryz.prog (.func (.func 96) #[] #[]) [v27] w6 fun v28 w7=>
 xBs 33 (Value.cells (.slice none 0 0)) 1 2 [(0,v11),(1,v15)] w7 fun v31 w8=>
 callV Tryz.prog (.func (.func 96) #[] #[]) [v31] w8 fun v32 w9=>
 xBs 33 (Value.cells (.slice none 0 0)) 1 3 [(0,v28),(1,v32),(2,v15)] w9 fun v34 w10=>
 callV Tryz.prog (.func (.func 96) #[] #[]) [v34] w10 fun v35 w11=>
 callV Tryz.prog (.func (.func 61) #[] #[]) [v0,(.int .i64 1),(.int .i64 1),(.int .i64 0),v35] w11 fun v36 w12=>
 xBs 33 (Value.cells (.slice none 0 0)) 1 2 [(0,v11),(1,v15)] w12 fun v42 w13=>
 callV Tryz.prog (.func (.func 96) #[] #[]) [v42] w13 fun v43 w14=>
 xBs 33 (Value.cells (.slice none 0 0)) 1 2 [(0,v43),(1,v15)] w14 fun v45 w15=>
 callV Tryz.prog (.func (.func 96) #[] #[]) [v45] w15 fun v46 w16=>
 callV Tryz.prog (.func (.func 61) #[] #[]) [v0,(.int .i64 3),v36,v22,v46] w16 fun v47 w17=>
 xBs 33 (Value.cells (.slice none 0 0)) 1 2 [(0,v11),(1,v15)] w17 fun v51 w18=>
 callV Tryz.prog (.func (.func 96) #[] #[]) [v51] w18 fun v52 w19=>
 callV Tryz.prog (.func (.func 61) #[] #[]) [v0,(.int .i64 1),(.int .i64 0),(.int .i64 0),v52] w19 fun v53 w20=>
 xNil v0 fun v56=>
 xFa 2 v56 fun v57=>
 xLd w20 v57 fun v58=>
 xBs 2 (Value.cells (.int .i64 0)) 1 1 [(0,(.int .i64 (-1)))] w20 fun v59 w21=>
 xOp Tryz.prog (Builtin.append_ #[51,51] 51 #[v58,v59]) w21 fun v60 w22=>
 xNil v0 fun v61=>
 xFa 2 v61 fun v62=>
 xSt w22 v62 v60 fun w23=>
 ∃ E24:World → World → Prop,FrE E24 ∧ xNil v0 fun v65=>
 xFa 3 v65 fun v66=>
 xLd w23 v66 fun v67=>
 (∀ w25,E24 w23 w25 → xLd w25 v66 fun u67=>
 u67 = v67) ∧ ∀ w26,Ext w23 w26 → callV Tryz.prog (.func (.func 61) #[] #[]) [v0,(.int .i64 3),v47,v53,v15] w26 fun v72 w27=>
 E24 w26 w27 ∧ ∀ w28,Ext w27 w28 → xBs 2 (Value.cells (.int .i64 0)) 1 1 [(0,v72)] w28 fun v73 w29=>
 E24 w28 w29 ∧ ∀ w30,Ext w29 w30 → xOp Tryz.prog (Builtin.append_ #[51,51] 51 #[v67,v73]) w30 fun v74 w31=>
 xNil v0 fun v75=>
 xFa 3 v75 fun v76=>
 ∀ w32,Ext w31 w32 → xSt w32 v76 v74 fun w33=>
 ∀ w34,Ext w33 w34 → R (.tuple #[]) w34
theorem wR {v0:Value} {w:World} {R:Value → World → Prop} (h:kX v0 w R):Cal Tryz.prog lB #[v0] w R:=cD (h:=(.node none .leaf (.node none .leaf (.node none .leaf (.node none .leaf (.node none .leaf (.node none .leaf (.node none .leaf (.regE [1000001] none))))))))) Tryz.func63 h
abbrev mJ:FuncId:=64
def lX (v0 v1 v2:Value) (w:World) (R:Value → World → Prop):Prop:=
 xNew (Value.cells v1) 45 w fun v4 w1=>
 xNil v0 fun v13=>
 xFa 0 v13 fun v14=>
 xLd w1 v14 fun v15=>
 xFa 3 v4 fun v16=>
 xLd w1 v16 fun v17=>
 ∀ w2,Ext w1 w2 → xBs 33 (Value.cells (.slice none 0 0)) 1 2 [(0,v15),(1,v2)] w2 fun v20 w3=>
 callV Tryz.prog (.func (.func 96) #[] #[]) [v20] w3 fun v21 w4=>
 xBs 33 (Value.cells (.slice none 0 0)) 1 2 [(0,v15),(1,v17)] w4 fun v24 w5=>
 callV Tryz.prog (.func (.func 96) #[] #[]) [v24] w5 fun v25 w6=>
 xBs 33 (Value.cells (.slice none 0 0)) 1 3 [(0,v15),(1,v2),(2,v17)] w6 fun v30 w7=>
 callV Tryz.prog (.func (.func 96) #[] #[]) [v30] w7 fun v31 w8=>
 xBs 33 (Value.cells (.slice none 0 0)) 1 3 [(0,v31),(1,v21),(2,v25)] w8 fun v34 w9=>
 callV Tryz.prog (.func (.func 96) #[] #[]) [v34] w9 fun v35 w10=>
 callV Tryz.prog (.func (.func 61) #[] #[]) [v0,(.int .i64 1),(.int .i64 1),(.int .i64 0),v35] w10 fun v36 w11=>
 xNil v0 fun v40=>
 xFa 3 v40 fun v41=>
 xLd w11 v41 fun v42=>
 xFa 1 v4 fun v43=>
 xLd w11 v43 fun v44=>
 xIa 1 v42 v44 fun v45=>
 xLd w11 v45 fun v46=>
 ∀ w12,Ext w11 w12 → xBs 33 (Value.cells (.slice none 0 0)) 1 2 [(0,v21),(1,v25)] w12 fun v49 w13=>
 Ext w12 w13 ∧ ∀ w14,Ext w13 w14 → callV Tryz.prog (.func (.func 96) #[] #[]) [v49] w14 fun v50 w15=>
 Ext w14 w15 ∧ ∀ w16,Ext w15 w16 → callV Tryz.prog (.func (.func 61) #[] #[]) [v0,(.int .i64 3),v36,v46,v50] w16 fun v51 w17=>
 ∀ w18,Ext w17 w18 → xNil v0 fun v54=>
 xFa 2 v54 fun v55=>
 xLd w18 v55 fun v56=>
 xBs 2 (Value.cells (.int .i64 0)) 1 1 [(0,(.int .i64 (-1)))] w18 fun v57 w19=>
 xOp Tryz.prog (Builtin.append_ #[51,51] 51 #[v56,v57]) w19 fun v58 w20=>
 xNil v0 fun v59=>
 xFa 2 v59 fun v60=>
 xSt w20 v60 v58 fun w21=>
 ∃ E22:World → World → Prop,FrE E22 ∧ xNil v0 fun v63=>
 xFa 3 v63 fun v64=>
 xLd w21 v64 fun v65=>
 (∀ w23,E22 w21 w23 → xLd w23 v64 fun u65=>
 u65 = v65) ∧ xNil v0 fun v69=>
 xFa 3 v69 fun v70=>
 xLd w21 v70 fun v71=>
 (∀ w24,E22 w21 w24 → xLd w24 v70 fun u71=>
 u71 = v71) ∧ xFa 2 v4 fun v72=>
 xLd w21 v72 fun v73=>
 (∀ w25,E22 w21 w25 → xLd w25 v72 fun u73=>
 u73 = v73) ∧ xIa 1 v71 v73 fun v74=>
 xLd w21 v74 fun v75=>
 (∀ w26,E22 w21 w26 → xLd w26 v74 fun u75=>
 u75 = v75) ∧ ∀ w27,Ext w21 w27 → callV Tryz.prog (.func (.func 61) #[] #[]) [v0,(.int .i64 3),v51,v75,v25] w27 fun v77 w28=>
 E22 w27 w28 ∧ ∀ w29,Ext w28 w29 → xBs 2 (Value.cells (.int .i64 0)) 1 1 [(0,v77)] w29 fun v78 w30=>
 E22 w29 w30 ∧ ∀ w31,Ext w30 w31 → xOp Tryz.prog (Builtin.append_ #[51,51] 51 #[v65,v78]) w31 fun v79 w32=>
 xNil v0 fun v80=>
 xFa 3 v80 fun v81=>
 ∀ w33,Ext w32 w33 → xSt w33 v81 v79 fun w34=>
 ∀ w35,Ext w34 w35 → R (.tuple #[]) w35
theorem zW {v0 v1 v2:Value} {w:World} {R:Value → World → Prop} (h:lX v0 v1 v2 w R):Cal Tryz.prog mJ #[v0,v1,v2] w R:=cD (h:=(.node none .leaf (.node none .leaf (.node none .leaf (.node none .leaf (.node none .leaf (.node none .leaf (.regE [1000001] none)))))))) Tryz.func64 h
abbrev eA:FuncId:=65
def dY (v0 v1:Value) (w:World) (R:Value → World → Prop):Prop:=
 xLenS v0 fun v7=>
 lp (fun K1 xs1 w2=>
 ∀ _:Nat → Value,xLt .i64 (gx xs1 0) v7 fun v9=>
 cnd v9 (xIa 4 v0 (gx xs1 0) fun v14=>
 xLdA w2 4 v14 fun v15=>
 callV Tryz.prog v1 [v15] w2 fun v16 w3=>
 cnd v16 (R (gx xs1 0) w3) (xAdd .i64 (gx xs1 0) (.int .i64 1) fun v18=>
 K1 [v18] w3)) (R (.int .i64 (-1)) w2)) [(.int .i64 0)] w
theorem kW {v0 v1:Value} {w:World} {R:Value → World → Prop} (h:dY v0 v1 w R):Cal Tryz.prog eA #[v0,v1] w R:=cD (h:=(.node none .leaf (.node none (.node none .leaf (.node (some [8]) .leaf .leaf)) .leaf))) Tryz.func65 h
abbrev GU:FuncId:=66
def GO (v0 v1 v2:Value) (w:World) (R:Value → World → Prop):Prop:=
 lp (fun K1 xs1 w2=>
 ∀ _:Nat → Value,xLenS v2 fun v10=>
 xLt .i64 (gx xs1 0) v10 fun v11=>
 cnd v11 (callV Tryz.prog (.func (.func 98) #[] #[]) [v0,v1,v2,(gx xs1 0)] w2 fun v18 w3=>
 xNot v18 fun v19=>
 cnd v19 (R (gx xs1 0) w3) (xAdd .i64 (gx xs1 0) (.int .i64 1) fun v13=>
 K1 [v13] w3)) (R (.int .i64 (-1)) w2)) [(.int .i64 0)] w
theorem RV {v0 v1 v2:Value} {w:World} {R:Value → World → Prop} (h:GO v0 v1 v2 w R):Cal Tryz.prog GU #[v0,v1,v2] w R:=cD (h:=(.node none .leaf (.node none (.node none .leaf (.node (some [7]) .leaf .leaf)) .leaf))) Tryz.func66 h
abbrev E5:FuncId:=67
def EQ (v0 v1:Value) (w:World) (R:Value → World → Prop):Prop:=
 xNew (Value.cells v0) 45 w fun v2 w1=>
 xNew (Value.cells (.agg #[(.int .i64 0),(.int .i64 0),(.int .i64 0),(.slice none 0 0)])) 45 w1 fun v4 w2=>
 xFa 0 v2 fun v6=>
 xLd w2 v6 fun v7=>
 xFa 1 v2 fun v8=>
 xLd w2 v8 fun v9=>
 xFa 2 v2 fun v10=>
 xLd w2 v10 fun v11=>
 xFa 3 v2 fun v12=>
 xLd w2 v12 fun v13=>
 ∀ w3,Ext w2 w3 → (callV Tryz.prog (.func (.func 31) #[] #[]) [v13] w3 fun v14 w4=>
 Ext w3 w4 ∧ aR #[(.int .i64 0),(.int .i64 0),(.int .i64 0),(.slice none 0 0)] #[(0,1),(1,1),(2,1),(3,1)] [(0,v7),(1,v9),(2,v11),(3,v14)] fun v15=>
 ∀ w5,Ext w4 w5 → xNew (Value.cells (.agg #[(.int .i64 0),(.int .i64 0),(.int .i64 0),(.slice none 0 0)])) 45 w5 fun v5 w6=>
 Ext w5 w6 ∧ ∀ w7,Ext w6 w7 → xStA Tryz.prog w7 4 v5 v15 fun w8=>
 ∀ w9,Ext w8 w9 → jn (fun J10=>
 xFa 0 v2 fun v16=>
 xLd w9 v16 fun v17=>
 xEq .i64 v17 (.int .i64 3) fun v18=>
 cnd v18 (J10 [(.bool true)] w9) (xFa 0 v2 fun v20=>
 xLd w9 v20 fun v21=>
 xEq .i64 v21 (.int .i64 4) fun v22=>
 J10 [v22] w9)) (fun xs10 w11=>
 ∀ _:Nat → Value,jn (fun J12=>
 cnd (gx xs10 0) (xFa 1 v2 fun v25=>
 xLd w11 v25 fun v26=>
 xIa 1 v1 v26 fun v27=>
 xLd w11 v27 fun v28=>
 xFa 1 v5 fun v29=>
 xSt w11 v29 v28 fun w14=>
 J12 [] w14) (J12 [] w11)) (fun _ w13=>
 ∀ _:Nat → Value,xFa 0 v2 fun v30=>
 xLd w13 v30 fun v31=>
 xEq .i64 v31 (.int .i64 3) fun v32=>
 cnd v32 (xFa 2 v2 fun v34=>
 xLd w13 v34 fun v35=>
 xIa 1 v1 v35 fun v36=>
 xLd w13 v36 fun v37=>
 xFa 2 v5 fun v38=>
 xSt w13 v38 v37 fun w15=>
 xLdA w15 4 v5 fun v39=>
 xStA Tryz.prog w15 4 v4 v39 fun w16=>
 xLdA w16 4 v4 fun r17=>
 R r17 w16) (xLdA w13 4 v5 fun v39=>
 xStA Tryz.prog w13 4 v4 v39 fun w18=>
 xLdA w18 4 v4 fun r19=>
 R r19 w18)))) ∧ (xNew (Value.cells (.agg #[(.int .i64 0),(.int .i64 0),(.int .i64 0),(.slice none 0 0)])) 45 w3 fun v5 w20=>
 Ext w3 w20 ∧ ∀ w21,Ext w20 w21 → callV Tryz.prog (.func (.func 31) #[] #[]) [v13] w21 fun v14 w22=>
 Ext w21 w22 ∧ aR #[(.int .i64 0),(.int .i64 0),(.int .i64 0),(.slice none 0 0)] #[(0,1),(1,1),(2,1),(3,1)] [(0,v7),(1,v9),(2,v11),(3,v14)] fun v15=>
 ∀ w23,Ext w22 w23 → xStA Tryz.prog w23 4 v5 v15 fun w24=>
 ∀ w25,Ext w24 w25 → jn (fun J26=>
 xFa 0 v2 fun v16=>
 xLd w25 v16 fun v17=>
 xEq .i64 v17 (.int .i64 3) fun v18=>
 cnd v18 (J26 [(.bool true)] w25) (xFa 0 v2 fun v20=>
 xLd w25 v20 fun v21=>
 xEq .i64 v21 (.int .i64 4) fun v22=>
 J26 [v22] w25)) (fun xs26 w27=>
 ∀ _:Nat → Value,jn (fun J28=>
 cnd (gx xs26 0) (xFa 1 v2 fun v25=>
 xLd w27 v25 fun v26=>
 xIa 1 v1 v26 fun v27=>
 xLd w27 v27 fun v28=>
 xFa 1 v5 fun v29=>
 xSt w27 v29 v28 fun w30=>
 J28 [] w30) (J28 [] w27)) (fun _ w29=>
 ∀ _:Nat → Value,xFa 0 v2 fun v30=>
 xLd w29 v30 fun v31=>
 xEq .i64 v31 (.int .i64 3) fun v32=>
 cnd v32 (xFa 2 v2 fun v34=>
 xLd w29 v34 fun v35=>
 xIa 1 v1 v35 fun v36=>
 xLd w29 v36 fun v37=>
 xFa 2 v5 fun v38=>
 xSt w29 v38 v37 fun w31=>
 xLdA w31 4 v5 fun v39=>
 xStA Tryz.prog w31 4 v4 v39 fun w32=>
 xLdA w32 4 v4 fun r33=>
 R r33 w32) (xLdA w29 4 v5 fun v39=>
 xStA Tryz.prog w29 4 v4 v39 fun w34=>
 xLdA w34 4 v4 fun r35=>
 R r35 w34))))
theorem PN {v0 v1:Value} {w:World} {R:Value → World → Prop} (h:EQ v0 v1 w R):Cal Tryz.prog E5 #[v0,v1] w R:=cD (h:=(.node none .leaf (.node none .leaf (.node none (.node none (.reg [] (some [23])) (.node (some []) .leaf .leaf)) .leaf)))) Tryz.func67 h
abbrev FB:FuncId:=68
def EZ (v0 v1 v2 v3:Value) (w:World) (R:Value → World → Prop):Prop:=
 callV Tryz.prog (.func (.func 43) #[] #[]) [v2,v3] w fun v16 w1=>
 callV Tryz.prog (.func (.func 43) #[] #[]) [v3,v16] w1 fun v17 w2=>
 callV Tryz.prog (.func (.func 45) #[] #[]) [v0,(.int .i64 1),(.int .i64 0),(.int .i64 0),v17] w2 fun v18 w3=>
 xEx v18 0 fun v19=>
 xEx v18 1 fun v20=>
 callV Tryz.prog (.func (.func 43) #[] #[]) [v2,v3] w3 fun v26 w4=>
 callV Tryz.prog (.func (.func 45) #[] #[]) [v19,(.int .i64 3),v20,v1,v26] w4 fun v27 w5=>
 xEx v27 0 fun v28=>
 xEx v27 1 fun v29=>
 R (.tuple #[v28,v29]) w5
theorem PM {v0 v1 v2 v3:Value} {w:World} {R:Value → World → Prop} (h:EZ v0 v1 v2 v3 w R):Cal Tryz.prog FB #[v0,v1,v2,v3] w R:=cD (h:=.leaf) Tryz.func68 h
abbrev CX:FuncId:=69
def EE (v0 v1:Value) (w:World) (R:Value → World → Prop):Prop:=
 callV Tryz.prog (.func (.func 43) #[] #[]) [v1,v1] w fun v15 w1=>
 callV Tryz.prog (.func (.func 43) #[] #[]) [v15,v1] w1 fun v19 w2=>
 callV Tryz.prog (.func (.func 43) #[] #[]) [v1,v19] w2 fun v20 w3=>
 callV Tryz.prog (.func (.func 43) #[] #[]) [v1,v15] w3 fun v23 w4=>
 callV Tryz.prog (.func (.func 45) #[] #[]) [v0,(.int .i64 1),(.int .i64 0),(.int .i64 0),v20] w4 fun v27 w5=>
 xEx v27 0 fun v28=>
 xEx v27 1 fun v29=>
 callV Tryz.prog (.func (.func 43) #[] #[]) [v23,v15] w5 fun v35 w6=>
 callV Tryz.prog (.func (.func 43) #[] #[]) [v20,v35] w6 fun v36 w7=>
 callV Tryz.prog (.func (.func 45) #[] #[]) [v28,(.int .i64 1),(.int .i64 1),(.int .i64 0),v36] w7 fun v37 w8=>
 xEx v37 0 fun v38=>
 xEx v37 1 fun v39=>
 callV Tryz.prog (.func (.func 43) #[] #[]) [v23,v15] w8 fun v46 w9=>
 callV Tryz.prog (.func (.func 45) #[] #[]) [v38,(.int .i64 3),v39,v29,v46] w9 fun v47 w10=>
 xEx v47 0 fun v48=>
 xEx v47 1 fun v49=>
 callV Tryz.prog (.func (.func 45) #[] #[]) [v48,(.int .i64 1),(.int .i64 0),(.int .i64 0),v23] w10 fun v53 w11=>
 xEx v53 0 fun v54=>
 xEx v53 1 fun v55=>
 callV Tryz.prog (.func (.func 45) #[] #[]) [v54,(.int .i64 3),v49,v55,v15] w11 fun v60 w12=>
 xEx v60 0 fun v61=>
 xEx v60 1 fun v62=>
 R (.tuple #[v61,v62]) w12
theorem QB {v0 v1:Value} {w:World} {R:Value → World → Prop} (h:EE v0 v1 w R):Cal Tryz.prog CX #[v0,v1] w R:=cD (h:=.leaf) Tryz.func69 h
abbrev mB:FuncId:=70
def lZ (v0 v1:Value) (w:World) (R:Value → World → Prop):Prop:=
 xNew (Value.cells v1) 3 w fun v3 w1=>
 xNil v0 fun v8=>
 xFa 2 v8 fun v9=>
 xLd w1 v9 fun v10=>
 xLd w1 v3 fun v11=>
 xIa 4 v10 v11 fun v12=>
 xLdA w1 4 v12 fun v13=>
 ∀ w2,Ext w1 w2 → xNew (Value.cells (.agg #[(.int .i64 0),(.int .i64 0),(.int .i64 0),(.slice none 0 0)])) 45 w2 fun v5 w3=>
 Ext w2 w3 ∧ ∀ w4,Ext w3 w4 → xStA Tryz.prog w4 4 v5 v13 fun w5=>
 ∀ w6,Ext w5 w6 → xFa 3 v5 fun v14=>
 xLd w6 v14 fun v15=>
 callV Tryz.prog (.func (.func 92) #[] #[]) [v15] w6 fun v16 w7=>
 xNot v16 fun v17=>
 cnd v17 (R (.bool false) w7) (xFa 0 v5 fun v19=>
 xLd w7 v19 fun v20=>
 xEq .i64 v20 (.int .i64 1) fun v22=>
 jn (fun J8=>
 cnd v22 (J8 [(.bool true)] w7) (xEq .i64 v20 (.int .i64 2) fun v23=>
 J8 [v23] w7)) (fun xs8 w9=>
 ∀ _:Nat → Value,cnd (gx xs8 0) (xLdA w9 4 v5 fun v25=>
 callV Tryz.prog (.func (.func 101) #[] #[]) [v0,v25] w9 fun v26 w10=>
 R v26 w10) (xEq .i64 v20 (.int .i64 3) fun v28=>
 cnd v28 (jn (fun J11=>
 xFa 1 v5 fun v30=>
 xLd w9 v30 fun v31=>
 ∀ w13,Ext w9 w13 → callV Tryz.prog (.func (.func 99) #[] #[v3]) [v31] w13 fun v32 w14=>
 cnd v32 (xFa 2 v5 fun v35=>
 xLd w14 v35 fun v36=>
 ∀ w15,Ext w14 w15 → callV Tryz.prog (.func (.func 99) #[] #[v3]) [v36] w15 fun v37 w16=>
 cnd v37 (xNil v0 fun v41=>
 xFa 2 v41 fun v42=>
 xLd w16 v42 fun v43=>
 xFa 1 v5 fun v44=>
 xLd w16 v44 fun v45=>
 xIa 4 v43 v45 fun v46=>
 xFa 3 v46 fun v47=>
 xLd w16 v47 fun v48=>
 xNil v0 fun v50=>
 xFa 2 v50 fun v51=>
 xLd w16 v51 fun v52=>
 xFa 2 v5 fun v53=>
 xLd w16 v53 fun v54=>
 xIa 4 v52 v54 fun v55=>
 xFa 3 v55 fun v56=>
 xLd w16 v56 fun v57=>
 xFa 3 v5 fun v58=>
 xLd w16 v58 fun v59=>
 ∀ w17,Ext w16 w17 → callV Tryz.prog (.func (.func 103) #[] #[]) [(.int .i64 4),v57,v59] w17 fun v60 w18=>
 Ext w17 w18 ∧ callQ Tryz.prog (.func (.func 102) #[] #[]) [v48,v60] w18 fun v61=>
 ∀ w19,Ext w18 w19 → J11 [v61] w19) (∀ w20,Ext w16 w20 → ∀ w21,Ext w20 w21 → J11 [(.bool false)] w21)) (∀ w22,Ext w14 w22 → ∀ w23,Ext w22 w23 → ∀ w24,Ext w23 w24 → J11 [(.bool false)] w24)) (fun xs11 w12=>
 ∀ _:Nat → Value,R (gx xs11 0) w12)) (xEq .i64 v20 (.int .i64 4) fun v64=>
 cnd v64 (jn (fun J25=>
 xNil v0 fun v66=>
 xFa 0 v66 fun v67=>
 xLd w9 v67 fun v68=>
 xStr .neq v68 (.string ⟨#[73,110,116]⟩) fun v69=>
 cnd v69 (xNil v0 fun v72=>
 xFa 0 v72 fun v73=>
 xLd w9 v73 fun v74=>
 xStr .neq v74 (.string ⟨#[67,76]⟩) fun v75=>
 cnd v75 (xFa 1 v5 fun v79=>
 xLd w9 v79 fun v80=>
 ∀ w27,Ext w9 w27 → callV Tryz.prog (.func (.func 99) #[] #[v3]) [v80] w27 fun v81 w28=>
 cnd v81 (xFa 2 v5 fun v84=>
 xLd w28 v84 fun v85=>
 xEq .i64 v85 (.int .i64 0) fun v86=>
 cnd v86 (xNil v0 fun v90=>
 xFa 3 v90 fun v91=>
 xLd w28 v91 fun v92=>
 xFa 1 v5 fun v93=>
 xLd w28 v93 fun v94=>
 xIa 1 v92 v94 fun v95=>
 xLd w28 v95 fun v96=>
 xLenS v96 fun v97=>
 xEq .i64 v97 (.int .i64 0) fun v98=>
 cnd v98 (xFa 3 v5 fun v101=>
 xLd w28 v101 fun v102=>
 xNil v0 fun v104=>
 xFa 2 v104 fun v105=>
 xLd w28 v105 fun v106=>
 xFa 1 v5 fun v107=>
 xLd w28 v107 fun v108=>
 xIa 4 v106 v108 fun v109=>
 xFa 3 v109 fun v110=>
 xLd w28 v110 fun v111=>
 ∀ w29,Ext w28 w29 → callV Tryz.prog (.func (.func 104) #[] #[]) [(.int .i64 5),v111] w29 fun v112 w30=>
 Ext w29 w30 ∧ callQ Tryz.prog (.func (.func 102) #[] #[]) [v102,v112] w30 fun v113=>
 ∀ w31,Ext w30 w31 → J25 [v113] w31) (∀ w32,Ext w28 w32 → ∀ w33,Ext w32 w33 → J25 [(.bool false)] w33)) (∀ w34,Ext w28 w34 → ∀ w35,Ext w34 w35 → J25 [(.bool false)] w35)) (∀ w36,Ext w28 w36 → ∀ w37,Ext w36 w37 → J25 [(.bool false)] w37)) (∀ w38,Ext w9 w38 → ∀ w39,Ext w38 w39 → ∀ w40,Ext w39 w40 → J25 [(.bool false)] w40)) (∀ w41,Ext w9 w41 → ∀ w42,Ext w41 w42 → ∀ w43,Ext w42 w43 → J25 [(.bool false)] w43)) (fun xs25 w26=>
 ∀ _:Nat → Value,R (gx xs25 0) w26)) (R (.bool false) w9)))))
theorem zK {v0 v1:Value} {w:World} {R:Value → World → Prop} (h:lZ v0 v1 w R):Cal Tryz.prog mB #[v0,v1] w R:=cD (h:=(.node none .leaf (.node none .leaf (.node none .leaf (.node none .leaf (.node none (.node none .leaf (.node none (.node none .leaf (.node (some [21]) .leaf .leaf)) (.node none .leaf (.node none .leaf (.node none (.node none (.reg [32] (some [4])) .leaf) (.node none .leaf (.node none (.node none (.reg [48] (some [4])) .leaf) .leaf))))))) .leaf)))))) Tryz.func70 h
abbrev pB:FuncId:=71
def oF (v0 v1:Value) (w:World) (R:Value → World → Prop):Prop:=
 xNew (Value.cells v1) 45 w fun v3 w1=>
 xFa 0 v3 fun v7=>
 xLd w1 v7 fun v8=>
 xEq .i64 v8 (.int .i64 2) fun v9=>
 jn (fun J2=>
 cnd v9 (xFa 1 v3 fun v11=>
 xLd w1 v11 fun v12=>
 xBs 2 (Value.cells (.int .i64 0)) 1 1 [(0,v12)] w1 fun v13 w4=>
 xOp Tryz.prog (Builtin.append_ #[51,51] 51 #[(.slice none 0 0),v13]) w4 fun v14 w5=>
 J2 [v14] w5) (J2 [(.slice none 0 0)] w1)) (fun xs2 w3=>
 ∀ _:Nat → Value,xLdA w3 4 v3 fun v15=>
 callV Tryz.prog (.func (.func 95) #[] #[]) [v15] w3 fun v16 w6=>
 xLenS v16 fun v17=>
 lp (fun K7 xs7 w8=>
 ∀ _:Nat → Value,xLt .i64 (gx xs7 1) v17 fun v19=>
 cnd v19 (xIa 1 v16 (gx xs7 1) fun v20=>
 xLd w8 v20 fun v21=>
 xNil v0 fun v24=>
 xFa 3 v24 fun v25=>
 xLd w8 v25 fun v26=>
 xIa 1 v26 v21 fun v28=>
 xLd w8 v28 fun v29=>
 xOp Tryz.prog (Builtin.append_ #[51,51] 51 #[(gx xs7 0),v29]) w8 fun v30 w9=>
 xAdd .i64 (gx xs7 1) (.int .i64 1) fun v31=>
 K7 [v30,v31] w9) (callV Tryz.prog (.func (.func 105) #[] #[]) [(gx xs7 0)] w8 fun _ w10=>
 ∃ D11:Nat → Prop,xNil v0 fun v36=>
 xFa 3 v36 fun v37=>
 xLd w10 v37 fun v38=>
 (∀ w12,Ch D11 w10 w12 → xLd w12 v37 fun u38=>
 u38 = v38) ∧ ∀ w13,Ext w10 w13 → callV Tryz.prog (.func (.func 106) #[] #[]) [(gx xs7 0)] w13 fun v40 w14=>
 Ch D11 w13 w14 ∧ ∀ w15,Ext w14 w15 → xBs 51 (Value.cells (.slice none 0 0)) 1 1 [(0,v40)] w15 fun v41 w16=>
 Ch D11 w15 w16 ∧ ∀ w17,Ext w16 w17 → xOp Tryz.prog (Builtin.append_ #[61,61] 61 #[v38,v41]) w17 fun v42 w18=>
 xNil v0 fun v43=>
 xFa 3 v43 fun v44=>
 ∀ w19,Ext w18 w19 → xSt w19 v44 v42 fun w20=>
 ∀ w21,Ext w20 w21 → R (.tuple #[]) w21)) [(gx xs2 0),(.int .i64 0)] w6)
theorem CF {v0 v1:Value} {w:World} {R:Value → World → Prop} (h:oF v0 v1 w R):Cal Tryz.prog pB #[v0,v1] w R:=cD (h:=(.node none .leaf (.node none .leaf (.node none (.node none .leaf (.node (some [4]) .leaf .leaf)) (.node none (.node none .leaf (.node (some [4,18]) .leaf .leaf)) (.node none .leaf (.regE [] none))))))) Tryz.func71 h
abbrev nG:FuncId:=72
def fE (v0:Value) (w:World) (R:Value → World → Prop):Prop:=
 xNilS true v0 (.slice none 0 0) fun v4=>
 cnd v4 (R (.slice none 0 0) w) (xBs 72 (Value.cells (.agg #[(.int .i64 0),(.int .i64 0)])) 2 0 [] w fun v5 w1=>
 xOp Tryz.prog (Builtin.append_ #[33,33] 33 #[v5,v0]) w1 fun v7 w2=>
 R v7 w2)
theorem mY {v0:Value} {w:World} {R:Value → World → Prop} (h:fE v0 w R):Cal Tryz.prog nG #[v0] w R:=cD (h:=.leaf) Tryz.func72 h
abbrev C0:FuncId:=73
def EW (v0:Value) (w:World) (R:Value → World → Prop):Prop:=
 lp (fun K1 xs1 w2=>
 ∀ _:Nat → Value,xLenS v0 fun v6=>
 xLt .i64 (gx xs1 0) v6 fun v7=>
 cnd v7 (jn (fun J3=>
 xIa 2 v0 (gx xs1 0) fun v12=>
 xFa 0 v12 fun v13=>
 xLd w2 v13 fun v14=>
 callV Tryz.prog (.func (.func 33) #[] #[]) [v14,(.int .i64 0),(.int .i64 6)] w2 fun v15 w5=>
 xNot v15 fun v16=>
 cnd v16 (J3 [(.bool true)] w5) (xIa 2 v0 (gx xs1 0) fun v20=>
 xFa 1 v20 fun v21=>
 xLd w5 v21 fun v22=>
 callV Tryz.prog (.func (.func 33) #[] #[]) [v22,(.int .i64 0),(.int .i64 5)] w5 fun v23 w6=>
 xNot v23 fun v24=>
 cnd v24 (J3 [(.bool true)] w6) (xIa 2 v0 (gx xs1 0) fun v29=>
 xFa 0 v29 fun v30=>
 xLd w6 v30 fun v31=>
 xNe .i64 v31 (.int .i64 0) fun v32=>
 cnd v32 (xIa 2 v0 (gx xs1 0) fun v36=>
 xFa 1 v36 fun v37=>
 xLd w6 v37 fun v38=>
 xNe .i64 v38 (.int .i64 0) fun v39=>
 J3 [v39] w6) (J3 [(.bool false)] w6)))) (fun xs3 w4=>
 ∀ _:Nat → Value,cnd (gx xs3 0) (R (.bool false) w4) (xAdd .i64 (gx xs1 0) (.int .i64 1) fun v9=>
 K1 [v9] w4))) (jn (fun J7=>
 xLenS v0 fun v43=>
 xLt .i64 (.int .i64 0) v43 fun v44=>
 cnd v44 (callV Tryz.prog (.func (.func 86) #[] #[]) [v0,(.int .i64 0)] w2 fun v47 w9=>
 xLenS v0 fun v49=>
 xEq .i64 v47 v49 fun v50=>
 J7 [v50] w9) (J7 [(.bool false)] w2)) (fun xs7 w8=>
 ∀ _:Nat → Value,R (gx xs7 0) w8))) [(.int .i64 0)] w
theorem QL {v0:Value} {w:World} {R:Value → World → Prop} (h:EW v0 w R):Cal Tryz.prog C0 #[v0] w R:=cD (h:=(.node none .leaf (.node none (.node none .leaf (.node (some [3]) (.node none .leaf (.node none (.node none (.reg [] (some [41])) .leaf) .leaf)) .leaf)) (.node none (.reg [] (some [2])) .leaf)))) Tryz.func73 h
abbrev l9:FuncId:=74
def mG (v0:Value) (w:World) (R:Value → World → Prop):Prop:=
 callV Tryz.prog (.func (.func 77) #[] #[]) [v0] w fun v5 w1=>
 xNe .i64 v5 (.int .i64 0) fun v7=>
 cnd v7 (R v5 w1) (callV Tryz.prog (.func (.func 107) #[] #[]) [v0] w1 fun v10 w2=>
 xLenS v10 fun v11=>
 xLt .i64 (.int .i64 20) v11 fun v12=>
 cnd v12 (R (.int .i64 3) w2) (R (.int .i64 0) w2))
theorem zI {v0:Value} {w:World} {R:Value → World → Prop} (h:mG v0 w R):Cal Tryz.prog l9 #[v0] w R:=cD (h:=.leaf) Tryz.func74 h
abbrev BE:FuncId:=75
def BA (v0 v1:Value) (w:World) (R:Value → World → Prop):Prop:=
 callV Tryz.prog (.func (.func 108) #[] #[]) [] w fun v5 w1=>
 callV Tryz.prog (.func (.func 109) #[] #[]) [v5,v0,v1] w1 fun v8 w2=>
 R v8 w2
theorem OV {v0 v1:Value} {w:World} {R:Value → World → Prop} (h:BA v0 v1 w R):Cal Tryz.prog BE #[v0,v1] w R:=cD (h:=.leaf) Tryz.func75 h
abbrev LQ:FuncId:=76
def LW (v0:Value) (w:World) (R:Value → World → Prop):Prop:=
 callV Tryz.prog (.func (.func 110) #[] #[]) [v0,(.int .i64 0)] w fun v4 w1=>
 R v4 w1
theorem UA {v0:Value} {w:World} {R:Value → World → Prop} (h:LW v0 w R):Cal Tryz.prog LQ #[v0] w R:=cD (h:=.leaf) Tryz.func76 h
abbrev yY:FuncId:=77
def z5 (v0:Value) (w:World) (R:Value → World → Prop):Prop:=
 callV Tryz.prog (.func (.func 56) #[] #[]) [v0] w fun v5 w1=>
 xNot v5 fun v6=>
 cnd v6 (R (.int .i64 1) w1) (callV Tryz.prog (.func (.func 90) #[] #[]) [v0,(.func (.func 111) #[] #[])] w1 fun v9 w2=>
 cnd v9 (R (.int .i64 5) w2) (R (.int .i64 0) w2))
theorem NN {v0:Value} {w:World} {R:Value → World → Prop} (h:z5 v0 w R):Cal Tryz.prog yY #[v0] w R:=cD (h:=.leaf) Tryz.func77 h
abbrev AY:FuncId:=78
def eY (v0:Value) (w:World) (R:Value → World → Prop):Prop:=
 xIa 2 v0 (.int .i64 0) fun v4=>
 xFa 0 v4 fun v5=>
 xLd w v5 fun v6=>
 xEq .i64 v6 (.int .i64 0) fun v8=>
 cnd v8 (xIa 2 v0 (.int .i64 0) fun v10=>
 xFa 1 v10 fun v11=>
 xLd w v11 fun v12=>
 callV Tryz.prog (.func (.func 113) #[] #[]) [v12] w fun v13 w1=>
 R v13 w1) (xEq .i64 v6 (.int .i64 1) fun v15=>
 cnd v15 (R (.int .u64 0) w) (xEq .i64 v6 (.int .i64 2) fun v17=>
 cnd v17 (callV Tryz.prog (.func (.func 114) #[] #[]) [v0] w fun v19 w2=>
 callV Tryz.prog (.func (.func 78) #[] #[]) [v19] w2 fun v20 w3=>
 callV Tryz.prog (.func (.func 115) #[] #[]) [v0] w3 fun v22 w4=>
 callV Tryz.prog (.func (.func 78) #[] #[]) [v22] w4 fun v23 w5=>
 xBits iAnd .u64 v20 v23 fun v24=>
 R v24 w5) (xEq .i64 v6 (.int .i64 3) fun v26=>
 cnd v26 (callV Tryz.prog (.func (.func 114) #[] #[]) [v0] w fun v28 w6=>
 callV Tryz.prog (.func (.func 78) #[] #[]) [v28] w6 fun v29 w7=>
 callV Tryz.prog (.func (.func 115) #[] #[]) [v0] w7 fun v31 w8=>
 callV Tryz.prog (.func (.func 78) #[] #[]) [v31] w8 fun v32 w9=>
 xBits iOr .u64 v29 v32 fun v33=>
 R v33 w9) (callV Tryz.prog (.func (.func 114) #[] #[]) [v0] w fun v35 w10=>
 callV Tryz.prog (.func (.func 78) #[] #[]) [v35] w10 fun v36 w11=>
 xR Tryz.prog w11 (Op.unary .xor v36) fun v37=>
 callV Tryz.prog (.func (.func 115) #[] #[]) [v0] w11 fun v39 w12=>
 callV Tryz.prog (.func (.func 78) #[] #[]) [v39] w12 fun v40 w13=>
 xBits iOr .u64 v37 v40 fun v41=>
 R v41 w13))))
theorem iL {v0:Value} {w:World} {R:Value → World → Prop} (h:eY v0 w R):Cal Tryz.prog AY #[v0] w R:=cD (h:=.leaf) Tryz.func78 h
abbrev pZ:FuncId:=79
def pV (v0 v1:Value) (w:World) (R:Value → World → Prop):Prop:=
 callV Tryz.prog (.func (.func 116) #[] #[]) [v0] w fun v7 w1=>
 xNot v7 fun v8=>
 cnd v8 (R (.int .i64 2) w1) (callV Tryz.prog (.func (.func 117) #[] #[]) [v1,(.func (.func 118) #[] #[])] w1 fun v11 w2=>
 cnd v11 (R (.int .i64 1) w2) (callV Tryz.prog (.func (.func 117) #[] #[]) [v1,(.func (.func 120) #[] #[])] w2 fun v14 w3=>
 cnd v14 (R (.int .i64 3) w3) (R (.int .i64 0) w3)))
theorem D7 {v0 v1:Value} {w:World} {R:Value → World → Prop} (h:pV v0 v1 w R):Cal Tryz.prog pZ #[v0,v1] w R:=cD (h:=.leaf) Tryz.func79 h
abbrev qQ:FuncId:=80
def p7 (v0 v1:Value) (w:World) (R:Value → World → Prop):Prop:=
 xNew (Value.cells v1) 79 w fun v3 w1=>
 xLdA w1 2 v3 fun v6=>
 callV Tryz.prog (.func (.func 122) #[] #[]) [v0,v6] w1 fun v7 w2=>
 callV Tryz.prog (.func (.func 123) #[] #[]) [v7] w2 fun v8 w3=>
 xLt .i64 v8 (.int .i64 0) fun v9=>
 R v9 w3
theorem EK {v0 v1:Value} {w:World} {R:Value → World → Prop} (h:p7 v0 v1 w R):Cal Tryz.prog qQ #[v0,v1] w R:=cD (h:=.leaf) Tryz.func80 h
abbrev wE:FuncId:=81
def wB (v0:Value) (w:World) (R:Value → World → Prop):Prop:=
 callV Tryz.prog (.func (.func 32) #[] #[]) [v0] w fun v5 w1=>
 xNot v5 fun v6=>
 cnd v6 (R (.tuple #[(.string ⟨#[]⟩),(.int .i64 1)]) w1) (callV Tryz.prog (.func (.func 89) #[] #[]) [v0] w1 fun v8 w2=>
 R (.tuple #[v8,(.int .i64 0)]) w2)
theorem I0 {v0:Value} {w:World} {R:Value → World → Prop} (h:wB v0 w R):Cal Tryz.prog wE #[v0] w R:=cD (h:=.leaf) Tryz.func81 h
abbrev DJ:FuncId:=82
def C2 (v0 v1 v2 v3:Value) (w:World) (R:Value → World → Prop):Prop:=
 jn (fun J1=>
 xLe .i64 v1 (.int .i64 2) fun v12=>
 cnd v12 (J1 [(.bool true)] w) (callV Tryz.prog (.func (.func 17) #[] #[]) [v0,(.int .i64 9)] w fun v15 w3=>
 xEq .i64 v15 (.int .i64 0) fun v16=>
 J1 [v16] w3)) (fun xs1 w2=>
 ∀ _:Nat → Value,cnd (gx xs1 0) (callV Tryz.prog (.func (.func 17) #[] #[]) [v0,(.int .i64 8)] w2 fun v19 w4=>
 xEq .i64 v19 (.int .i64 0) fun v20=>
 cnd v20 (callV Tryz.prog (.func (.func 124) #[] #[]) [] w4 fun v21 w5=>
 R v21 w5) (callV Tryz.prog (.func (.func 17) #[] #[]) [v0,v2] w4 fun v24 w6=>
 callV Tryz.prog (.func (.func 83) #[] #[]) [v24] w6 fun v25 w7=>
 R v25 w7)) (jn (fun J8=>
 cnd v3 (callV Tryz.prog (.func (.func 17) #[] #[]) [v0,(.int .i64 3)] w2 fun v29 w10=>
 xEq .i64 v29 (.int .i64 0) fun v30=>
 J8 [v30] w10) (J8 [(.bool false)] w2)) (fun xs8 w9=>
 ∀ _:Nat → Value,cnd (gx xs8 0) (callV Tryz.prog (.func (.func 17) #[] #[]) [v0,(.int .i64 2)] w9 fun v33 w11=>
 xAdd .i64 (.int .i64 5) v33 fun v34=>
 xSub .i64 v1 (.int .i64 1) fun v37=>
 callV Tryz.prog (.func (.func 82) #[] #[]) [v0,v37,v2,v3] w11 fun v40 w12=>
 callV Tryz.prog (.func (.func 48) #[] #[]) [v34,v40] w12 fun v41 w13=>
 R v41 w13) (callV Tryz.prog (.func (.func 17) #[] #[]) [v0,(.int .i64 6)] w9 fun v43 w14=>
 xEq .i64 v43 (.int .i64 0) fun v44=>
 cnd v44 (xSub .i64 v1 (.int .i64 2) fun v47=>
 callV Tryz.prog (.func (.func 82) #[] #[]) [v0,v47,v2,v3] w14 fun v50 w15=>
 callV Tryz.prog (.func (.func 125) #[] #[]) [v50] w15 fun v51 w16=>
 R v51 w16) (xSub .i64 v1 (.int .i64 2) fun v54=>
 callV Tryz.prog (.func (.func 17) #[] #[]) [v0,v54] w14 fun v55 w17=>
 xAdd .i64 (.int .i64 1) v55 fun v56=>
 callV Tryz.prog (.func (.func 82) #[] #[]) [v0,v56,v2,v3] w17 fun v61 w18=>
 callV Tryz.prog (.func (.func 17) #[] #[]) [v0,(.int .i64 3)] w18 fun v63 w19=>
 xAdd .i64 (.int .i64 2) v63 fun v64=>
 xSub .i64 v1 (.int .i64 1) fun v68=>
 xSub .i64 v68 v56 fun v70=>
 callV Tryz.prog (.func (.func 82) #[] #[]) [v0,v70,v2,v3] w19 fun v73 w20=>
 callV Tryz.prog (.func (.func 35) #[] #[]) [v64,v61,v73] w20 fun v74 w21=>
 R v74 w21)))))
theorem QW {v0 v1 v2 v3:Value} {w:World} {R:Value → World → Prop} (h:C2 v0 v1 v2 v3 w R):Cal Tryz.prog DJ #[v0,v1,v2,v3] w R:=cD (h:=(.node none .leaf (.node none (.node none (.reg [] (some [17])) .leaf) (.node none (.node none (.reg [] (some [31])) .leaf) .leaf)))) Tryz.func82 h
abbrev G8:FuncId:=83
def GW (v0:Value) (w:World) (R:Value → World → Prop):Prop:=
 aR #[(.int .i64 0),(.int .i64 0)] #[(0,1),(1,1)] [(0,(.int .i64 0)),(1,v0)] fun v4=>
 xBs 72 (Value.cells (.agg #[(.int .i64 0),(.int .i64 0)])) 2 1 [(0,v4)] w fun v5 w1=>
 R v5 w1
theorem R0 {v0:Value} {w:World} {R:Value → World → Prop} (h:GW v0 w R):Cal Tryz.prog G8 #[v0] w R:=cD (h:=.leaf) Tryz.func83 h
abbrev GF:FuncId:=84
def GV (v0:Value) (w:World) (R:Value → World → Prop):Prop:=
 xBs 2 (Value.cells (.int .i64 0)) 1 0 [] w fun v3 w1=>
 xOp Tryz.prog (Builtin.append_ #[51,51] 51 #[v3,v0]) w1 fun v5 w2=>
 R v5 w2
theorem RX {v0:Value} {w:World} {R:Value → World → Prop} (h:GV v0 w R):Cal Tryz.prog GF #[v0] w R:=cD (h:=.leaf) Tryz.func84 h
abbrev GH:FuncId:=85
def HD (v0 v1:Value) (w:World) (R:Value → World → Prop):Prop:=
 lp (fun K1 xs1 w2=>
 ∀ _:Nat → Value,xLenS v0 fun v8=>
 xLt .i64 (gx xs1 0) v8 fun v9=>
 cnd v9 (xIa 1 v0 (gx xs1 0) fun v14=>
 xLd w2 v14 fun v15=>
 xEq .i64 v15 v1 fun v17=>
 cnd v17 (R (.bool true) w2) (xAdd .i64 (gx xs1 0) (.int .i64 1) fun v11=>
 K1 [v11] w2)) (R (.bool false) w2)) [(.int .i64 0)] w
theorem RY {v0 v1:Value} {w:World} {R:Value → World → Prop} (h:HD v0 v1 w R):Cal Tryz.prog GH #[v0,v1] w R:=cD (h:=(.node none .leaf (.node none (.node none .leaf (.node (some [5]) .leaf .leaf)) .leaf))) Tryz.func85 h
abbrev t7:FuncId:=86
def uG (v0 v1:Value) (w:World) (R:Value → World → Prop):Prop:=
 lp (fun K1 xs1 w2=>
 ∀ _:Nat → Value,xLt .i64 (.int .i64 0) (gx xs1 1) fun v7=>
 cnd v7 (xLenS v0 fun v10=>
 xLe .i64 v10 (gx xs1 0) fun v11=>
 cnd v11 (R (.int .i64 (-1)) w2) (xSub .i64 (gx xs1 1) (.int .i64 1) fun v13=>
 xIa 2 v0 (gx xs1 0) fun v16=>
 xFa 0 v16 fun v17=>
 xLd w2 v17 fun v18=>
 callV Tryz.prog (.func (.func 126) #[] #[]) [v18] w2 fun v19 w3=>
 xAdd .i64 v13 v19 fun v20=>
 xAdd .i64 (gx xs1 0) (.int .i64 1) fun v22=>
 K1 [v22,v20] w3)) (R (gx xs1 0) w2)) [v1,(.int .i64 1)] w
theorem E9 {v0 v1:Value} {w:World} {R:Value → World → Prop} (h:uG v0 v1 w R):Cal Tryz.prog t7 #[v0,v1] w R:=cD (h:=(.node none .leaf (.node none .leaf (.node none (.node (some [1,5]) .leaf .leaf) .leaf)))) Tryz.func86 h
abbrev D0:FuncId:=87
def DB (v0 v1:Value) (w:World) (R:Value → World → Prop):Prop:=
 xLenS v1 fun v8=>
 callV Tryz.prog (.func (.func 17) #[] #[]) [v0,v8] w fun v9 w1=>
 xIa 1 v1 v9 fun v10=>
 xLd w1 v10 fun v11=>
 R v11 w1
theorem QV {v0 v1:Value} {w:World} {R:Value → World → Prop} (h:DB v0 v1 w R):Cal Tryz.prog D0 #[v0,v1] w R:=cD (h:=.leaf) Tryz.func87 h
abbrev tI:FuncId:=88
def tE (v0:Value) (w:World) (R:Value → World → Prop):Prop:=
 xLenT v0 fun v8=>
 xLt .i64 (.int .i64 200) v8 fun v9=>
 cnd v9 (R (.tuple #[(.slice none 0 0),(.int .i64 0),(.int .i64 3)]) w) (callV Tryz.prog (.func (.func 127) #[] #[]) [v0] w fun v12 w1=>
 xEx v12 0 fun v13=>
 xEx v12 1 fun v14=>
 xLe .i64 (.int .i64 0) v14 fun v17=>
 cnd v17 (R (.tuple #[(.slice none 0 0),v14,(.int .i64 6)]) w1) (xLenS v13 fun v21=>
 xLt .i64 (.int .i64 40) v21 fun v22=>
 cnd v22 (R (.tuple #[(.slice none 0 0),(.int .i64 0),(.int .i64 3)]) w1) (R (.tuple #[v13,(.int .i64 0),(.int .i64 0)]) w1)))
theorem HJ {v0:Value} {w:World} {R:Value → World → Prop} (h:tE v0 w R):Cal Tryz.prog tI #[v0] w R:=cD (h:=.leaf) Tryz.func88 h
abbrev C1:FuncId:=89
def FE (v0:Value) (w:World) (R:Value → World → Prop):Prop:=
 callV Tryz.prog (.func (.func 128) #[] #[]) [v0,(.int .i64 0)] w fun v4 w1=>
 R v4 w1
theorem QN {v0:Value} {w:World} {R:Value → World → Prop} (h:FE v0 w R):Cal Tryz.prog C1 #[v0] w R:=cD (h:=.leaf) Tryz.func89 h
abbrev aZ:FuncId:=90
def cS (v0 v1:Value) (w:World) (R:Value → World → Prop):Prop:=
 callV Tryz.prog (.func (.func 129) #[] #[]) [v0,v1] w fun v7 w1=>
 xLe .i64 (.int .i64 0) v7 fun v8=>
 R v8 w1
theorem i4 {v0 v1:Value} {w:World} {R:Value → World → Prop} (h:cS v0 v1 w R):Cal Tryz.prog aZ #[v0,v1] w R:=cD (h:=.leaf) Tryz.func90 h
abbrev F8:FuncId:=91
def rC (v0:Value) (w:World) (R:Value → World → Prop):Prop:=
 callV Tryz.prog (.func (.func 92) #[] #[]) [v0] w fun v4 w1=>
 xNot v4 fun v5=>
 R v5 w1
theorem FF {v0:Value} {w:World} {R:Value → World → Prop} (h:rC v0 w R):Cal Tryz.prog F8 #[v0] w R:=cD (h:=.leaf) Tryz.func91 h
abbrev zA:FuncId:=92
def AC (v0:Value) (w:World) (R:Value → World → Prop):Prop:=
 jn (fun J1=>
 xLenS v0 fun v4=>
 xLe .i64 (.int .i64 1) v4 fun v5=>
 cnd v5 (xLenS v0 fun v8=>
 xLe .i64 v8 (.int .i64 40) fun v9=>
 cnd v9 (callV Tryz.prog (.func (.func 130) #[] #[]) [v0,(.func (.func 131) #[] #[])] w fun v13 w3=>
 xNot v13 fun v14=>
 cnd v14 (callV Tryz.prog (.func (.func 133) #[] #[]) [v0,(.int .i64 0)] w3 fun v18 w4=>
 xLenS v0 fun v20=>
 xEq .i64 v18 v20 fun v21=>
 J1 [v21] w4) (J1 [(.bool false)] w3)) (J1 [(.bool false)] w)) (J1 [(.bool false)] w)) (fun xs1 w2=>
 ∀ _:Nat → Value,R (gx xs1 0) w2)
theorem NJ {v0:Value} {w:World} {R:Value → World → Prop} (h:AC v0 w R):Cal Tryz.prog zA #[v0] w R:=cD (h:=(.node none .leaf (.node none (.reg [] (some [2])) .leaf))) Tryz.func92 h
abbrev dL:FuncId:=93
def dN (v0 v1:Value) (w:World) (R:Value → World → Prop):Prop:=
 xLenS v0 fun v7=>
 lp (fun K1 xs1 w2=>
 ∀ _:Nat → Value,xLt .i64 (gx xs1 0) v7 fun v9=>
 cnd v9 (xIa 1 v0 (gx xs1 0) fun v14=>
 xLd w2 v14 fun v15=>
 callV Tryz.prog v1 [v15] w2 fun v16 w3=>
 cnd v16 (R (gx xs1 0) w3) (xAdd .i64 (gx xs1 0) (.int .i64 1) fun v18=>
 K1 [v18] w3)) (R (.int .i64 (-1)) w2)) [(.int .i64 0)] w
theorem j6 {v0 v1:Value} {w:World} {R:Value → World → Prop} (h:dN v0 v1 w R):Cal Tryz.prog dL #[v0,v1] w R:=cD (h:=(.node none .leaf (.node none (.node none .leaf (.node (some [8]) .leaf .leaf)) .leaf))) Tryz.func93 h
abbrev B2:FuncId:=94
def BT (v0 v1:Value) (w:World) (R:Value → World → Prop):Prop:=
 xLenS v0 fun v9=>
 lp (fun K1 xs1 w2=>
 ∀ _:Nat → Value,xLt .i64 (gx xs1 1) v9 fun v11=>
 cnd v11 (xIa 1 v0 (gx xs1 1) fun v12=>
 xLd w2 v12 fun v13=>
 xIa 1 v1 v13 fun v17=>
 xLd w2 v17 fun v18=>
 xBs 2 (Value.cells (.int .i64 0)) 1 1 [(0,v18)] w2 fun v19 w3=>
 xOp Tryz.prog (Builtin.append_ #[51,51] 51 #[(gx xs1 0),v19]) w3 fun v20 w4=>
 xAdd .i64 (gx xs1 1) (.int .i64 1) fun v21=>
 K1 [v20,v21] w4) (R (gx xs1 0) w2)) [(.slice none 0 0),(.int .i64 0)] w
theorem O1 {v0 v1:Value} {w:World} {R:Value → World → Prop} (h:BT v0 v1 w R):Cal Tryz.prog B2 #[v0,v1] w R:=cD (h:=(.node none .leaf (.node none .leaf (.node none (.node none .leaf (.node (some [5,10]) .leaf .leaf)) .leaf)))) Tryz.func94 h
abbrev kK:FuncId:=95
def rK (v0:Value) (w:World) (R:Value → World → Prop):Prop:=
 xNew (Value.cells v0) 45 w fun v1 w1=>
 xFa 0 v1 fun v3=>
 xLd w1 v3 fun v4=>
 xEq .i64 v4 (.int .i64 3) fun v6=>
 cnd v6 (xFa 1 v1 fun v7=>
 xLd w1 v7 fun v8=>
 xFa 2 v1 fun v9=>
 xLd w1 v9 fun v10=>
 xBs 2 (Value.cells (.int .i64 0)) 1 2 [(0,v8),(1,v10)] w1 fun v11 w2=>
 R v11 w2) (xEq .i64 v4 (.int .i64 4) fun v13=>
 cnd v13 (xFa 1 v1 fun v14=>
 xLd w1 v14 fun v15=>
 xBs 2 (Value.cells (.int .i64 0)) 1 1 [(0,v15)] w1 fun v16 w3=>
 R v16 w3) (R (.slice none 0 0) w1))
theorem FR {v0:Value} {w:World} {R:Value → World → Prop} (h:rK v0 w R):Cal Tryz.prog kK #[v0] w R:=cD (h:=.leaf) Tryz.func95 h
abbrev jX:FuncId:=96
def qW (v0:Value) (w:World) (R:Value → World → Prop):Prop:=
 xLenS v0 fun v7=>
 xSub .i64 v7 (.int .i64 1) fun v8=>
 xIa 1 v0 v8 fun v9=>
 xLd w v9 fun v10=>
 xLenS v0 fun v12=>
 xSub .i64 v12 (.int .i64 2) fun v13=>
 lp (fun K1 xs1 w2=>
 ∀ _:Nat → Value,xLe .i64 (.int .i64 0) (gx xs1 1) fun v15=>
 cnd v15 (xIa 1 v0 (gx xs1 1) fun v20=>
 xLd w2 v20 fun v21=>
 callV Tryz.prog (.func (.func 103) #[] #[]) [(.int .i64 4),v21,(gx xs1 0)] w2 fun v23 w3=>
 xSub .i64 (gx xs1 1) (.int .i64 1) fun v17=>
 K1 [v23,v17] w3) (R (gx xs1 0) w2)) [v10,v13] w
theorem zV {v0:Value} {w:World} {R:Value → World → Prop} (h:qW v0 w R):Cal Tryz.prog jX #[v0] w R:=cD (h:=(.node none .leaf (.node none .leaf (.node none (.node none .leaf (.node (some [3,4]) .leaf .leaf)) .leaf)))) Tryz.func96 h
abbrev pY:FuncId:=97
def qM (v0:Value) (w:World) (R:Value → World → Prop):Prop:=
 xLenS v0 fun v4=>
 R v4 w
theorem E4 {v0:Value} {w:World} {R:Value → World → Prop} (h:qM v0 w R):Cal Tryz.prog pY #[v0] w R:=cD (h:=.leaf) Tryz.func97 h
abbrev DU:FuncId:=98
def C4 (v0 v1 v2 v3:Value) (w:World) (R:Value → World → Prop):Prop:=
 xIa 4 v2 v3 fun v14=>
 xLdA w 4 v14 fun v15=>
 xNew (Value.cells (.agg #[(.int .i64 0),(.int .i64 0),(.int .i64 0),(.slice none 0 0)])) 45 w fun v9 w1=>
 xStA Tryz.prog w1 4 v9 v15 fun w2=>
 xFa 3 v9 fun v16=>
 xLd w2 v16 fun v17=>
 callV Tryz.prog (.func (.func 32) #[] #[]) [v17] w2 fun v18 w3=>
 xNot v18 fun v19=>
 cnd v19 (R (.bool false) w3) (xFa 1 v9 fun v20=>
 xLd w3 v20 fun v21=>
 xSub .i64 v3 (.int .i64 1) fun v23=>
 callV Tryz.prog (.func (.func 33) #[] #[]) [v21,(.int .i64 0),v23] w3 fun v24 w4=>
 xFa 0 v9 fun v25=>
 xLd w4 v25 fun v26=>
 xEq .i64 v26 (.int .i64 1) fun v28=>
 cnd v28 (jn (fun J5=>
 xFa 2 v9 fun v29=>
 xLd w4 v29 fun v30=>
 xEq .i64 v30 (.int .i64 0) fun v31=>
 cnd v31 (xFa 1 v9 fun v35=>
 xLd w4 v35 fun v36=>
 ∀ w7,Ext w4 w7 → callV Tryz.prog (.func (.func 41) #[] #[]) [v0] w7 fun v34 w8=>
 Ext w7 w8 ∧ callQ Tryz.prog (.func (.func 85) #[] #[]) [v34,v36] w8 fun v37=>
 cnd v37 (xFa 1 v9 fun v40=>
 xLd w8 v40 fun v41=>
 xFa 3 v9 fun v42=>
 xLd w8 v42 fun v43=>
 callQ Tryz.prog (.func (.func 134) #[] #[]) [v41,v43] w8 fun v44=>
 ∀ w9,Ext w8 w9 → J5 [v44] w9) (∀ w10,Ext w8 w10 → J5 [(.bool false)] w10)) (∀ w11,Ext w4 w11 → ∀ w12,Ext w11 w12 → J5 [(.bool false)] w12)) (fun xs5 w6=>
 ∀ _:Nat → Value,R (gx xs5 0) w6)) (xEq .i64 v26 (.int .i64 2) fun v47=>
 cnd v47 (jn (fun J13=>
 xFa 2 v9 fun v48=>
 xLd w4 v48 fun v49=>
 xEq .i64 v49 (.int .i64 0) fun v50=>
 cnd v50 (xFa 1 v9 fun v52=>
 xLd w4 v52 fun v53=>
 xLenS v1 fun v55=>
 xSub .i64 v55 (.int .i64 1) fun v56=>
 callQ Tryz.prog (.func (.func 33) #[] #[]) [v53,(.int .i64 0),v56] w4 fun v57=>
 cnd v57 (xFa 1 v9 fun v61=>
 xLd w4 v61 fun v62=>
 xIa 1 v1 v62 fun v63=>
 xLd w4 v63 fun v64=>
 xFa 3 v9 fun v65=>
 xLd w4 v65 fun v66=>
 callQ Tryz.prog (.func (.func 49) #[] #[]) [v64,v66] w4 fun v67=>
 ∀ w15,Ext w4 w15 → J13 [v67] w15) (∀ w16,Ext w4 w16 → J13 [(.bool false)] w16)) (∀ w17,Ext w4 w17 → J13 [(.bool false)] w17)) (fun xs13 w14=>
 ∀ _:Nat → Value,R (gx xs13 0) w14)) (xEq .i64 v26 (.int .i64 3) fun v70=>
 cnd v70 (jn (fun J18=>
 xNot v24 fun v72=>
 cnd v72 (J18 [(.bool true)] w4) (xFa 2 v9 fun v74=>
 xLd w4 v74 fun v75=>
 xSub .i64 v3 (.int .i64 1) fun v77=>
 callV Tryz.prog (.func (.func 33) #[] #[]) [v75,(.int .i64 0),v77] w4 fun v78 w20=>
 xNot v78 fun v79=>
 J18 [v79] w20)) (fun xs18 w19=>
 ∀ _:Nat → Value,cnd (gx xs18 0) (R (.bool false) w19) (xFa 2 v9 fun v82=>
 xLd w19 v82 fun v83=>
 xIa 4 v2 v83 fun v84=>
 xFa 3 v84 fun v85=>
 xLd w19 v85 fun v86=>
 xFa 1 v9 fun v88=>
 xLd w19 v88 fun v89=>
 xIa 4 v2 v89 fun v90=>
 xFa 3 v90 fun v91=>
 xLd w19 v91 fun v92=>
 xFa 3 v9 fun v94=>
 xLd w19 v94 fun v95=>
 ∀ w21,Ext w19 w21 → callV Tryz.prog (.func (.func 35) #[] #[]) [(.int .i64 4),v86,v95] w21 fun v96 w22=>
 Ext w21 w22 ∧ callQ Tryz.prog (.func (.func 49) #[] #[]) [v92,v96] w22 fun v97=>
 ∀ w23,Ext w22 w23 → R v97 w23))) (xEq .i64 v26 (.int .i64 4) fun v99=>
 cnd v99 (jn (fun J24=>
 xFa 2 v9 fun v100=>
 xLd w4 v100 fun v101=>
 xNe .i64 v101 (.int .i64 0) fun v102=>
 cnd v102 (∀ w26,Ext w4 w26 → ∀ w27,Ext w26 w27 → J24 [(.bool true)] w27) (xNot v24 fun v105=>
 cnd v105 (∀ w28,Ext w4 w28 → ∀ w29,Ext w28 w29 → J24 [(.bool true)] w29) (xStr .eql v0 (.string ⟨#[73,110,116]⟩) fun v109=>
 cnd v109 (∀ w30,Ext w4 w30 → ∀ w31,Ext w30 w31 → J24 [(.bool true)] w31) (xStr .eql v0 (.string ⟨#[67,76]⟩) fun v113=>
 cnd v113 (∀ w32,Ext w4 w32 → ∀ w33,Ext w32 w33 → J24 [(.bool true)] w33) (xFa 3 v9 fun v116=>
 xLd w4 v116 fun v117=>
 xFa 1 v9 fun v119=>
 xLd w4 v119 fun v120=>
 xIa 4 v2 v120 fun v121=>
 xFa 3 v121 fun v122=>
 xLd w4 v122 fun v123=>
 ∀ w34,Ext w4 w34 → callV Tryz.prog (.func (.func 48) #[] #[]) [(.int .i64 5),v123] w34 fun v124 w35=>
 Ext w34 w35 ∧ callQ Tryz.prog (.func (.func 49) #[] #[]) [v117,v124] w35 fun v125=>
 xNot v125 fun v126=>
 ∀ w36,Ext w35 w36 → J24 [v126] w36))))) (fun xs24 w25=>
 ∀ _:Nat → Value,cnd (gx xs24 0) (R (.bool false) w25) (xSl 4 v2 none (some v3) fun v130=>
 xFa 1 v9 fun v132=>
 xLd w25 v132 fun v133=>
 ∀ w37,Ext w25 w37 → callV Tryz.prog (.func (.func 47) #[] #[]) [v130] w37 fun v131 w38=>
 Ext w37 w38 ∧ xIa 1 v131 v133 fun v134=>
 xLd w38 v134 fun v135=>
 xLenS v135 fun v136=>
 xEq .i64 v136 (.int .i64 0) fun v137=>
 ∀ w39,Ext w38 w39 → R v137 w39))) (R (.bool false) w4)))))
theorem QM {v0 v1 v2 v3:Value} {w:World} {R:Value → World → Prop} (h:C4 v0 v1 v2 v3 w R):Cal Tryz.prog DU #[v0,v1,v2,v3] w R:=cD (h:=(.node none .leaf (.node none .leaf (.node none .leaf (.node none .leaf (.node none (.node none .leaf (.node none .leaf (.node none (.node none (.reg [8,15] (some [8])) .leaf) (.node none .leaf (.node none (.node none (.reg [9,19] (some [8])) .leaf) (.node none .leaf (.node none (.node none (.node none (.reg [] (some [80])) .leaf) (.node none .leaf (.node none (.reg [10] none) .leaf))) (.node none .leaf (.node none (.node none (.node none (.reg [25] (some [127])) .leaf) .leaf) .leaf))))))))) .leaf)))))) Tryz.func98 h
abbrev lE:FuncId:=99
def lC (v0 v1:Value) (w:World) (R:Value → World → Prop):Prop:=
 xLd w v1 fun v5=>
 xSub .i64 v5 (.int .i64 1) fun v6=>
 callV Tryz.prog (.func (.func 100) #[] #[]) [v0,(.int .i64 0),v6] w fun v7 w1=>
 R v7 w1
theorem wW {v0 v1:Value} {w:World} {R:Value → World → Prop} (h:lC v0 v1 w R):Cal Tryz.prog lE #[v0,v1] w R:=cD (h:=.leaf) Tryz.func99 h
abbrev EA:FuncId:=100
def DN (v0 v1 v2:Value) (w:World) (R:Value → World → Prop):Prop:=
 jn (fun J1=>
 xLe .i64 v1 v0 fun v9=>
 cnd v9 (xLe .i64 v0 v2 fun v13=>
 J1 [v13] w) (J1 [(.bool false)] w)) (fun xs1 w2=>
 ∀ _:Nat → Value,R (gx xs1 0) w2)
theorem PU {v0 v1 v2:Value} {w:World} {R:Value → World → Prop} (h:DN v0 v1 v2 w R):Cal Tryz.prog EA #[v0,v1,v2] w R:=cD (h:=(.node none .leaf (.node none (.reg [] (some [6])) .leaf))) Tryz.func100 h
abbrev i9:FuncId:=101
def jD (v0 v1:Value) (w:World) (R:Value → World → Prop):Prop:=
 xNew (Value.cells v1) 45 w fun v3 w1=>
 xFa 2 v3 fun v7=>
 xLd w1 v7 fun v8=>
 xNe .i64 v8 (.int .i64 0) fun v9=>
 cnd v9 (R (.bool false) w1) (xFa 0 v3 fun v10=>
 xLd w1 v10 fun v11=>
 xEq .i64 v11 (.int .i64 2) fun v12=>
 cnd v12 (jn (fun J2=>
 xFa 1 v3 fun v13=>
 xLd w1 v13 fun v14=>
 xNil v0 fun v16=>
 xFa 1 v16 fun v17=>
 xLd w1 v17 fun v18=>
 callQ Tryz.prog (.func (.func 62) #[] #[]) [v18] w1 fun v19=>
 xSub .i64 v19 (.int .i64 1) fun v20=>
 callQ Tryz.prog (.func (.func 100) #[] #[]) [v14,(.int .i64 0),v20] w1 fun v21=>
 cnd v21 (xNil v0 fun v24=>
 xFa 1 v24 fun v25=>
 xLd w1 v25 fun v26=>
 xFa 1 v3 fun v27=>
 xLd w1 v27 fun v28=>
 xIa 1 v26 v28 fun v29=>
 xLd w1 v29 fun v30=>
 xFa 3 v3 fun v31=>
 xLd w1 v31 fun v32=>
 callQ Tryz.prog (.func (.func 102) #[] #[]) [v30,v32] w1 fun v33=>
 ∀ w4,Ext w1 w4 → J2 [v33] w4) (∀ w5,Ext w1 w5 → J2 [(.bool false)] w5)) (fun xs2 w3=>
 ∀ _:Nat → Value,R (gx xs2 0) w3)) (xNil v0 fun v37=>
 xFa 0 v37 fun v38=>
 xLd w1 v38 fun v39=>
 callV Tryz.prog (.func (.func 55) #[] #[]) [v39] w1 fun v40 w6=>
 xEx v40 0 fun v41=>
 xEx v40 1 fun _=>
 jn (fun J7=>
 xFa 1 v3 fun v44=>
 xLd w6 v44 fun v45=>
 callV Tryz.prog (.func (.func 135) #[] #[]) [v41,v45] w6 fun v46 w9=>
 cnd v46 (xFa 1 v3 fun v48=>
 xLd w9 v48 fun v49=>
 xFa 3 v3 fun v50=>
 xLd w9 v50 fun v51=>
 callV Tryz.prog (.func (.func 136) #[] #[]) [v49,v51] w9 fun v52 w10=>
 J7 [v52] w10) (J7 [(.bool false)] w9)) (fun xs7 w8=>
 ∀ _:Nat → Value,R (gx xs7 0) w8)))
theorem sE {v0 v1:Value} {w:World} {R:Value → World → Prop} (h:jD v0 v1 w R):Cal Tryz.prog i9 #[v0,v1] w R:=cD (h:=(.node none .leaf (.node none .leaf (.node none (.node none .leaf (.node none (.node none (.reg [6,8,20] (some [4])) .leaf) .leaf)) (.node none .leaf (.node none (.reg [] (some [4])) .leaf)))))) Tryz.func101 h
abbrev LM:FuncId:=102
def LO (v0 v1:Value) (w:World) (R:Value → World → Prop):Prop:=
 callV Tryz.prog (.func (.func 137) #[] #[]) [v0,v1] w fun v7 w1=>
 R v7 w1
theorem T6 {v0 v1:Value} {w:World} {R:Value → World → Prop} (h:LO v0 v1 w R):Cal Tryz.prog LM #[v0,v1] w R:=cD (h:=.leaf) Tryz.func102 h
abbrev MB:FuncId:=103
def LV (v0 v1 v2:Value) (w:World) (R:Value → World → Prop):Prop:=
 aR #[(.int .i64 0),(.int .i64 0)] #[(0,1),(1,1)] [(0,v0),(1,(.int .i64 0))] fun v8=>
 xBs 72 (Value.cells (.agg #[(.int .i64 0),(.int .i64 0)])) 2 1 [(0,v8)] w fun v9 w1=>
 xBs 33 (Value.cells (.slice none 0 0)) 1 3 [(0,v9),(1,v1),(2,v2)] w1 fun v12 w2=>
 callV Tryz.prog (.func (.func 107) #[] #[]) [v12] w2 fun v13 w3=>
 R v13 w3
theorem UG {v0 v1 v2:Value} {w:World} {R:Value → World → Prop} (h:LV v0 v1 v2 w R):Cal Tryz.prog MB #[v0,v1,v2] w R:=cD (h:=.leaf) Tryz.func103 h
abbrev HH:FuncId:=104
def GZ (v0 v1:Value) (w:World) (R:Value → World → Prop):Prop:=
 aR #[(.int .i64 0),(.int .i64 0)] #[(0,1),(1,1)] [(0,v0),(1,(.int .i64 0))] fun v6=>
 xBs 72 (Value.cells (.agg #[(.int .i64 0),(.int .i64 0)])) 2 1 [(0,v6)] w fun v7 w1=>
 xBs 33 (Value.cells (.slice none 0 0)) 1 2 [(0,v7),(1,v1)] w1 fun v9 w2=>
 callV Tryz.prog (.func (.func 107) #[] #[]) [v9] w2 fun v10 w3=>
 R v10 w3
theorem SJ {v0 v1:Value} {w:World} {R:Value → World → Prop} (h:GZ v0 v1 w R):Cal Tryz.prog HH #[v0,v1] w R:=cD (h:=.leaf) Tryz.func104 h
abbrev pI:FuncId:=105
def pD (v0:Value) (w:World) (R:Value → World → Prop):Prop:=
 xLenS v0 fun v4=>
 xConv .u64 v4 fun v8=>
 callV Tryz.prog (.func (.func 139) #[] #[]) [v8] w fun v9 w1=>
 callV Tryz.prog (.func (.func 138) #[] #[]) [v0,(.int .i64 0),v4,v9] w1 fun _ w2=>
 R (.tuple #[]) w2
theorem CO {v0:Value} {w:World} {R:Value → World → Prop} (h:pD v0 w R):Cal Tryz.prog pI #[v0] w R:=cD (h:=.leaf) Tryz.func105 h
abbrev lN:FuncId:=106
def lR (v0:Value) (w:World) (R:Value → World → Prop):Prop:=
 xLenS v0 fun v7=>
 xLt .i64 v7 (.int .i64 2) fun v8=>
 cnd v8 (R v0 w) (lp (fun K1 xs1 w2=>
 ∀ _:Nat → Value,xLenS v0 fun v12=>
 xLt .i64 (gx xs1 0) v12 fun v13=>
 cnd v13 (xIa 1 v0 (gx xs1 0) fun v18=>
 xLd w2 v18 fun v19=>
 xSub .i64 (gx xs1 0) (.int .i64 1) fun v22=>
 xIa 1 v0 v22 fun v23=>
 xLd w2 v23 fun v24=>
 xEq .i64 v19 v24 fun v25=>
 ∀ w3,Ext w2 w3 → cnd v25 (xSl 1 v0 (some (gx xs1 0)) none fun v28=>
 lp (fun K4 xs4 w5=>
 ∀ _:Nat → Value,xLenS v28 fun v31=>
 xLt .i64 (gx xs4 1) v31 fun v32=>
 cnd v32 (xIa 1 v28 (gx xs4 1) fun v37=>
 xLd w5 v37 fun v38=>
 xSub .i64 (gx xs4 1) (.int .i64 1) fun v41=>
 xIa 1 v28 v41 fun v42=>
 xLd w5 v42 fun v43=>
 xNe .i64 v38 v43 fun v44=>
 ∀ w6,Ext w5 w6 → cnd v44 (xIa 1 v28 (gx xs4 1) fun v49=>
 xLd w6 v49 fun v50=>
 xIa 1 v0 (gx xs4 0) fun v51=>
 xSt w6 v51 v50 fun w7=>
 xAdd .i64 (gx xs4 0) (.int .i64 1) fun v53=>
 xAdd .i64 (gx xs4 1) (.int .i64 1) fun v34=>
 K4 [v53,v34] w7) (xAdd .i64 (gx xs4 1) (.int .i64 1) fun v34=>
 K4 [(gx xs4 0),v34] w6)) (xSl 1 v0 (some (gx xs4 0)) none fun v56=>
 xOp Tryz.prog (Builtin.clear_ #[51] 0 #[v56]) w5 fun _ w8=>
 xSl 1 v0 none (some (gx xs4 0)) fun v59=>
 R v59 w8)) [(gx xs1 0),(.int .i64 1)] w3) (xAdd .i64 (gx xs1 0) (.int .i64 1) fun v15=>
 K1 [v15] w3)) (R v0 w2)) [(.int .i64 1)] w)
theorem yQ {v0:Value} {w:World} {R:Value → World → Prop} (h:lR v0 w R):Cal Tryz.prog lN #[v0] w R:=cD (h:=(.node none .leaf (.node none .leaf (.node none (.node none .leaf (.node (some [3]) (.node none .leaf (.node none (.node none .leaf (.node none (.node none .leaf (.node none (.node none .leaf (.node (some [3,5]) .leaf .leaf)) .leaf)) .leaf)) .leaf)) .leaf)) .leaf)))) Tryz.func106 h
abbrev eM:FuncId:=107
def eU (v0:Value) (w:World) (R:Value → World → Prop):Prop:=
 xLenS v0 fun v10=>
 lp (fun K1 xs1 w2=>
 ∀ _:Nat → Value,xLt .i64 (gx xs1 1) v10 fun v12=>
 cnd v12 (xIa 1 v0 (gx xs1 1) fun v13=>
 xLd w2 v13 fun v14=>
 xLenS v14 fun v17=>
 xAdd .i64 (gx xs1 0) v17 fun v18=>
 xLt .i64 v18 (.int .i64 0) fun v20=>
 cnd v20 (False) (xAdd .i64 (gx xs1 1) (.int .i64 1) fun v22=>
 K1 [v18,v22] w2)) (callV Tryz.prog (.func (.func 140) #[] #[]) [(.slice none 0 0),(gx xs1 0)] w2 fun v24 w4=>
 xLenS v0 fun v26=>
 lp (fun K5 xs5 w6=>
 ∀ _:Nat → Value,xLt .i64 (gx xs5 1) v26 fun v28=>
 cnd v28 (xIa 1 v0 (gx xs5 1) fun v29=>
 xLd w6 v29 fun v30=>
 xOp Tryz.prog (Builtin.append_ #[33,33] 33 #[(gx xs5 0),v30]) w6 fun v33 w7=>
 xAdd .i64 (gx xs5 1) (.int .i64 1) fun v34=>
 K5 [v33,v34] w7) (R (gx xs5 0) w6)) [v24,(.int .i64 0)] w4)) [(.int .i64 0),(.int .i64 0)] w
theorem mR {v0:Value} {w:World} {R:Value → World → Prop} (h:eU v0 w R):Cal Tryz.prog eM #[v0] w R:=cD (h:=(.node none .leaf (.node none .leaf (.node none (.node none .leaf (.node (some [3,11]) .leaf .leaf)) (.node none .leaf (.node none (.node none .leaf (.node (some [6,27]) .leaf .leaf)) .leaf)))))) Tryz.func107 h
abbrev xI:FuncId:=108
def yB (w:World) (R:Value → World → Prop):Prop:=
 xOp Tryz.prog (Instr.makeMap 159 none) w fun v1 w1=>
 aR #[(.map none)] #[(0,1)] [(0,v1)] fun v2=>
 xNew (Value.cells v2) 161 w1 fun v3 w2=>
 R v3 w2
theorem KP {w:World} {R:Value → World → Prop} (h:yB w R):Cal Tryz.prog xI #[] w R:=cD (h:=.leaf) Tryz.func108 h
abbrev nL:FuncId:=109
def nI (v0 v1 v2:Value) (w:World) (R:Value → World → Prop):Prop:=
 callV Tryz.prog (.func (.func 142) #[] #[]) [v1,(.slice none 0 0)] w fun v9 w1=>
 aR #[(.slice none 0 0),(.string ⟨#[]⟩)] #[(0,1),(1,1)] [(0,v9),(1,v2)] fun v11=>
 callV Tryz.prog (.func (.func 141) #[] #[]) [v0,v11] w1 fun v12 w2=>
 R v12 w2
theorem AU {v0 v1 v2:Value} {w:World} {R:Value → World → Prop} (h:nI v0 v1 v2 w R):Cal Tryz.prog nL #[v0,v1,v2] w R:=cD (h:=.leaf) Tryz.func109 h
end Go.Proofs.YtbfpohbmgjcjmaaGreatDoor
