/- The proof of FnImagesKeepValidityCard, part 1 of 7. Conditions: none. -/
import Derived.Scope
import Derived.Still
import Derived.Below
import Derived.KernelRfl
import Derived.Deep.LoopGhost
import Derived.Laws.AppendOwn
import Derived.Laws.OwnMore
import Derived.Laws.MakeOwn
import Derived.IntWalk
import Derived.Maps.AppendAt
import Derived.Test.YtaipnnkpplinoaaGreatDoorRows
namespace Go.Vc
open Go.RowKit (Below)

def Ext (w w' : World) : Prop := Below w.heap.size w w'
theorem Ext.refl (w : World) : Ext w w := Below.refl _ _
theorem Ext.trans {a b c : World} (h : Ext a b) (k : Ext b c) : Ext a c := Below.trans h (Below.mono k h.size)
theorem Ext.size {a b : World} (h : Ext a b) : a.heap.size ≤ b.heap.size := Below.size h
theorem Ext.cell {a b : World} (h : Ext a b) {p : Addr} {v : Value} (hp : a.cell? p = some v) : b.cell? p = some v := by
  rw [Below.cell h (World.block_lt_of_cell? a p hp)]; exact hp
theorem Ext.alloc (w : World) (o : Obj) : Ext w (w.alloc o) := Below.alloc (Below.refl _ _) (Nat.le_refl _) o
theorem Ext.drew (w : World) : Ext w w.drew := Below.drew (Below.refl _ _)

/-! ### The names of a frame -/
structure En where
  s : Nat
  v : Value
  k : Option (Option Bool)
abbrev Env := List En
def look : Env → Nat → Value
  | [], _ => undef
  | e :: r, n => bif Nat.beq e.s n then e.v else look r n
def known : Env → Nat → Option (Option Bool)
  | [], _ => none
  | e :: r, n => bif Nat.beq e.s n then e.k else known r n
def ev (env : Env) : Operand → Value
  | .tmp t => look env t
  | .const v => v
  | .global g => .pointer (some ⟨g, 0, none⟩)
  | .func f => .func (.func f) #[] #[]
def kv : Option Bool → Value
  | some b => .bool b
  | none => undef
def evk (env : Env) : Operand → Option (Option Bool)
  | .tmp t => known env t
  | .const (.bool b) => some (some b)
  | _ => none
def oev (env : Env) : Option Operand → Option Value
  | none => none
  | some x => some (ev env x)
def EnvOk (env : Env) : Prop := ∀ s x, known env s = some x → look env s = kv x

/-! ### What is asked of a value -/
def xPick (c a b : Value) (K : Value → Prop) : Prop := ∃ t, c = .bool t ∧ K (if t then a else b)
def okNil : Value → Prop
  | .pointer (some _) => True
  | .func (.func _) _ _ => True
  | _ => False
def xNil (x : Value) (K : Value → Prop) : Prop := okNil x ∧ K x
def xLd (w : World) (x : Value) (K : Value → Prop) : Prop := ∃ ad v, x = .pointer (some ad) ∧ w.cell? ad = some v ∧ K v
def xLdA (w : World) (n : Nat) (x : Value) (K : Value → Prop) : Prop := ∃ ad cs, x = .pointer (some ad) ∧ cs.size = n ∧ (∀ i, i < n → w.cell? (ad.add i) = cs[i]?) ∧ K (.agg cs)
def xFa (off : Nat) (x : Value) (K : Value → Prop) : Prop := ∃ ad, x = .pointer (some ad) ∧ K (.pointer (some (ad.add off)))
def xFd (off : Nat) (x : Value) (K : Value → Prop) : Prop := ∃ cs v, x = .agg cs ∧ cs[off]? = some v ∧ K v
def xFdA (off n : Nat) (x : Value) (K : Value → Prop) : Prop := ∃ cs, x = .agg cs ∧ K (.agg (cs.extract off (off + n)))
def xIa (sz : Nat) (x i : Value) (K : Value → Prop) : Prop := ∃ ad n c k j, x = .slice (some ad) n c ∧ i = .int k j ∧ 0 ≤ j ∧ j < n ∧ K (.pointer (some (ad.add (j.toNat * sz))))
def xIaA (len sz : Nat) (x i : Value) (K : Value → Prop) : Prop := ∃ ad k j, x = .pointer (some ad) ∧ i = .int k j ∧ 0 ≤ j ∧ j < len ∧ K (.pointer (some (ad.add (j.toNat * sz))))
def xIs (x i : Value) (K : Value → Prop) : Prop := ∃ s k j b, x = .string s ∧ i = .int k j ∧ 0 ≤ j ∧ s[j.toNat]? = some b ∧ K (.int .u8 (b.toNat : Nat))
def xAdd (k : IntKind) (x y : Value) (K : Value → Prop) : Prop := ∃ a b, x = .int k a ∧ y = .int k b ∧ K (.int k (k.wrap (a + b)))
def xSub (k : IntKind) (x y : Value) (K : Value → Prop) : Prop := ∃ a b, x = .int k a ∧ y = .int k b ∧ K (.int k (k.wrap (a - b)))
def xMul (k : IntKind) (x y : Value) (K : Value → Prop) : Prop := ∃ a b, x = .int k a ∧ y = .int k b ∧ K (.int k (k.wrap (a * b)))
def xQuo (k : IntKind) (x y : Value) (K : Value → Prop) : Prop := ∃ a b, x = .int k a ∧ y = .int k b ∧ b ≠ 0 ∧ K (.int k (k.wrap (a.tdiv b)))
def xRem (k : IntKind) (x y : Value) (K : Value → Prop) : Prop := ∃ a b, x = .int k a ∧ y = .int k b ∧ b ≠ 0 ∧ K (.int k (a.tmod b))
def iAnd (k : IntKind) (a b : Int) : Int := k.wrap ((BitVec.ofInt k.bits a &&& BitVec.ofInt k.bits b).toNat : Nat)
def iOr (k : IntKind) (a b : Int) : Int := k.wrap ((BitVec.ofInt k.bits a ||| BitVec.ofInt k.bits b).toNat : Nat)
def iXor (k : IntKind) (a b : Int) : Int := k.wrap ((BitVec.ofInt k.bits a ^^^ BitVec.ofInt k.bits b).toNat : Nat)
def iAndNot (k : IntKind) (a b : Int) : Int := k.wrap ((BitVec.ofInt k.bits a &&& ~~~ BitVec.ofInt k.bits b).toNat : Nat)
def iShl (k : IntKind) (a b : Int) : Int := k.wrap (a * 2 ^ min b.toNat k.bits)
def iShr (k : IntKind) (a b : Int) : Int := a.fdiv (2 ^ min b.toNat k.bits)
def xBits (f : IntKind → Int → Int → Int) (k : IntKind) (x y : Value) (K : Value → Prop) : Prop := ∃ a b, x = .int k a ∧ y = .int k b ∧ K (.int k (f k a b))
def xSh (f : IntKind → Int → Int → Int) (k : IntKind) (x y : Value) (K : Value → Prop) : Prop := ∃ a yk b, x = .int k a ∧ y = .int yk b ∧ 0 ≤ b ∧ K (.int k (f k a b))
def xEq (k : IntKind) (x y : Value) (K : Value → Prop) : Prop := ∃ a b, x = .int k a ∧ y = .int k b ∧ K (.bool (decide (a = b)))
def xNe (k : IntKind) (x y : Value) (K : Value → Prop) : Prop := ∃ a b, x = .int k a ∧ y = .int k b ∧ K (.bool (decide (¬ a = b)))
def xLt (k : IntKind) (x y : Value) (K : Value → Prop) : Prop := ∃ a b, x = .int k a ∧ y = .int k b ∧ K (.bool (decide (a < b)))
def xLe (k : IntKind) (x y : Value) (K : Value → Prop) : Prop := ∃ a b, x = .int k a ∧ y = .int k b ∧ K (.bool (decide (a ≤ b)))
def xBoolEq (p : Bool) (x y : Value) (K : Value → Prop) : Prop := ∃ a b, x = .bool a ∧ y = .bool b ∧ K (.bool (p == (a == b)))
def xStr (op : BinOp) (x y : Value) (K : Value → Prop) : Prop := ∃ a b v, x = .string a ∧ y = .string b ∧ Op.stringOp op a b = .pure v ∧ K v
def isNilS : Value → Bool
  | .slice none _ _ => true
  | _ => false
def isSl : Value → Prop
  | .slice _ _ _ => True
  | _ => False
def xNilS (p : Bool) (x y : Value) (K : Value → Prop) : Prop := isSl x ∧ y = .slice none 0 0 ∧ K (.bool (p == isNilS x))
def xNot (x : Value) (K : Value → Prop) : Prop := ∃ b, x = .bool b ∧ K (.bool (!b))
def xConv (k : IntKind) (x : Value) (K : Value → Prop) : Prop := ∃ k' a, x = .int k' a ∧ K (.int k (k.wrap a))
def bnd (d : Nat) (r : Nat) : Option Value → Prop
  | none => r = d
  | some v => ∃ k, v = .int k (r : Int)
def xSl (sz : Nat) (x : Value) (lo hi : Option Value) (K : Value → Prop) : Prop :=
  ∃ a n c l h, x = .slice a n c ∧ bnd n h hi ∧ bnd 0 l lo ∧ l ≤ h ∧ h ≤ c ∧ K (.slice (if c = l then a else a.map (·.add (l * sz))) (h - l) (c - l))
def xSlS (x : Value) (lo hi : Option Value) (K : Value → Prop) : Prop :=
  ∃ s l h, x = .string s ∧ bnd s.size h hi ∧ bnd 0 l lo ∧ l ≤ h ∧ h ≤ s.size ∧ K (.string (s.extract l h))
def xEx (x : Value) (i : Nat) (K : Value → Prop) : Prop := ∃ vs v, x = .tuple vs ∧ vs[i]? = some v ∧ K v
def xBuild (z : Array Value) (places : Array (Nat × Nat)) (ps : List (Nat × Value)) (K : Value → Prop) : Prop := ∃ cs, Instr.fill (places[·]?) z ps = some cs ∧ K (.agg cs)
def xLenS (x : Value) (K : Value → Prop) : Prop := ∃ a n c, x = .slice a n c ∧ K (.int .i64 (n : Nat))
def xLenT (x : Value) (K : Value → Prop) : Prop := ∃ s, x = .string s ∧ K (.int .i64 (s.size : Nat))
def xMax (x y : Value) (K : Value → Prop) : Prop := ∃ k a k' b, x = .int k a ∧ y = .int k' b ∧ K (.int k (if b > a then b else a))
def xMin (x y : Value) (K : Value → Prop) : Prop := ∃ k a k' b, x = .int k a ∧ y = .int k' b ∧ K (.int k (if b < a then b else a))
def xR (P : Program) (w : World) (s : Sem Value) (K : Value → Prop) : Prop := ∃ v, (∀ w', Ext w w' → s.run P w' = .ok v w') ∧ K v

/-! ### What writes, makes memory or calls -/
def xNew (cs : Array Value) (e : TypeId) (w : World) (K : Value → World → Prop) : Prop := K (.pointer (some ⟨w.heap.size, 0, none⟩)) (w.alloc (.cells cs e))
def isCell : Value → Bool
  | .agg _ | .tuple _ => false
  | _ => true
def xSt (w : World) (a v : Value) (K : World → Prop) : Prop := ∃ ad old, a = .pointer (some ad) ∧ w.cell? ad = some old ∧ w.frozen? ad = false ∧ isCell v = true ∧ K (w.setCell ad v)
def xStA (P : Program) (w : World) (n : Nat) (a v : Value) (K : World → Prop) : Prop :=
  ∃ ad w', a = .pointer (some ad) ∧ v.cells.size = n ∧ (storeCells ad v.cells.toList).run P w = .ok () w' ∧ K w'
def xMk (e : TypeId) (z : Array Value) (sz bytes : Nat) (l c : Value) (w : World) (K : Value → World → Prop) : Prop :=
  ∃ k k' ln cn, l = .int k (ln : Nat) ∧ c = .int k' (cn : Nat) ∧ ln ≤ cn ∧ (cn : Int) ≤ 9223372036854775807 ∧ (bytes : Int) * cn ≤ 2 ^ 48 ∧
    K (.slice (some ⟨w.heap.size, 0, none⟩) ln cn) (w.alloc (.cells ((Array.range (cn * sz)).map (fun i => z[i % z.size]!)) e))
def xBs (e : TypeId) (z : Array Value) (sz n : Nat) (ps : List (Nat × Value)) (w : World) (K : Value → World → Prop) : Prop :=
  ∃ cs, Instr.fill (fun i => some (i * sz, sz)) ((Array.range (n * sz)).map (fun i => z[i % z.size]!)) ps = some cs ∧
    K (.slice (some ⟨w.heap.size, 0, none⟩) n n) (w.alloc (.cells cs e))
def xOp (P : Program) (s : Sem Value) (w : World) (K : Value → World → Prop) : Prop := ∃ v w', s.run P w = .ok v w' ∧ K v w'
def xOpU (P : Program) (s : Sem Unit) (w : World) (K : World → Prop) : Prop := ∃ w', s.run P w = .ok () w' ∧ K w'
def HasB (P : Program) (f : FuncId) : Prop := ∃ fn, P.funcs[f]? = some fn ∧ (fn.name == "runtime.NumGoroutine") = false ∧ fn.body.isNone = false
def Cal (P : Program) (f : FuncId) (args : Array Value) (w : World) (R : Value → World → Prop) : Prop :=
  HasB P f ∧ Calls P f args w fun e w' => ∃ v, e = .returned v ∧ R v w'
def callT (P : Program) (fv : Value) (args : List Value) (w : World) (T : Value → World → Prop) : Prop :=
  (∃ f first cap, fv = .func (.func f) first cap ∧ Cal P f (first ++ args.toArray ++ cap) w T) ∨
  ∃ f first cap v, fv = .func (.func f) first cap ∧ (callFunc f (first ++ args.toArray ++ cap)).run P w = .ok (.value v) w ∧ T v w
def callV (P : Program) (fv : Value) (args : List Value) (w : World) (R : Value → World → Prop) : Prop := ∃ T, callT P fv args w T ∧ ∀ v w', T v w' → R v w'
def callQ (P : Program) (fv : Value) (args : List Value) (w : World) (K : Value → Prop) : Prop :=
  ∃ v, (∀ w', Ext w w' → callV P fv args w' fun v' w'' => v' = v ∧ Ext w' w'') ∧ K v
theorem Cal.mono {P : Program} {f : FuncId} {args : Array Value} {w : World} {R R' : Value → World → Prop} (h : Cal P f args w R) (hr : ∀ v w', R v w' → R' v w') : Cal P f args w R' :=
  ⟨h.1, h.2.mono fun _ _ ⟨v, he, hR⟩ => ⟨v, he, hr _ _ hR⟩⟩
theorem callV.mono {P : Program} {fv : Value} {args : List Value} {w : World} {R R' : Value → World → Prop} (h : callV P fv args w R) (hr : ∀ v w', R v w' → R' v w') : callV P fv args w R' :=
  let ⟨T, h1, h2⟩ := h; ⟨T, h1, fun v w' ht => hr v w' (h2 v w' ht)⟩

/-! ### Control -/
def cnd (v : Value) (A B : Prop) : Prop := ∃ b, v = .bool b ∧ (b = true → A) ∧ (b = false → B)
def gx : List Value → Nat → Value
  | [], _ => undef
  | x :: _, 0 => x
  | _ :: r, i + 1 => gx r i
theorem gx_eq : ∀ (xs : List Value) (i : Nat), gx xs i = xs.getD i undef
  | [], _ => rfl
  | _ :: _, 0 => rfl
  | _ :: r, i + 1 => by simpa [gx] using gx_eq r i
def jn (F : (List Value → World → Prop) → Prop) (K : List Value → World → Prop) : Prop := F K
def lp (body : (List Value → World → Prop) → List Value → World → Prop) (xs0 : List Value) (w0 : World) : Prop :=
  ∃ I : Nat → List Value → World → Prop, (∃ m, I m xs0 w0) ∧ ∀ m xs w, I m xs w → body (fun xs' w' => ∃ m', m' < m ∧ I m' xs' w') xs w

/-! ### One operation -/
def isAgg? (P : Program) (t : TypeId) : Option Bool :=
  match P.underlying t with
  | some (.struct _) => some true
  | some (.array _ _) => some true
  | some _ => some false
  | none => none
def intD (op : BinOp) (k : IntKind) (x y : Value) (K : Value → Prop) : Prop :=
  match op with
  | .add => xAdd k x y K
  | .sub => xSub k x y K
  | .mul => xMul k x y K
  | .quo => xQuo k x y K
  | .rem => xRem k x y K
  | .and => xBits iAnd k x y K
  | .or => xBits iOr k x y K
  | .xor => xBits iXor k x y K
  | .andNot => xBits iAndNot k x y K
  | .shl => xSh iShl k x y K
  | .shr => xSh iShr k x y K
  | .eql => xEq k x y K
  | .neq => xNe k x y K
  | .lss => xLt k x y K
  | .leq => xLe k x y K
  | .gtr => xLt k y x K
  | .geq => xLe k y x K
def binD (P : Program) (w : World) (op : BinOp) (t : TypeId) (xo yo : Operand) (x y : Value) (K : Value → Prop) : Prop :=
  match P.underlying t with
  | some (.int k) => intD op k x y K
  | some .bool => (match op with | .eql => xBoolEq true x y K | .neq => xBoolEq false x y K | _ => False)
  | some .string => xStr op x y K
  | some (.slice _) => (match op with | .eql => xNilS true x y K | .neq => xNilS false x y K | _ => False)
  | some _ => xR P w (do eqGuard op t xo yo x y; binOp op t x y) K
  | none => False
def ldD (P : Program) (w : World) (t : TypeId) (x : Value) (K : Value → Prop) : Prop :=
  match isAgg? P t, P.info? t with
  | some true, some i => xLdA w i.size x K
  | some false, _ => xLd w x K
  | _, _ => False
def fldD (P : Program) (s : TypeId) (f : Nat) (K : Nat → Nat → Bool → Prop) : Prop :=
  match P.underlying s with
  | some (.struct fs) => (match fs[f]? with
    | some fl => (match P.info? fl.type, isAgg? P fl.type with
      | some i, some g => if Nat.beq i.size 0 then False else K fl.offset i.size g
      | _, _ => False)
    | none => False)
  | _ => False
def elemD (P : Program) (t : TypeId) (S A : Nat → Nat → Prop) (T : Prop) : Prop :=
  match P.underlying t with
  | some (.slice e) => (match P.info? e with | some i => S i.size i.bytes | none => False)
  | some (.array len e) => (match P.info? e with | some i => A len i.size | none => False)
  | some .string => T
  | _ => False
def placesOf (P : Program) : List Field → Option (List (Nat × Nat))
  | [] => some []
  | f :: r => match P.info? f.type, placesOf P r with
    | some i, some l => some ((f.offset, i.size) :: l)
    | _, _ => none
def partsOf (env : Env) (ps : Array (Nat × Operand)) : List (Nat × Value) := ps.toList.map fun p => (p.1, ev env p.2)
def evs (env : Env) (l : Array Operand) : List Value := l.toList.map (ev env)

def isSoft (o : Oper) : Bool :=
  match o.op with
  | .move _ | .assign _ | .pick .. | .load .. | .nilCheck _ | .binOp .. | .unOp .. | .convert .. | .makeFunc .. | .slice .. | .fieldAddr .. | .field .. | .indexAddr .. | .index .. | .extract .. | .build .. | .lookup .. => true
  | .call c => (match c.callee with | .builtin .len | .builtin .cap | .builtin .max | .builtin .min => true | _ => false)
  | _ => false
def softD (P : Program) (o : Oper) (env : Env) (w : World) (K : Value → Option (Option Bool) → Prop) : Prop :=
  match o.op with
  | .move x => K (ev env x) (evk env x)
  | .assign x => K (ev env x) (evk env x)
  | .pick c a b => (match evk env c with
    | some (some t) => K (ev env (bif t then a else b)) (evk env (bif t then a else b))
    | some none => False
    | none => xPick (ev env c) (ev env a) (ev env b) fun v => K v none)
  | .load t a => ldD P w t (ev env a) fun v => K v none
  | .nilCheck x => xNil (ev env x) fun v => K v none
  | .binOp op t x y _ => binD P w op t x y (ev env x) (ev env y) fun v => K v none
  | .unOp op _ x => (match op with
    | .not => (match evk env x with | some (some b) => K (.bool !b) (some (some !b)) | some none => False | none => xNot (ev env x) fun v => K v none)
    | .neg => xR P w (Op.unary .neg (ev env x)) fun v => K v none
    | .xor => xR P w (Op.unary .xor (ev env x)) fun v => K v none
    | .plus => False)
  | .convert s d x => (match P.underlying s, P.underlying d with
    | some (.int _), some (.int k) => xConv k (ev env x) fun v => K v none
    | _, _ => xR P w (convert s d (ev env x)) fun v => K v none)
  | .makeFunc fn first cap => K (.func fn (evs env first).toArray (evs env cap).toArray) none
  | .slice t x lo hi mx => (match mx with
    | none => elemD P t (fun sz _ => xSl sz (ev env x) (oev env lo) (oev env hi) fun v => K v none) (fun _ _ => xR P w (Instr.sliceAt t (ev env x) (oev env lo) (oev env hi) none) fun v => K v none) (xSlS (ev env x) (oev env lo) (oev env hi) fun v => K v none)
    | some _ => xR P w (Instr.sliceAt t (ev env x) (oev env lo) (oev env hi) (oev env mx)) fun v => K v none)
  | .fieldAddr s x f => fldD P s f fun off _ _ => xFa off (ev env x) fun v => K v none
  | .field s x f => fldD P s f fun off n g => bif g then xFdA off n (ev env x) fun v => K v none else xFd off (ev env x) fun v => K v none
  | .indexAddr t x i => elemD P t (fun sz _ => xIa sz (ev env x) (ev env i) fun v => K v none) (fun len sz => xIaA len sz (ev env x) (ev env i) fun v => K v none) False
  | .index t x i => elemD P t (fun _ _ => False) (fun _ _ => xR P w (Instr.index t (ev env x) (ev env i)) fun v => K v none) (xIs (ev env x) (ev env i) fun v => K v none)
  | .extract x i => xEx (ev env x) i fun v => K v none
  | .build t ps => (match P.underlying t, P.info? t with
    | some (.struct fs), some ti => (match ti.zero, placesOf P fs.toList with
      | some z, some l => xBuild z.cells l.toArray (partsOf env ps) fun v => K v none
      | _, _ => False)
    | _, _ => xR P w (Instr.build t (partsOf env ps).toArray) fun v => K v none)
  | .lookup t x i ok => xR P w (Instr.lookup t (ev env x) (ev env i) ok) fun v => K v none
  | .call c => (match c.callee with
    | .builtin .len => (match (c.argTypes[0]?), evs env c.args with
      | some t, [x] => (match P.underlying t with
        | some (.slice _) => xLenS x fun v => K v none
        | some .string => xLenT x fun v => K v none
        | _ => xR P w (Builtin.len_ c.argTypes o.type #[x]) fun v => K v none)
      | _, _ => False)
    | .builtin .cap => xR P w (Builtin.cap_ c.argTypes o.type (evs env c.args).toArray) fun v => K v none
    | .builtin .max => (match evs env c.args with
      | [x, y] => xMax x y fun v => K v none
      | _ => xR P w (Builtin.max_ c.argTypes o.type (evs env c.args).toArray) fun v => K v none)
    | .builtin .min => (match evs env c.args with
      | [x, y] => xMin x y fun v => K v none
      | _ => xR P w (Builtin.min_ c.argTypes o.type (evs env c.args).toArray) fun v => K v none)
    | _ => False)
  | _ => False

def hardD (P : Program) (o : Oper) (env : Env) (w : World) (K : Value → World → Prop) : Prop :=
  match o.op with
  | .box e x => (match P.info? e with | some _ => xNew (ev env x).cells e w K | none => False)
  | .alloc e => (match P.info? e with | some i => (match i.zero with | some z => xNew z.cells e w K | none => False) | none => False)
  | .store t a v => (match isAgg? P t, P.info? t with
    | some false, some i => if Nat.beq i.size 1 then xSt w (ev env a) (ev env v) (K undef) else False
    | some true, some i => xStA P w i.size (ev env a) (ev env v) (K undef)
    | _, _ => False)
  | .makeSlice t l c => (match P.underlying t with
    | some (.slice e) => (match P.info? e with
      | some i => (match i.zero with
        | some z => xMk e z.cells i.size i.bytes (ev env l) (ev env c) w K
        | none => False)
      | none => False)
    | _ => False)
  | .buildSlice t n ps => (match P.underlying t with
    | some (.slice e) => (match P.info? e with
      | some i => (match i.zero with
        | some z => if Nat.ble (n * i.size) 16777216 then xBs e z.cells i.size n (partsOf env ps) w K else False
        | none => False)
      | none => False)
    | _ => False)
  | .makeMap t r => xOp P (Instr.makeMap t (oev env r)) w K
  | .mapUpdate t m k v => xOpU P (Instr.mapUpdate t (ev env m) (ev env k) (ev env v)) w (K undef)
  | .insert t m k v => xOpU P (Instr.mapUpdate t (ev env m) (ev env k) (ev env v)) w (K undef)
  | .mapEntry t m k => xOp P (Instr.mapEntry t (ev env m) (ev env k)) w K
  | .entryStore t m s v => xOpU P (Instr.entryStore t (ev env m) (ev env s) (ev env v)) w (K undef)
  | .range t x => xOp P (Instr.range t (ev env x)) w K
  | .next it s => xOp P (Instr.next (ev env it) s o.type) w K
  | .entry it => xOp P (Instr.entry (ev env it)) w K
  | .convert s d x => xOp P (convert s d (ev env x)) w K
  | .call c => (match c.callee with
    | .value f => callV P (ev env f) (evs env c.args) w K
    | .builtin .append => xOp P (Builtin.append_ c.argTypes o.type (evs env c.args).toArray) w K
    | .builtin .copy => xOp P (Builtin.copy_ c.argTypes o.type (evs env c.args).toArray) w K
    | .builtin .delete => xOp P (Builtin.delete_ c.argTypes o.type (evs env c.args).toArray) w K
    | .builtin .clear => xOp P (Builtin.clear_ c.argTypes o.type (evs env c.args).toArray) w K
    | .builtin .unsafeSliceData => xOp P (Builtin.unsafeSliceData_ c.argTypes o.type (evs env c.args).toArray) w K
    | .builtin .unsafeString => xOp P (Builtin.unsafeString_ c.argTypes o.type (evs env c.args).toArray) w K
    | _ => False)
  | _ => False
def isSoftIn (P : Program) (o : Oper) : Bool :=
  match o.op with
  | .convert _ d _ => (match P.underlying d with | some (.slice _) => false | _ => true)
  | _ => isSoft o

end Go.Vc

namespace Go.Vc

theorem evs_eq {a : Act} {env : Env} (he : a.eval = ev env) (l : Array Operand) : (evs env l).toArray = l.map a.eval := by
  rw [he]; apply Array.ext' ; simp [evs]
theorem partsOf_eq {a : Act} {env : Env} (he : a.eval = ev env) (ps : Array (Nat × Operand)) : (partsOf env ps).toArray = ps.map fun (i, x) => (i, a.eval x) := by
  rw [he]; apply Array.ext'; simp [partsOf]
theorem oev_eq {a : Act} {env : Env} (he : a.eval = ev env) (x : Option Operand) : oev env x = x.map a.eval := by
  rw [he]; cases x <;> rfl

def Yes (P : Program) (w : World) (s : Sem Value) (v : Value) : Prop := ∀ w', Ext w w' → s.run P w' = .ok v w'

section
variable {P : Program} {w : World} {K : Value → Prop}

theorem run_und {t : TypeId} {d : TypeDesc} (h : P.underlying t = some d) (w : World) : (underlying t).run P w = .ok d w := by simp [underlying, h]
theorem run_info {t : TypeId} {i : TypeInfo} (h : P.info? t = some i) (w : World) : (typeInfo t).run P w = .ok i w := by simp [typeInfo, h]
theorem run_size {t : TypeId} {i : TypeInfo} (h : P.info? t = some i) (w : World) : (sizeOf t).run P w = .ok i.size w := by simp [sizeOf, run_info h]

theorem isAgg_run {t : TypeId} {b : Bool} (h : isAgg? P t = some b) (w : World) : (isAgg t).run P w = .ok b w := by
  unfold isAgg? at h
  cases hu : P.underlying t with
  | none => simp [hu] at h
  | some d => cases d <;> simp [hu] at h <;> subst h <;> simp [isAgg, run_und hu]

theorem loadCellsFrom_run {w : World} {ad : Addr} {cs : Array Value} : ∀ (m i : Nat) (acc : Array Value), (∀ j, i ≤ j → j < i + m → w.cell? (ad.add j) = cs[j]?) → i + m ≤ cs.size →
    (loadCellsFrom ad i m acc).run P w = .ok (acc ++ cs.extract i (i + m)) w := by
  intro m
  induction m with
  | zero => intro i acc _ hm; simp [loadCellsFrom]; omega
  | succ m ih =>
    intro i acc h hm
    have h0 : w.cell? (ad.add i) = some cs[i] := by rw [h i (Nat.le_refl _) (by omega)]; simp
    simp only [loadCellsFrom, Sem.run_bind, run_load, h0, Result.andThen_ok]
    rw [ih (i + 1) _ (fun j h1 h2 => h j (by omega) (by omega)) (by omega)]
    congr 1
    apply Array.ext
    · simp; omega
    · intro k h1 h2
      simp only [Array.getElem_append, Array.size_push, Array.getElem_push, Array.getElem_extract]
      by_cases hk : k < acc.size
      · simp [hk, Nat.lt_succ_of_lt hk]
      · by_cases hk2 : k = acc.size
        · subst hk2; simp
        · have : ¬ k < acc.size + 1 := by omega
          simp only [this, hk, dif_neg, not_false_eq_true]
          congr 1; omega

theorem ext_cells {w w' : World} (h : Ext w w') {ad : Addr} {cs : Array Value} {n : Nat} (hn : cs.size = n) (hc : ∀ i, i < n → w.cell? (ad.add i) = cs[i]?) : ∀ i, i < n → w'.cell? (ad.add i) = cs[i]? := by
  intro i hi
  have h1 : w.cell? (ad.add i) = some cs[i] := by rw [hc i hi]; simp
  rw [h.cell h1]; simp

theorem ldD_ok {t : TypeId} {x : Value} (h : ldD P w t x K) : ∃ v, Yes P w (Instr.loadAt t x) v ∧ K v := by
  unfold ldD at h
  split at h
  · rename_i i hg hi
    obtain ⟨ad, cs, rfl, hn, hc, hk⟩ := h
    refine ⟨_, fun w' hw' => ?_, hk⟩
    simp only [Instr.loadAt, Instr.sureAddr, loadVar, Sem.run_bind, Sem.run_pure, Result.andThen_ok, isAgg_run hg, if_true, run_size hi, loadCells]
    rw [loadCellsFrom_run (cs := cs) i.size 0 #[] (fun j _ hj => ext_cells hw' hn hc j (by omega)) (by omega)]
    simp [← hn]
  · rename_i hg
    obtain ⟨ad, v, rfl, hc, hk⟩ := h
    refine ⟨v, fun w' hw' => ?_, hk⟩
    simp [Instr.loadAt, Instr.sureAddr, loadVar, isAgg_run hg, hw'.cell hc]
  · exact h.elim

theorem intD_ok {op : BinOp} {k : IntKind} {x y : Value} {t : TypeId} {xo yo : Operand} (h : intD op k x y K) :
    ∃ v, (∀ w, (do eqGuard op t xo yo x y; binOp op t x y : Sem Value).run P w = .ok v w) ∧ K v := by
  cases op
  case shl => obtain ⟨a, yk, b, rfl, rfl, hb, hk⟩ := h; refine ⟨_, fun w => ?_, hk⟩; simp [eqGuard, binOp, Op.shift, show ¬ b < 0 by omega, iShl]
  case shr => obtain ⟨a, yk, b, rfl, rfl, hb, hk⟩ := h; refine ⟨_, fun w => ?_, hk⟩; simp [eqGuard, binOp, Op.shift, show ¬ b < 0 by omega, iShr]
  case quo => obtain ⟨a, b, rfl, rfl, hb, hk⟩ := h; refine ⟨_, fun w => ?_, hk⟩; simp [eqGuard, binOp, Op.intDiv, hb]
  case rem => obtain ⟨a, b, rfl, rfl, hb, hk⟩ := h; refine ⟨_, fun w => ?_, hk⟩; simp [eqGuard, binOp, Op.intDiv, hb]
  case and => obtain ⟨a, b, rfl, rfl, hk⟩ := h; refine ⟨_, fun w => ?_, hk⟩; simp [eqGuard, binOp, Op.intBits, iAnd]
  case or => obtain ⟨a, b, rfl, rfl, hk⟩ := h; refine ⟨_, fun w => ?_, hk⟩; simp [eqGuard, binOp, Op.intBits, iOr]
  case xor => obtain ⟨a, b, rfl, rfl, hk⟩ := h; refine ⟨_, fun w => ?_, hk⟩; simp [eqGuard, binOp, Op.intBits, iXor]
  case andNot => obtain ⟨a, b, rfl, rfl, hk⟩ := h; refine ⟨_, fun w => ?_, hk⟩; simp [eqGuard, binOp, Op.intBits, iAndNot]
  case eql => obtain ⟨a, b, rfl, rfl, hk⟩ := h; refine ⟨_, fun w => ?_, hk⟩; simp [eqGuard, binOp, Op.intCmp]; by_cases hab : a = b <;> simp [hab]
  case neq => obtain ⟨a, b, rfl, rfl, hk⟩ := h; refine ⟨_, fun w => ?_, hk⟩; simp [eqGuard, binOp, Op.intCmp]; by_cases hab : a = b <;> simp [hab]
  all_goals (obtain ⟨a, b, rfl, rfl, hk⟩ := h; refine ⟨_, fun w => ?_, hk⟩; simp [eqGuard, binOp, Op.intArith, Op.intCmp])

theorem equalIn_bool {t : TypeId} (hu : P.underlying t = some .bool) (d : Nat) (a b : Bool) (w : World) : (Op.equalIn (d + 1) t (.bool a) (.bool b)).run P w = .ok (a == b) w := by
  simp [Op.equalIn, run_und hu]
theorem equalIn_nilS {t e : TypeId} (hu : P.underlying t = some (.slice e)) (d : Nat) (a : Option Addr) (n c : Nat) (w : World) : (Op.equalIn (d + 1) t (.slice a n c) (.slice none 0 0)).run P w = .ok (isNilS (.slice a n c)) w := by
  cases a <;> simp [Op.equalIn, run_und hu, isNilS]
theorem equal_bool {t : TypeId} (hu : P.underlying t = some .bool) (a b : Bool) (w : World) : (Op.equal t (.bool a) (.bool b)).run P w = .ok (a == b) w := equalIn_bool hu 9999 a b w
theorem equal_nilS {t e : TypeId} (hu : P.underlying t = some (.slice e)) (a : Option Addr) (n c : Nat) (w : World) : (Op.equal t (.slice a n c) (.slice none 0 0)).run P w = .ok (isNilS (.slice a n c)) w := equalIn_nilS hu 9999 a n c w
theorem binOp_str (op : BinOp) (t : TypeId) (a b : ByteArray) : binOp op t (.string a) (.string b) = Op.stringOp op a b := by cases op <;> rfl
theorem eqGuard_str (op : BinOp) (t : TypeId) (xo yo : Operand) (a b : ByteArray) (w : World) : (eqGuard op t xo yo (.string a) (.string b)).run P w = .ok () w := by
  cases op <;> simp [eqGuard]
theorem eqGuard_bool (op : BinOp) (t : TypeId) (xo yo : Operand) (a b : Bool) (w : World) : (eqGuard op t xo yo (.bool a) (.bool b)).run P w = .ok () w := by
  cases op <;> simp [eqGuard]
theorem eqGuard_sl (op : BinOp) (t : TypeId) (xo yo : Operand) (a b : Option Addr) (n c m d : Nat) (w : World) : (eqGuard op t xo yo (.slice a n c) (.slice b m d)).run P w = .ok () w := by
  cases op <;> simp [eqGuard]
theorem binOp_eql_bool (t : TypeId) (a b : Bool) : binOp .eql t (.bool a) (.bool b) = (do pure (.bool (← Op.equal t (.bool a) (.bool b)))) := rfl
theorem binOp_neq_bool (t : TypeId) (a b : Bool) : binOp .neq t (.bool a) (.bool b) = (do pure (.bool (!(← Op.equal t (.bool a) (.bool b))))) := rfl
theorem binOp_eql_sl (t : TypeId) (a b : Option Addr) (n c m d : Nat) : binOp .eql t (.slice a n c) (.slice b m d) = (do pure (.bool (← Op.equal t (.slice a n c) (.slice b m d)))) := rfl
theorem binOp_neq_sl (t : TypeId) (a b : Option Addr) (n c m d : Nat) : binOp .neq t (.slice a n c) (.slice b m d) = (do pure (.bool (!(← Op.equal t (.slice a n c) (.slice b m d))))) := rfl

theorem binD_ok {op : BinOp} {x y : Value} {t : TypeId} {xo yo : Operand} (h : binD P w op t xo yo x y K) :
    ∃ v, Yes P w (do eqGuard op t xo yo x y; binOp op t x y) v ∧ K v := by
  unfold binD at h
  split at h
  · obtain ⟨v, h1, h2⟩ := intD_ok h; exact ⟨v, fun w' _ => h1 w', h2⟩
  · rename_i hu
    split at h
    · obtain ⟨a, b, rfl, rfl, hk⟩ := h; refine ⟨_, fun w' _ => ?_, hk⟩
      rw [binOp_eql_bool]
      simp only [Sem.run_bind, Sem.run_pure, Result.andThen_ok, eqGuard_bool, equal_bool hu]
      simp
    · obtain ⟨a, b, rfl, rfl, hk⟩ := h; refine ⟨_, fun w' _ => ?_, hk⟩
      rw [binOp_neq_bool]
      simp only [Sem.run_bind, Sem.run_pure, Result.andThen_ok, eqGuard_bool, equal_bool hu]
      simp
    · exact h.elim
  · rename_i hu
    obtain ⟨a, b, v, rfl, rfl, hv, hk⟩ := h
    refine ⟨v, fun w' _ => ?_, hk⟩
    rw [binOp_str, hv]
    simp only [Sem.run_bind, Sem.run_pure', Result.andThen_ok, eqGuard_str]
  · rename_i e hu
    split at h
    · obtain ⟨hx, rfl, hk⟩ := h; refine ⟨_, fun w' _ => ?_, hk⟩
      cases x <;> simp only [isSl] at hx
      rw [binOp_eql_sl]
      simp only [Sem.run_bind, Sem.run_pure, Result.andThen_ok, eqGuard_sl, equal_nilS hu]
      simp
    · obtain ⟨hx, rfl, hk⟩ := h; refine ⟨_, fun w' _ => ?_, hk⟩
      cases x <;> simp only [isSl] at hx
      rw [binOp_neq_sl]
      simp only [Sem.run_bind, Sem.run_pure, Result.andThen_ok, eqGuard_sl, equal_nilS hu]
      simp
    · exact h.elim
  · obtain ⟨v, hv, hk⟩ := h; exact ⟨v, hv, hk⟩
  · exact h.elim

theorem fldD_ok {s : TypeId} {f : Nat} {K : Nat → Nat → Bool → Prop} (h : fldD P s f K) : ∃ fs fl i g, P.underlying s = some (.struct fs) ∧ fs[f]? = some fl ∧ P.info? fl.type = some i ∧ isAgg? P fl.type = some g ∧ i.size ≠ 0 ∧ K fl.offset i.size g := by
  unfold fldD at h
  split at h
  · rename_i fs hu
    split at h
    · rename_i fl hf
      split at h
      · rename_i i g hi hg
        split at h
        · exact h.elim
        · rename_i h0
          exact ⟨fs, fl, i, g, hu, hf, hi, hg, fun e => h0 (by simp [e]), h⟩
      · exact h.elim
    · exact h.elim
  · exact h.elim

theorem bnd_run {d r : Nat} {o : Option Value} (h : bnd d r o) : (o = none ∧ r = d) ∨ ∃ k, o = some (.int k (r : Int)) := by
  cases o with
  | none => exact .inl ⟨rfl, h⟩
  | some v => obtain ⟨k, rfl⟩ := h; exact .inr ⟨k, rfl⟩

theorem sliceBounds_run {n c l h : Nat} {lo hi : Option Value} (isS : Bool) (h1 : bnd n h hi) (h2 : bnd 0 l lo) (h3 : l ≤ h) (h4 : h ≤ c) (w : World) :
    (Instr.sliceBounds isS n c lo hi none).run P w = .ok (l, h, c) w := by
  unfold Instr.sliceBounds
  rcases bnd_run h1 with ⟨rfl, rfl⟩ | ⟨k, rfl⟩ <;> rcases bnd_run h2 with ⟨rfl, rfl⟩ | ⟨k', rfl⟩ <;>
    simp [Instr.sliceBound, asIntOf, h3, h4]

theorem placesOf_run : ∀ (l : List Field) {r : List (Nat × Nat)}, placesOf P l = some r → ∀ w, (l.mapM (m := Sem) fun f => do pure (f.offset, ← sizeOf f.type)).run P w = .ok r w
  | [], r, h, w => by simp [placesOf] at h; subst h; simp
  | f :: l, r, h, w => by
    unfold placesOf at h
    split at h
    · rename_i i r' hi hr
      cases h
      have ih := placesOf_run l hr w
      simp only [bind_pure_comp] at ih
      simp [List.mapM_cons, run_size hi, ih]
    · cases h

theorem soft_ok {o : Oper} {env : Env} {a : Act} {K : Value → Option (Option Bool) → Prop} (he : a.eval = ev env) (hk : EnvOk env) (hs : isSoftIn P o = true) (h : softD P o env w K) :
    ∃ v kb, (∀ w', Ext w w' → (execOp a.eval o).run P w' = .ok (.value v) w') ∧ K v kb ∧ (∀ b, kb = some b → v = kv b) := by
  have evb : ∀ x b, evk env x = some b → ev env x = kv b := by
    intro x b hx
    cases x with
    | tmp t => exact hk t b hx
    | const v => cases v <;> simp [evk] at hx; subst hx; rfl
    | _ => simp [evk] at hx
  -- a step that yields by a reckoning of its own
  have fin : ∀ (s : Sem Value), execOp a.eval o = (do pure (.value (← s))) → (∃ v, Yes P w s v ∧ K v none) → ∃ v kb, (∀ w', Ext w w' → (execOp a.eval o).run P w' = .ok (.value v) w') ∧ K v kb ∧ (∀ b, kb = some b → v = kv b) := by
    intro s hs ⟨v, hv, hK⟩
    exact ⟨v, none, fun w' hw' => by rw [hs]; simp [hv w' hw'], hK, fun b hb => by cases hb⟩
  obtain ⟨dst, op, type, pos, after, guard⟩ := o
  cases op <;> (try (simp [isSoftIn, isSoft] at hs; done))
  case move x => exact ⟨_, _, fun w' _ => by simp [execOp, he], h, fun b hb => evb x b hb⟩
  case assign x => exact ⟨_, _, fun w' _ => by simp [execOp, he], h, fun b hb => evb x b hb⟩
  case pick c x y =>
    simp only [softD] at h
    split at h
    · rename_i t ht
      refine ⟨_, _, fun w' _ => ?_, h, fun b hb => ?_⟩
      · simp only [execOp, he, evb c (some t) ht, kv]; cases t <;> simp [asBool]
      · exact evb _ b hb
    · exact h.elim
    · obtain ⟨t, ht, hK⟩ := h
      refine ⟨_, none, fun w' _ => ?_, hK, fun b hb => by cases hb⟩
      simp only [execOp, he, ht]; cases t <;> simp [asBool]
  case load t x => exact fin _ (by simp only [execOp]; rfl) (by rw [he]; exact ldD_ok h)
  case nilCheck x =>
    obtain ⟨hx, hK⟩ := h
    refine ⟨_, none, fun w' _ => ?_, hK, fun b hb => by cases hb⟩
    simp only [execOp, he]
    generalize ev env x = v at *
    unfold okNil at hx
    split at hx <;> first | exact hx.elim | simp
  case binOp op t x y yt => exact fin _ (by simp only [execOp]; rfl) (by rw [he]; exact binD_ok h)
  case unOp op t x =>
    simp only [softD] at h
    cases op <;> simp only [] at h
    · exact fin _ (by simp only [execOp]; rfl) (by rw [he]; exact h)
    · exact fin _ (by simp only [execOp]; rfl) (by rw [he]; exact h)
    · split at h
      · rename_i b hb
        exact ⟨_, _, fun w' _ => by simp [execOp, he, evb x (some b) hb, Op.unary, kv], h, fun b' hb' => by cases hb'; rfl⟩
      · exact h.elim
      · obtain ⟨b, hb, hK⟩ := h
        exact ⟨_, _, fun w' _ => by simp [execOp, he, hb, Op.unary], hK, fun b' hb' => by cases hb'⟩
  case convert s d x =>
    simp only [softD] at h
    split at h
    · rename_i k0 k hs hd
      obtain ⟨k', n, hx, hK⟩ := h
      refine fin _ (by simp only [execOp]; rfl) ⟨_, fun w' _ => ?_, hK⟩
      simp [he, hx, convert, run_und hs, run_und hd, Conv.intToInt]
    · exact fin _ (by simp only [execOp]; rfl) (by rw [he]; exact h)
  case makeFunc fn first cap =>
    refine ⟨_, _, fun w' _ => ?_, h, fun b hb => by cases hb⟩
    simp [execOp, Instr.makeFunc, evs_eq he]
  case slice t x lo hi' mx =>
    simp only [softD] at h
    refine fin _ (by simp only [execOp]; rfl) ?_
    rw [← oev_eq he, ← oev_eq he, ← oev_eq he, he]
    cases mx with
    | some m => exact h
    | none =>
      simp only [elemD] at h
      split at h
      · rename_i e hu
        split at h
        · rename_i i hi
          obtain ⟨ad, n, c, l, hh, hx, h1, h2, h3, h4, hK⟩ := h
          refine ⟨_, fun w' _ => ?_, hK⟩
          rw [hx, show oev env none = none from rfl]
          generalize oev env lo = lo' at *
          generalize oev env hi' = hi2 at *
          simp [Instr.sliceAt, Instr.slice, run_und hu, sliceBounds_run true h1 h2 h3 h4, run_size hi]
        · exact h.elim
      · rename_i len e hu
        split at h
        · exact h
        · exact h.elim
      · rename_i hu
        obtain ⟨s, l, hh, hx, h1, h2, h3, h4, hK⟩ := h
        refine ⟨_, fun w' _ => ?_, hK⟩
        rw [hx, show oev env none = none from rfl]
        generalize oev env lo = lo' at *
        generalize oev env hi' = hi2 at *
        simp [Instr.sliceAt, Instr.slice, run_und hu, sliceBounds_run false h1 h2 h3 h4]
      · exact h.elim
  case fieldAddr s x f =>
    simp only [softD] at h
    obtain ⟨fs, fl, i, g, hu, hf, hi, hg, h0, ad, hx, hK⟩ := fldD_ok h
    refine fin _ (by simp only [execOp]; rfl) ⟨_, fun w' _ => ?_, hK⟩
    simp [he, hx, Instr.fieldAt, run_und hu, hf, Instr.sureAddr, fieldPlace, run_size hi, h0]
  case field s x f =>
    simp only [softD] at h
    obtain ⟨fs, fl, i, g, hu, hf, hi, hg, h0, hc⟩ := fldD_ok h
    refine fin _ (by simp only [execOp]; rfl) ?_
    cases g
    · obtain ⟨cs, v, hx, hv, hK⟩ := hc
      refine ⟨_, fun w' _ => ?_, hK⟩
      simp [he, hx, Instr.field, run_und hu, hf, asAgg, part, isAgg_run hg, hv]
    · obtain ⟨cs, hx, hK⟩ := hc
      refine ⟨_, fun w' _ => ?_, hK⟩
      simp [he, hx, Instr.field, run_und hu, hf, asAgg, part, isAgg_run hg, run_size hi]
  case indexAddr t x i =>
    simp only [softD, elemD] at h
    refine fin _ (by simp only [execOp]; rfl) ?_
    rw [he]
    split at h
    · rename_i e hu
      split at h
      · rename_i ti hi
        obtain ⟨ad, n, c, k, j, hx, hj, h1, h2, hK⟩ := h
        refine ⟨_, fun w' _ => ?_, hK⟩
        rw [hx, hj]
        simp [Instr.indexAt, run_und hu, asIntOf, run_size hi, h1, h2]
      · exact h.elim
    · rename_i len e hu
      split at h
      · rename_i ti hi
        obtain ⟨ad, k, j, hx, hj, h1, h2, hK⟩ := h
        refine ⟨_, fun w' _ => ?_, hK⟩
        rw [hx, hj]
        simp [Instr.indexAt, run_und hu, asIntOf, Instr.sureAddr, run_size hi, h1, h2]
      · exact h.elim
    · exact h.elim
    · exact h.elim
  case index t x i =>
    simp only [softD, elemD] at h
    refine fin _ (by simp only [execOp]; rfl) ?_
    rw [he]
    split at h
    · split at h <;> exact h.elim
    · split at h
      · exact h
      · exact h.elim
    · rename_i hu
      obtain ⟨s, k, j, b, hx, hj, h1, h2, hK⟩ := h
      refine ⟨_, fun w' _ => ?_, hK⟩
      rw [hx, hj]
      simp [Instr.index, run_und hu, asIntOf, h1, h2]
    · exact h.elim
  case extract x i =>
    obtain ⟨vs, v, hx, hv, hK⟩ := h
    refine fin _ (by simp only [execOp]; rfl) ⟨_, fun w' _ => ?_, hK⟩
    simp [he, hx, Instr.extract, hv]
  case build t ps =>
    simp only [softD] at h
    refine fin _ (by simp only [execOp]; rfl) ?_
    rw [← partsOf_eq he]
    split at h
    · rename_i fs ti hu hi
      split at h
      · rename_i z l hz hl
        obtain ⟨cs, hcs, hK⟩ := h
        refine ⟨_, fun w' _ => ?_, hK⟩
        have hp := placesOf_run fs.toList hl w'
        have hm : (fs.mapM (m := Sem) fun f => do pure (f.offset, ← sizeOf f.type)).run P w' = .ok l.toArray w' := by
          rw [← Array.toArray_toList (xs := fs)]
          rw [List.mapM_toArray]
          simp only [Sem.run_map, hp, Result.andThen_ok]
        simp only [bind_pure_comp] at hm
        simp [Instr.build, zeroValue, run_info hi, hz, run_und hu, hm]
        simp only [List.getElem?_toArray] at hcs
        simp [hcs]
      · exact h.elim
    · exact h
  case lookup t x i ok => exact fin _ (by simp only [execOp]; rfl) (by rw [he]; exact h)
  case call c =>
    obtain ⟨callee, args, argTypes⟩ := c
    cases callee <;> (try (simp [isSoftIn, isSoft] at hs; done))
    rename_i b
    have ex : ∀ s, (∀ cs, builtin b argTypes type cs (args.map a.eval) = (do pure (.value (← s)))) → execOp a.eval ⟨dst, .call ⟨.builtin b, args, argTypes⟩, type, pos, after, guard⟩ = (do pure (.value (← s))) := by
      intro s hs
      simp only [execOp, resolve]
      exact hs _
    cases b <;> (try (simp [isSoftIn, isSoft] at hs; done))
    all_goals (simp only [softD] at h; refine fin _ (ex _ fun _ => rfl) ?_; rw [← evs_eq he])
    · exact h
    · split at h
      · rename_i t x ht hx
        rw [hx]
        split at h
        · rename_i e hu
          obtain ⟨ad, n, c, rfl, hK⟩ := h
          refine ⟨_, fun w' _ => ?_, hK⟩
          simp [Builtin.len_, ht, run_und hu, goInt]
        · rename_i hu
          obtain ⟨s, rfl, hK⟩ := h
          refine ⟨_, fun w' _ => ?_, hK⟩
          simp [Builtin.len_, ht, run_und hu, goInt]
        · exact h
      · exact h.elim
    · split at h
      · rename_i x y hx
        obtain ⟨k, m, k', n, rfl, rfl, hK⟩ := h
        refine ⟨_, fun w' _ => ?_, hK⟩
        simp [hx, Builtin.max_, Builtin.max2]
      · exact h
    · split at h
      · rename_i x y hx
        obtain ⟨k, m, k', n, rfl, rfl, hK⟩ := h
        refine ⟨_, fun w' _ => ?_, hK⟩
        simp [hx, Builtin.min_, Builtin.min2]
      · exact h

end
end Go.Vc

namespace Go.Vc
section
variable {P : Program} {w : World}

theorem isCell_one {v : Value} (h : isCell v = true) : v.oneCell' = true := by cases v <;> first | rfl | (simp [isCell] at h)
theorem isCell_cells {v : Value} (h : isCell v = true) : v.cells = #[v] := by cases v <;> first | rfl | (simp [isCell] at h)

theorem callFunc_run {f : FuncId} {args : Array Value} (h : HasB P f) (w : World) : (callFunc f args).run P w = .ok (.enter f args) w := by
  obtain ⟨fn, hf, hn, hb⟩ := h
  have hn' : ¬ fn.name = "runtime.NumGoroutine" := by simpa using hn
  have hb' : ¬ fn.body = none := by intro e; simp [e] at hb
  simp [callFunc, hf, hn', hb']

theorem invoke_run {fv : Value} {args : List Value} {f : FuncId} {first cap : Array Value} (hv : fv = .func (.func f) first cap) (h : HasB P f) (w : World) :
    (do let d ← Deferred.ofValue fv args.toArray; invoke d.target d.args : Sem Next).run P w = .ok (.enter f (first ++ args.toArray ++ cap)) w := by
  subst hv
  simp [Deferred.ofValue, invoke, callFunc_run h]

theorem invoke_runX {fv : Value} {args : List Value} {f : FuncId} {first cap : Array Value} (hv : fv = .func (.func f) first cap) (w : World) :
    (do let d ← Deferred.ofValue fv args.toArray; invoke d.target d.args : Sem Next).run P w = (callFunc f (first ++ args.toArray ++ cap)).run P w := by
  subst hv
  simp [Deferred.ofValue, invoke]

def Nx (o : Oper) (a : Act) (K : Value → World → Prop) : Act → World → Prop := fun a' w' => ∃ v, a' = a.put o.dst v ∧ K v w'

theorem upon_call {o : Oper} {a : Act} {fv : Value} {args : List Value} {K : Value → World → Prop} {Q : Exit → Act → World → Prop}
    (hx : execOp a.eval o = (do let d ← Deferred.ofValue fv args.toArray; invoke d.target d.args)) (h : callV P fv args w K) : o.wp P a w (Nx o a K) Q := by
  unfold Oper.wp
  obtain ⟨T, ⟨f, first, cap, hv, hb, hc⟩ | ⟨f, first, cap, v, hv, hr, hK⟩, hT⟩ := h
  · rw [hx, invoke_run hv hb, Oper.upon_enter]
    refine hc.mono fun e w' ⟨v, he, hK⟩ => ?_
    subst he
    exact ⟨v, rfl, hT _ _ hK⟩
  · rw [hx, invoke_runX hv, hr, Oper.upon_value]
    exact ⟨v, rfl, hT _ _ hK⟩


theorem hard_ok {o : Oper} {env : Env} {a : Act} {K : Value → World → Prop} {Q : Exit → Act → World → Prop} (he : a.eval = ev env) (h : hardD P o env w K) : o.wp P a w (Nx o a K) Q := by
  have finV : ∀ (s : Sem Value), execOp a.eval o = (do pure (.value (← s))) → (∃ v w', s.run P w = .ok v w' ∧ K v w') → o.wp P a w (Nx o a K) Q := by
    intro s hs ⟨v, w', hv, hK⟩
    unfold Oper.wp
    rw [hs]
    simp only [Sem.run_bind, Sem.run_pure, hv, Result.andThen_ok, Oper.upon_value]
    exact ⟨v, rfl, hK⟩
  have finU : ∀ (s : Sem Unit), execOp a.eval o = (do s; pure .skip) → (∃ w', s.run P w = .ok () w' ∧ K undef w') → o.wp P a w (Nx o a K) Q := by
    intro s hs ⟨w', hv, hK⟩
    unfold Oper.wp
    rw [hs]
    simp only [Sem.run_bind, Sem.run_pure, hv, Result.andThen_ok, Oper.upon_skip]
    exact ⟨undef, rfl, hK⟩
  obtain ⟨dst, op, type, pos, after, guard⟩ := o
  cases op <;> first | exact h.elim | skip
  case alloc e =>
    simp only [hardD] at h
    split at h
    · rename_i i hi
      split at h
      · rename_i z hz
        refine finV _ (by simp only [execOp]; rfl) ⟨_, _, ?_, h⟩
        simp [Instr.alloc, zeroValue, run_info hi, hz, newVar, newRow]
      · exact h.elim
    · exact h.elim
  case box e x =>
    simp only [hardD] at h
    split at h
    · refine finV _ (by simp only [execOp]; rfl) ⟨_, _, ?_, h⟩
      simp [Instr.box, newVar, newRow, he]
    · exact h.elim
  case store t x y =>
    simp only [hardD] at h
    refine finU _ (by simp only [execOp]; rfl) ?_
    rw [he]
    split at h
    · rename_i i hg hi
      split at h
      · rename_i h1
        obtain ⟨ad, old, hx, hc, hf, hy, hK⟩ := h
        refine ⟨_, ?_, hK⟩
        have h1' : i.size = 1 := by simpa using h1
        simp [Instr.storeAt, Instr.sureAddr, hx, storeVar, isCell_cells hy, run_size hi, h1', storeCells, run_store P w _ _ _ (isCell_one hy), hc, hf, Addr.add]
      · exact h.elim
    · rename_i i hg hi
      obtain ⟨ad, w', hx, hn, hs, hK⟩ := h
      refine ⟨w', ?_, hK⟩
      simp [Instr.storeAt, Instr.sureAddr, hx, storeVar, run_size hi, hn, hs]
    · exact h.elim
  case makeSlice t l c =>
    simp only [hardD] at h
    split at h
    · rename_i e hu
      split at h
      · rename_i i hi
        split at h
        · rename_i z hz
          obtain ⟨k, k', ln, cn, hl, hc, h1, h2, h3, hK⟩ := h
          refine finV _ (by simp only [execOp]; rfl) ⟨_, _, ?_, hK⟩
          have w1 : IntKind.i64.wrap (ln : Int) = ln := by rw [IntKind.wrap_i64]; omega
          have w2 : IntKind.i64.wrap (cn : Int) = cn := by rw [IntKind.wrap_i64]; omega
          rw [he, hl, hc]
          have n1 : ¬ ((cn : Int) < 0) := by omega
          have n2 : ¬ ((ln : Int) < 0) := by omega
          have n3 : ¬ ((ln : Int) > cn) := by omega
          have n4 : ¬ ((i.bytes : Int) * cn > 2 ^ 48) := by omega
          simp only [Instr.makeSlice, Sem.run_bind, run_und hu, Result.andThen_ok, asInt, asIntOf, Sem.run_pure, run_info hi, w1, w2, n1, n2, n3, n4, decide_false, Bool.or_false, Bool.false_eq_true, if_false, run_askRoom, run_size hi, Int.toNat_natCast]
          by_cases h0 : cn * i.size = 0
          · simp [h0, newRow, show Array.range 0 = #[] from rfl]
          · simp [h0, zeroValue, run_info hi, hz, newRow]
        · exact h.elim
      · exact h.elim
    · exact h.elim
  case buildSlice t n ps =>
    simp only [hardD] at h
    split at h
    · rename_i e hu
      split at h
      · rename_i i hi
        split at h
        · rename_i z hz
          split at h
          · rename_i hle
            obtain ⟨cs, hcs, hK⟩ := h
            refine finV _ (by simp only [execOp]; rfl) ⟨_, _, ?_, hK⟩
            rw [← partsOf_eq he]
            have hle' : ¬ n * i.size > 2 ^ 24 := by have := Nat.le_of_ble_eq_true hle; omega
            simp only [Instr.buildSlice, Sem.run_bind, run_und hu, Result.andThen_ok, run_size hi, hle', if_false]
            by_cases h0 : n * i.size = 0
            · simp [h0, show Array.range 0 = #[] from rfl] at hcs
              simp [h0, show Array.range 0 = #[] from rfl, hcs, newRow]
            · simp [h0, zeroValue, run_info hi, hz]
              simp [hcs, newRow]
          · exact h.elim
        · exact h.elim
      · exact h.elim
    · exact h.elim
  case makeMap t r =>
    refine finV _ (by simp only [execOp]; rfl) ?_
    rw [← oev_eq he]; exact h
  case mapUpdate t m k v => refine finU _ (by simp only [execOp]; rfl) ?_; rw [he]; exact h
  case insert t m k v => refine finU _ (by simp only [execOp]; rfl) ?_; rw [he]; exact h
  case mapEntry t m k => refine finV _ (by simp only [execOp]; rfl) ?_; rw [he]; exact h
  case entryStore t m s v => refine finU _ (by simp only [execOp]; rfl) ?_; rw [he]; exact h
  case range t x => refine finV _ (by simp only [execOp]; rfl) ?_; rw [he]; exact h
  case next it s => refine finV _ (by simp only [execOp]; rfl) ?_; rw [he]; exact h
  case entry it => refine finV _ (by simp only [execOp]; rfl) ?_; rw [he]; exact h
  case convert s d x => refine finV _ (by simp only [execOp]; rfl) ?_; rw [he]; exact h
  case call c =>
    obtain ⟨callee, args, argTypes⟩ := c
    cases callee with
    | value f =>
      refine upon_call ?_ h
      rw [evs_eq he, ← he]
      simp only [execOp, resolve]
    | invoke r m => exact h.elim
    | builtin b =>
      have ex : ∀ s, (∀ cs, builtin b argTypes type cs (args.map a.eval) = (do pure (.value (← s)))) → execOp a.eval ⟨dst, .call ⟨.builtin b, args, argTypes⟩, type, pos, after, guard⟩ = (do pure (.value (← s))) := by
        intro s hs
        simp only [execOp, resolve]
        exact hs _
      cases b <;> first | exact h.elim | skip
      all_goals (refine finV _ (ex _ fun _ => rfl) ?_; rw [← evs_eq he]; exact h)

end
end Go.Vc

namespace Go.Vc

structure Ch (S : Nat → Prop) (w w' : World) : Prop where
  os : w'.os = w.os
  tape : w'.tape = w.tape
  output : w'.output = w.output
  size : w.heap.size ≤ w'.heap.size
  block : ∀ k, k < w.heap.size → ¬ S k → w'.heap[k]? = w.heap[k]?
inductive Ex where
  | nrm
  | ext (id : Nat)
  | ret
inductive Hint where
  | leaf
  | reg (quiet : List Nat) (join : Option (List Nat))
  | regE (quiet : List Nat) (join : Option (List Nat))
  | node (keep : Option (List Nat)) (l r : Hint)
abbrev Cont := Env → World → Prop

def putD (n : Nat) (env : Env) (dst : Option Nat) (v : Value) (kb : Option (Option Bool)) (K : Env → Prop) : Prop :=
  match dst with
  | none => K env
  | some d => match Nat.blt d n with
    | true => K (⟨d, v, kb⟩ :: env)
    | false => False
def wantD (ops : Array Oper) (o : Oper) (env : Env) (A B : Env → Prop) : Prop :=
  match o.guard with
  | none => A env
  | some (j, want) => match (ops[j]?).bind (·.dst) with
    | none => B env
    | some s => match known env s with
      | some (some b) => (match b == want with | true => A env | false => B env)
      | some none => B env
      | none => (match want with
        | true => cnd (look env s) (A (⟨s, .bool true, some (some true)⟩ :: env)) (B (⟨s, .bool false, some (some false)⟩ :: env))
        | false => cnd (look env s) (B (⟨s, .bool true, some (some true)⟩ :: env)) (A (⟨s, .bool false, some (some false)⟩ :: env)))
def opsD (P : Program) (n : Nat) (ops : Array Oper) : List Oper → Env → World → Cont → Prop
  | [], env, w, K => K env w
  | o :: r, env, w, K => wantD ops o env
    (fun env => match isSoftIn P o with
      | true => softD P o env w fun v kb => putD n env o.dst v kb fun env' => opsD P n ops r env' w K
      | false => hardD P o env w fun v w' => putD n env o.dst v none fun env' => opsD P n ops r env' w' K)
    (fun env => putD n env o.dst undef (some none) fun env' => opsD P n ops r env' w K)
def isMove (P : Program) (quiet : List Nat) (o : Oper) : Bool :=
  match o.op with
  | .move _ | .assign _ => true
  | .fieldAddr .. => quiet.contains 1000000
  | .indexAddr t _ _ => (match P.underlying t with | some (.slice _) => quiet.contains 1000000 | _ => false)
  | .binOp _ t _ _ _ => (match P.underlying t with | some (.int _) => true | _ => false)
  | _ => false
def isQuiet (P : Program) (quiet : List Nat) (i : Nat) (o : Oper) : Bool := isSoftIn P o || quiet.contains i
def bfStep (acc : List Nat) (o : Oper) : Nat :=
  o.after.toList.foldl (fun s e => match Region.binds .any e with | true => s ||| 2 ^ e.on ||| acc.getD e.on 0 | false => s) 0
def bf : List Oper → List Nat → List Nat
  | [], acc => acc
  | o :: r, acc => bf r (acc ++ [bfStep acc o])
def needE (P : Program) (quiet : List Nat) (ops : Array Oper) (j : Nat) : Bool :=
  (List.range ops.size).any fun i => match ops[i]? with
    | some o => isQuiet P quiet i o && !isMove P quiet o && !(i == j) && !((bf ops.toList []).getD j 0).testBit i && !((bf ops.toList []).getD i 0).testBit j
    | none => false
def isSoftAt (P : Program) (ops : Array Oper) (j : Nat) : Bool := match ops[j]? with | some o => isSoftIn P o | none => false
def needS (P : Program) (quiet : List Nat) (ops : Array Oper) (i : Nat) : Bool :=
  match quiet.contains 1000000 with
  | false => true
  | true => (List.range ops.size).any fun j => match ops[j]? with
    | some o => !isSoftIn P o && !(i == j) && !((bf ops.toList []).getD j 0).testBit i && !((bf ops.toList []).getD i 0).testBit j
    | none => false
def exq (b : Bool) (w w' : World) (A : Prop) : Prop :=
  match b with
  | true => Ext w w' ∧ A
  | false => A
def pickSoft (P : Program) (quiet : List Nat) (ops : Array Oper) (listed : Array Bool) : List Nat → Option Nat
  | [] => none
  | i :: r => match ops[i]? with
    | some o => (match isQuiet P quiet i o && Region.free .any ops listed i with
      | true => some i
      | false => pickSoft P quiet ops listed r)
    | none => pickSoft P quiet ops listed r
def allD : List Nat → (Nat → Prop) → Prop
  | [], _ => True
  | i :: r, F => match r with
    | [] => F i
    | _ :: _ => F i ∧ allD r F
def quietD (P : Program) (o : Oper) (env : Env) (w : World) (K : Value → Prop) : Prop :=
  match o.op with
  | .call c => (match c.callee with
    | .value f => callQ P (ev env f) (evs env c.args) w K
    | _ => False)
  | _ => False
def drD (P : Program) (n : Nat) (quiet : List Nat) (ops : Array Oper) : Nat → Array Bool → Env → World → Cont → Prop
  | 0, listed, env, w, K => match Region.ready .any ops listed with
    | [] => ∀ w1, Ext w w1 → K env w1
    | _ :: _ => False
  | m + 1, listed, env, w, K => match Region.ready .any ops listed with
    | [] => ∀ w1, Ext w w1 → K env w1
    | r0 :: rs => match pickSoft P quiet ops listed (r0 :: rs) with
      | some i => (match ops[i]? with
        | some o => wantD ops o env
          (fun env => match isSoftIn P o with
            | true => softD P o env w fun v kb => putD n env o.dst v kb fun env' => drD P n quiet ops m (listed.setIfInBounds i true) env' w K
            | false => quietD P o env w fun v => putD n env o.dst v none fun env' => drD P n quiet ops m (listed.setIfInBounds i true) env' w K)
          (fun env => putD n env o.dst undef (some none) fun env' => drD P n quiet ops m (listed.setIfInBounds i true) env' w K)
        | none => False)
      | none => ∀ w1, Ext w w1 → allD (r0 :: rs) fun i => match ops[i]? with
        | some o => wantD ops o env
          (fun env => match isSoftIn P o with
            | true => False
            | false => hardD P o env w1 fun v w2 => exq (needE P quiet ops i) w1 w2 (putD n env o.dst v none fun env' => drD P n quiet ops m (listed.setIfInBounds i true) env' w2 K))
          (fun env => putD n env o.dst undef (some none) fun env' => drD P n quiet ops m (listed.setIfInBounds i true) env' w1 K)
        | none => False
def bare (w : World) : World := { w with heap := #[] }
def softE (P : Program) (D : Nat → Prop) (o : Oper) (env : Env) (w : World) (K : Value → Option (Option Bool) → Prop) : Prop :=
  match o.op with
  | .load t a => ldD P w t (ev env a) fun v => (∀ w', Ch D w w' → ldD P w' t (ev env a) fun u => u = v) ∧ K v none
  | _ => softD P o env (bare w) K
def softF (P : Program) (D : Nat → Prop) (b : Bool) (o : Oper) (env : Env) (w : World) (K : Value → Option (Option Bool) → Prop) : Prop :=
  match b with
  | true => softE P D o env w K
  | false => softD P o env w K
def callQE (P : Program) (D : Nat → Prop) (fv : Value) (args : List Value) (w : World) (K : Value → Prop) : Prop :=
  ∃ v, (∀ w', Ch D w w' → callV P fv args w' fun u w3 => u = v ∧ Ext w' w3) ∧ K v
def quietE (P : Program) (D : Nat → Prop) (o : Oper) (env : Env) (w : World) (K : Value → Prop) : Prop :=
  match o.op with
  | .call c => (match c.callee with
    | .value f => callQE P D (ev env f) (evs env c.args) w K
    | _ => False)
  | _ => False
def exqE (D : Nat → Prop) (b : Bool) (w w' : World) (A : Prop) : Prop :=
  match b with
  | true => Ch D w w' ∧ A
  | false => A
def drE (P : Program) (n : Nat) (quiet : List Nat) (ops : Array Oper) (D : Nat → Prop) : Nat → Array Bool → Env → World → Cont → Prop
  | 0, listed, env, w, K => match Region.ready .any ops listed with
    | [] => ∀ w1, Ext w w1 → K env w1
    | _ :: _ => False
  | m + 1, listed, env, w, K => match Region.ready .any ops listed with
    | [] => ∀ w1, Ext w w1 → K env w1
    | r0 :: rs => match pickSoft P quiet ops listed (r0 :: rs) with
      | some i => (match ops[i]? with
        | some o => wantD ops o env
          (fun env => match isSoftIn P o with
            | true => softF P D (needS P quiet ops i) o env w fun v kb => putD n env o.dst v kb fun env' => drE P n quiet ops D m (listed.setIfInBounds i true) env' w K
            | false => quietE P D o env w fun v => putD n env o.dst v none fun env' => drE P n quiet ops D m (listed.setIfInBounds i true) env' w K)
          (fun env => putD n env o.dst undef (some none) fun env' => drE P n quiet ops D m (listed.setIfInBounds i true) env' w K)
        | none => False)
      | none => ∀ w1, Ext w w1 → allD (r0 :: rs) fun i => match ops[i]? with
        | some o => wantD ops o env
          (fun env => match isSoftIn P o with
            | true => False
            | false => hardD P o env w1 fun v w2 => exqE D (needE P quiet ops i) w1 w2 (putD n env o.dst v none fun env' => drE P n quiet ops D m (listed.setIfInBounds i true) env' w2 K))
          (fun env => putD n env o.dst undef (some none) fun env' => drE P n quiet ops D m (listed.setIfInBounds i true) env' w1 K)
        | none => False
def dsts (ops : List Oper) : List Nat := ops.filterMap (·.dst)
def wr : Code → List Nat
  | .region _ ops _ => dsts ops.toList
  | .seq a b => wr a ++ wr b
  | .cond _ a b => wr a ++ wr b
  | .block _ b => wr b
  | .loop b => wr b
  | .scope b => wr b
  | _ => []
def bindK : List Nat → Nat → List Value → Env → Env
  | [], _, _, env => env
  | s :: r, i, xs, env => ⟨s, gx xs i, none⟩ :: bindK r (i + 1) xs env
def bindY : List Nat → (Nat → Value) → Env → Env
  | [], _, env => env
  | s :: r, ys, env => ⟨s, ys s, none⟩ :: bindY r ys env
def getK (keep : List Nat) (env : Env) : List Value := keep.map (look env)
def slotsOk (n : Nat) (l : List Nat) : Bool := l.all fun s => Nat.blt s n
def joinD (n : Nat) (keep W : List Nat) (env : Env) (K : Cont) (F : Cont → Prop) : Prop :=
  match slotsOk n keep && slotsOk n W with
  | true => jn (fun J => F fun env' w' => J (getK keep env') w') (fun xs w => ∀ ys : Nat → Value, K (bindK keep 0 xs (bindY W ys env)) w)
  | false => False
def regD (P : Program) (n : Nat) (ops : Array Oper) (draw eh : Bool) (quiet : List Nat) (env : Env) (w : World) (K : Cont) : Prop :=
  match draw with
  | false => opsD P n ops ops.toList env w K
  | true => match eh with
    | false => drD P n quiet ops ops.size (Array.replicate ops.size false) env w K
    | true => ∃ D : Nat → Prop, drE P n quiet ops D ops.size (Array.replicate ops.size false) env w K
def hL : Hint → Hint | .node _ l _ => l | _ => .leaf
def hR : Hint → Hint | .node _ _ r => r | _ => .leaf
def hK : Hint → Option (List Nat) | .node k _ _ => k | .reg _ k => k | .regE _ k => k | _ => none
def hQ : Hint → List Nat | .reg q _ => q | .regE q _ => q | _ => []
def hE : Hint → Bool | .regE _ _ => true | _ => false
def thenD (next : Cont) (Q : Ex → Cont) : Ex → Cont
  | .nrm, env, w => next env w
  | e, env, w => Q e env w
def blockD (id : Nat) (Q : Ex → Cont) : Ex → Cont
  | .ext i, env, w => match Nat.beq i id with
    | true => Q .nrm env w
    | false => Q (.ext i) env w
  | e, env, w => Q e env w
def condD (env : Env) (c : Operand) (A B : Env → Prop) : Prop :=
  match evk env c with
  | some (some true) => A env
  | some (some false) => B env
  | some none => False
  | none => match c with
    | .tmp s => cnd (look env s) (A (⟨s, .bool true, some (some true)⟩ :: env)) (B (⟨s, .bool false, some (some false)⟩ :: env))
    | _ => cnd (ev env c) (A env) (B env)
def den (P : Program) (n : Nat) : Code → Hint → (Ex → Cont) → Env → World → Prop
  | .skip, _, Q, env, w => Q .nrm env w
  | .label _, _, Q, env, w => Q .nrm env w
  | .ret, _, Q, env, w => Q .ret env w
  | .exit id, _, Q, env, w => Q (.ext id) env w
  | .region _ ops draw, h, Q, env, w => match hK h with
    | none => regD P n ops draw (hE h) (hQ h) env w (Q .nrm)
    | some keep => joinD n keep (dsts ops.toList) env (Q .nrm) fun J => regD P n ops draw (hE h) (hQ h) env w J
  | .seq a b, h, Q, env, w => den P n a (hL h) (thenD (den P n b (hR h) Q) Q) env w
  | .cond c x y, h, Q, env, w => match hK h with
    | none => condD env c (fun env => den P n x (hL h) Q env w) (fun env => den P n y (hR h) Q env w)
    | some keep => joinD n keep (wr x ++ wr y) env (Q .nrm) fun J => condD env c (fun env => den P n x (hL h) (thenD J Q) env w) (fun env => den P n y (hR h) (thenD J Q) env w)
  | .block id b, h, Q, env, w => den P n b h (blockD id Q) env w
  | .scope b, h, Q, env, w => den P n b h Q env w
  | .loop b, h, Q, env, w => match slotsOk n ((hK h).getD []) && slotsOk n (wr b) with
    | true => lp (fun Kn xs w => ∀ ys : Nat → Value, den P n b (hL h) (thenD (fun env' w' => Kn (getK ((hK h).getD []) env') w') Q) (bindK ((hK h).getD []) 0 xs (bindY (wr b) ys env)) w) (getK ((hK h).getD []) env) w
    | false => False
  | _, _, _, _, _ => False
def resD (P : Program) (env : Env) (w : World) : List ResultVar → (List Value → Prop) → Prop
  | [], K => K []
  | .tmp t :: r, K => resD P env w r fun vs => K (look env t :: vs)
  | .cell a t :: r, K => ldD P w t (look env a) fun v => resD P env w r fun vs => K (v :: vs)
def retV : List Value → Value
  | [v] => v
  | vs => .tuple vs.toArray
def initEnv : Nat → List Value → Env
  | _, [] => []
  | i, v :: r => ⟨i, v, none⟩ :: initEnv (i + 1) r
def denF (P : Program) (fn : Func) (c : Code) (h : Hint) (args : List Value) (w : World) (R : Value → World → Prop) : Prop :=
  den P fn.ntmps c h (fun e env w => match e with
    | .nrm => resD P env w fn.results.toList fun vs => R (retV vs) w
    | .ret => resD P env w fn.results.toList fun vs => R (retV vs) w
    | .ext _ => False) (initEnv 0 args) w

end Go.Vc

namespace Go.Vc

structure Ag (n : Nat) (env : Env) (a : Act) : Prop where
  defers : a.defers = []
  size : a.tmps.size = n
  vals : ∀ s, a.tmps.getD s undef = look env s
  ok : EnvOk env
def Same (W : List Nat) (env env' : Env) : Prop := ∀ s, s ∉ W → look env' s = look env s
theorem Same.refl (W : List Nat) (env : Env) : Same W env env := fun _ _ => rfl
theorem Same.trans {W : List Nat} {a b c : Env} (h : Same W a b) (k : Same W b c) : Same W a c := fun s hs => (k s hs).trans (h s hs)
theorem Same.mono {W W' : List Nat} {a b : Env} (h : Same W a b) (hw : ∀ s, s ∈ W → s ∈ W') : Same W' a b := fun s hs => h s fun e => hs (hw s e)

theorem Ag.eval {n : Nat} {env : Env} {a : Act} (h : Ag n env a) : a.eval = ev env := by
  funext x; cases x <;> first | exact h.vals _ | rfl

theorem beq_false {a b : Nat} (h : a ≠ b) : Nat.beq a b = false := by
  cases e : Nat.beq a b with
  | false => rfl
  | true => exact absurd (Nat.eq_of_beq_eq_true e) h
theorem look_cons (s : Nat) (v : Value) (k : Option (Option Bool)) (env : Env) (t : Nat) : look (⟨s, v, k⟩ :: env) t = if s = t then v else look env t := by
  by_cases h : s = t
  · subst h; simp [look]
  · simp [look, h, beq_false h]
theorem known_cons (s : Nat) (v : Value) (k : Option (Option Bool)) (env : Env) (t : Nat) : known (⟨s, v, k⟩ :: env) t = if s = t then k else known env t := by
  by_cases h : s = t
  · subst h; simp [known]
  · simp [known, h, beq_false h]
theorem EnvOk.cons {env : Env} (h : EnvOk env) {s : Nat} {v : Value} {k : Option (Option Bool)} (hk : ∀ b, k = some b → v = kv b) : EnvOk (⟨s, v, k⟩ :: env) := by
  intro t b hb
  rw [known_cons] at hb
  rw [look_cons]
  split at hb
  · rename_i e; simp [e]; exact hk b hb
  · rename_i e; simp [e]; exact h t b hb

theorem Ag.put {n : Nat} {env : Env} {a : Act} (h : Ag n env a) {d : Nat} (hd : d < n) {v : Value} {k : Option (Option Bool)} (hk : ∀ b, k = some b → v = kv b) : Ag n (⟨d, v, k⟩ :: env) (a.put (some d) v) := by
  refine ⟨h.defers, by simp [Act.put, h.size], fun s => ?_, h.ok.cons hk⟩
  rw [look_cons]
  have hs : d < a.tmps.size := by rw [h.size]; exact hd
  by_cases e : d = s
  · subst e; simp [Act.put, hs]
  · simp only [e, if_false]
    rw [← h.vals s]
    simp [Act.put, Array.getElem?_setIfInBounds_ne e]

theorem Ag.learn {n : Nat} {env : Env} {a : Act} (h : Ag n env a) {s : Nat} {b : Bool} (hs : look env s = .bool b) : Ag n (⟨s, .bool b, some (some b)⟩ :: env) a :=
  ⟨h.defers, h.size, fun t => by
    rw [look_cons, h.vals t]
    split
    · rename_i e; subst e; exact hs
    · rfl, h.ok.cons fun b' e => by cases e; rfl⟩
theorem same_learn {W : List Nat} {env : Env} {s : Nat} {b : Bool} {k : Option (Option Bool)} (hs : look env s = .bool b) : Same W env (⟨s, .bool b, k⟩ :: env) := fun t _ => by
  rw [look_cons]
  split
  · rename_i e; subst e; exact hs.symm
  · rfl
theorem same_cons {W : List Nat} {env : Env} {s : Nat} (hs : s ∈ W) (v : Value) (k : Option (Option Bool)) : Same W env (⟨s, v, k⟩ :: env) := fun t ht => by
  rw [look_cons, if_neg]
  rintro rfl; exact ht hs

theorem putD_ok {n : Nat} {env : Env} {a : Act} {dst : Option Nat} {v : Value} {kb : Option (Option Bool)} {K : Env → Prop} {W : List Nat} (h : putD n env dst v kb K) (ha : Ag n env a)
    (hk : ∀ b, kb = some b → v = kv b) (hw : ∀ d, dst = some d → d ∈ W) : ∃ env', K env' ∧ Ag n env' (a.put dst v) ∧ Same W env env' := by
  unfold putD at h
  cases dst with
  | none => exact ⟨env, h, ha, Same.refl _ _⟩
  | some d =>
    simp only [] at h
    split at h
    · rename_i hlt
      exact ⟨_, h, ha.put (Nat.le_of_ble_eq_true hlt) hk, same_cons (hw d rfl) _ _⟩
    · exact h.elim

theorem yielded_some {n : Nat} {env : Env} {a : Act} (ha : Ag n env a) {ops : Array Oper} {j s : Nat} {b : Bool} (hs : (ops[j]?).bind (·.dst) = some s) (hb : look env s = .bool b) :
    yielded ops a.tmps j = some b := by
  have hv := ha.vals s
  rw [hb] at hv
  have : a.tmps[s]? = some (.bool b) := by
    cases e : a.tmps[s]? with
    | none => simp [e, undef] at hv
    | some x => simp [e] at hv; rw [hv]
  simp [yielded, hs, this]

theorem wantD_ok {n : Nat} {env : Env} {a : Act} {ops : Array Oper} {o : Oper} {A B : Env → Prop} (h : wantD ops o env A B) (ha : Ag n env a) (W : List Nat) :
    ∃ env', Ag n env' a ∧ Same W env env' ∧ ((Region.wanted o (yielded ops a.tmps) = true ∧ A env') ∨ (Region.wanted o (yielded ops a.tmps) = false ∧ B env')) := by
  unfold wantD at h
  cases hg : o.guard with
  | none => simp only [hg] at h; exact ⟨env, ha, Same.refl _ _, .inl ⟨by simp [Region.wanted, hg], h⟩⟩
  | some jw =>
    obtain ⟨j, want⟩ := jw
    simp only [hg] at h
    cases hs : (ops[j]?).bind (·.dst) with
    | none =>
      simp only [hs] at h
      exact ⟨env, ha, Same.refl _ _, .inr ⟨by simp [Region.wanted, hg, yielded, hs], h⟩⟩
    | some s =>
      simp only [hs] at h
      cases hk : known env s with
      | some b =>
        simp only [hk] at h
        cases b with
        | none =>
          refine ⟨env, ha, Same.refl _ _, .inr ⟨?_, h⟩⟩
          have hv := ha.vals s
          rw [ha.ok s none hk] at hv
          have hy : yielded ops a.tmps j = none := by
            simp only [yielded, hs, Option.bind_some]
            cases e : a.tmps[s]? with
            | none => rfl
            | some x => simp [e, kv] at hv; rw [hv]; rfl
          simp [Region.wanted, hg, hy]
        | some b =>
        have hy := yielded_some ha hs (ha.ok s (some b) hk)
        simp only [] at h
        split at h
        · rename_i e
          exact ⟨env, ha, Same.refl _ _, .inl ⟨by simp [Region.wanted, hg, hy]; simpa using e, h⟩⟩
        · rename_i e
          exact ⟨env, ha, Same.refl _ _, .inr ⟨by simp [Region.wanted, hg, hy]; simpa using e, h⟩⟩
      | none =>
        simp only [hk] at h
        have key : ∀ {X Y : Prop}, cnd (look env s) X Y → ∃ b, look env s = .bool b ∧ (if b then X else Y) := by
          intro X Y ⟨b, hb, h1, h2⟩
          refine ⟨b, hb, ?_⟩
          cases b
          · simpa using h2 rfl
          · simpa using h1 rfl
        cases want
        · obtain ⟨b, hb, hx⟩ := key h
          have hy := yielded_some ha hs hb
          cases b
          · exact ⟨_, ha.learn hb, same_learn hb, .inl ⟨by simp [Region.wanted, hg, hy], by simpa using hx⟩⟩
          · exact ⟨_, ha.learn hb, same_learn hb, .inr ⟨by simp [Region.wanted, hg, hy], by simpa using hx⟩⟩
        · obtain ⟨b, hb, hx⟩ := key h
          have hy := yielded_some ha hs hb
          cases b
          · exact ⟨_, ha.learn hb, same_learn hb, .inr ⟨by simp [Region.wanted, hg, hy], by simpa using hx⟩⟩
          · exact ⟨_, ha.learn hb, same_learn hb, .inl ⟨by simp [Region.wanted, hg, hy], by simpa using hx⟩⟩

theorem opsD_ok {P : Program} {n : Nat} {ops : Array Oper} {W : List Nat} {Q : Exit → Act → World → Prop} {K : Cont} : ∀ (l : List Oper) (env : Env) (a : Act) (w : World),
    opsD P n ops l env w K → Ag n env a → (∀ o ∈ l, ∀ d, o.dst = some d → d ∈ W) →
    (∀ env' a' w', K env' w' → Ag n env' a' → Same W env env' → Q .normal a' w') → wpList P ops Q l a w := by
  intro l
  induction l with
  | nil => intro env a w h ha _ hq; exact hq env a w h ha (Same.refl _ _)
  | cons o r ih =>
    intro env a w h ha hW hq
    have hWo : ∀ d, o.dst = some d → d ∈ W := hW o (by simp)
    have hWr : ∀ o ∈ r, ∀ d, o.dst = some d → d ∈ W := fun o' ho => hW o' (by simp [ho])
    obtain ⟨env1, ha1, hs1, hc⟩ := wantD_ok h ha W
    have next : ∀ {env2 : Env} {a' w'}, opsD P n ops r env2 w' K → Ag n env2 a' → Same W env1 env2 → wpList P ops Q r a' w' := fun {env2 a' w'} h2 ha2 hs2 =>
      ih env2 a' w' h2 ha2 hWr fun env' a' w' hK hA hS => hq env' a' w' hK hA ((hs1.trans hs2).trans hS)
    unfold wpList
    rcases hc with ⟨hw, hA⟩ | ⟨hw, hB⟩
    · rw [hw]
      refine .inl ?_
      split at hA
      · rename_i hsoft
        obtain ⟨v, kb, hrun, hp, hkb⟩ := soft_ok ha1.eval ha1.ok hsoft hA
        unfold Oper.wp
        rw [hrun w (Ext.refl w), Oper.upon_value]
        obtain ⟨env2, h2, ha2, hs2⟩ := putD_ok hp ha1 hkb hWo
        exact next h2 ha2 hs2
      · have := hard_ok (Q := Q) ha1.eval hA
        refine Oper.wp_mono (fun a' w' ⟨v, he, hp⟩ => ?_) this
        obtain ⟨env2, h2, ha2, hs2⟩ := putD_ok hp ha1 (fun b e => by cases e) hWo
        rw [he]
        exact next h2 ha2 hs2
    · rw [hw]
      obtain ⟨env2, h2, ha2, hs2⟩ := putD_ok hB ha1 (fun b e => by cases e; rfl) hWo
      exact next h2 ha2 hs2

end Go.Vc

namespace Go.Vc
section
variable {P : Program} {E : World → World → Prop} {ops : Array Oper} {quiet : List Nat}

def quietRun (P : Program) (v : Value) (w : World) : Result Next → Prop
  | .ok (.value u) w' => w' = w ∧ u = v
  | .ok (.enter f args) w' => w' = w ∧ Calls P f args w (fun e w3 => e = .returned v ∧ Ext w w3)
  | _ => False
def Yc (P : Program) (E : World → World → Prop) (ops : Array Oper) (mv : Bool) (o : Oper) (v : Value) (a : Act) (w : World) : Prop :=
  (Region.wanted o (yielded ops a.tmps) = true ∧ ∀ w', (mv = true ∨ E w w') → quietRun P v w' ((execOp a.eval o).run P w')) ∨
  (Region.wanted o (yielded ops a.tmps) = false ∧ v = undef)
theorem Yc.of_same {mv : Bool} {o : Oper} {v : Value} {a a' : Act} {w : World} (hy : Yc P E ops mv o v a w) (he : execOp a'.eval o = execOp a.eval o)
    (hw : Region.wanted o (yielded ops a'.tmps) = Region.wanted o (yielded ops a.tmps)) : Yc P E ops mv o v a' w := by
  unfold Yc at *
  rw [he, hw]
  exact hy
theorem Yc.later (hT : ∀ w w' w'' : World, E w w' → E w' w'' → E w w'') {mv : Bool} {o : Oper} {v : Value} {a : Act} {w w1 : World} (hy : Yc P E ops mv o v a w) (he : mv = true ∨ E w w1) : Yc P E ops mv o v a w1 := by
  rcases hy with ⟨h1, h2⟩ | h
  · refine .inl ⟨h1, fun w' hw' => h2 w' ?_⟩
    rcases he with he | he
    · exact .inl he
    · exact hw'.imp id (hT _ _ _ he)
  · exact .inr h

def AnyW (P : Program) (E : World → World → Prop) (quiet : List Nat) (ops : Array Oper) (Q : Act → World → Prop) : Nat → Array Bool → Act → World → Prop
  | 0, listed, a, w => ∀ w1, Ext w w1 → Region.ready .any ops listed = [] ∧ Q a w1
  | m + 1, listed, a, w => ∀ w1, Ext w w1 → (Region.ready .any ops listed = [] → Q a w1) ∧
    ∀ i ∈ Region.ready .any ops listed, wpOp P ops (fun _ _ _ => False) i (fun a' w' => ((needE P quiet ops i = true → E w1 w') ∧ (isSoftAt P ops i = true → Ext w1 w')) ∧ AnyW P E quiet ops Q m (listed.setIfInBounds i true) a' w') a w1
theorem AnyW.later {Q : Act → World → Prop} {m : Nat} {listed : Array Bool} {a : Act} {w w1 : World} (h : AnyW P E quiet ops Q m listed a w) (he : Ext w w1) : AnyW P E quiet ops Q m listed a w1 := by
  cases m <;> exact fun w2 h2 => h w2 (he.trans h2)

theorem wpOp_weak {Q' : Exit → Act → World → Prop} {i : Nat} {K K' : Act → World → Prop} {a : Act} {w : World} (h : wpOp P ops (fun _ _ _ => False) i K a w) (hk : ∀ a w, K a w → K' a w) : wpOp P ops Q' i K' a w := by
  unfold wpOp at *
  split
  · rename_i ho; simp only [ho] at h; exact hk _ _ h
  · rename_i o ho
    simp only [ho] at h
    split
    · rename_i hw
      simp only [hw, if_true] at h
      refine .inl ?_
      rcases h with h | ⟨_, a, w, h⟩
      · unfold Oper.wp at *
        generalize (execOp a.eval o).run P w = r at *
        cases r with
        | ok n w' =>
          cases n <;> simp only [Oper.upon] at h ⊢ <;>
            first
              | exact hk _ _ h
              | exact Calls.mono h (fun e w'' he => by cases e <;> first | exact hk _ _ he | exact he.elim | exact (let ⟨_, _, hh⟩ := he; hh.elim))
              | exact Rows.mono h (fun _ _ he => hk _ _ he)
        | halt x w' => cases x <;> simp only [Oper.upon] at h
      · exact h.elim
    · rename_i hw; simp only [hw] at h; exact hk _ _ h

theorem wpAny_of_AnyW {Q : Act → World → Prop} {Q' : Exit → Act → World → Prop} (hQ : ∀ a w, Q a w → Q' .normal a w) : ∀ (m : Nat) (listed : Array Bool) (a : Act) (w : World),
    AnyW P E quiet ops Q m listed a w → wpAny P .any ops Q' m listed a w
  | 0, _, _, w, h => ⟨(h w (Ext.refl w)).1, hQ _ _ (h w (Ext.refl w)).2⟩
  | m + 1, _, _, w, h => ⟨fun h0 => hQ _ _ ((h w (Ext.refl w)).1 h0), fun i hi => wpOp_weak ((h w (Ext.refl w)).2 i hi) fun a' w' hh => wpAny_of_AnyW hQ m _ a' w' hh.2⟩

theorem wpOp_putC {j : Nat} {oi oj : Oper} {v : Value} (hj : ops[j]? = some oj) (hap : oi.apart ops oj = true)
    (hsi : ∀ cs b, oi.op ≠ .select cs b) (hsj : ∀ cs b, oj.op ≠ .select cs b) {mv : Bool} {wy : World} {K : Act → World → Prop} {a : Act} {w : World}
    (hy : Yc P E ops mv oi v a wy) (h : wpOp P ops (fun _ _ _ => False) j K (a.put oi.dst v) w) :
    wpOp P ops (fun _ _ _ => False) j (fun a' w' => Yc P E ops mv oi v a' wy ∧ K (a'.put oi.dst v) w') a w := by
  obtain ⟨h1, h2, h3⟩ := Oper.apart_spec hap
  have keep : ∀ (a : Act), Yc P E ops mv oi v a wy → ∀ u, Yc P E ops mv oi v (a.put oj.dst u) wy := fun a hy u =>
    hy.of_same (execOp_put oi hsi a oj.dst u h3) (wanted_put oi a oj.dst u h3)
  have keepD : ∀ d, Yc P E ops mv oi v { a with defers := d :: a.defers } wy := fun d => hy.of_same rfl rfl
  unfold wpOp at *
  simp only [hj] at *
  rw [wanted_put oj a oi.dst v h1] at h
  split
  · rename_i hw
    simp only [hw, if_true] at h
    rcases h with h | ⟨_, a, w, hh⟩
    case inr => exact hh.elim
    refine .inl ?_
    unfold Oper.wp at *
    rw [execOp_put oj hsj a oi.dst v h1] at h
    generalize (execOp a.eval oj).run P w = r at *
    cases r with
    | ok n w' =>
      cases n <;> simp only [Oper.upon] at h ⊢
      case value u => exact ⟨keep a hy u, by rw [← Act.put_comm a v u h2]; exact h⟩
      case skip => exact ⟨keep a hy _, by rw [← Act.put_comm a v undef h2]; exact h⟩
      case defer d =>
        refine ⟨keep _ (keepD d) _, ?_⟩
        rw [← Act.put_comm _ v undef h2, ← Act.put_defers]
        exact h
      case enter f args =>
        refine Calls.mono h fun e w'' he => ?_
        cases e with
        | returned u => exact ⟨keep a hy u, by rw [← Act.put_comm a v u h2]; exact he⟩
        | panicked c => exact he.elim
        | outgrown => exact he
      case row row args => exact Rows.mono h fun u w'' he => ⟨keep a hy u, by rw [← Act.put_comm a v u h2]; exact he⟩
    | halt x w' => cases x <;> simp only [Oper.upon] at h
  · rename_i hw
    simp only [hw] at h
    exact ⟨keep a hy _, by rw [← Act.put_comm a v undef h2]; exact h⟩

theorem Yc.wpOp (hX : ∀ w w' : World, Ext w w' → E w w') {i : Nat} {oi : Oper} {v : Value} {a : Act} {w w1 : World} {mv : Bool} (hi : ops[i]? = some oi) (hy : Yc P E ops mv oi v a w) (he : Ext w w1)
    {K : Act → World → Prop} (h : ∀ w2, Ext w1 w2 → K (a.put oi.dst v) w2) : wpOp P ops (fun _ _ _ => False) i K a w1 := by
  unfold Go.wpOp
  simp only [hi]
  rcases hy with ⟨hw, hv⟩ | ⟨hw, rfl⟩
  · simp only [hw, if_true]
    refine .inl ?_
    have hq := hv w1 (.inr (hX _ _ he))
    unfold Oper.wp
    generalize (execOp a.eval oi).run P w1 = r at *
    cases r with
    | halt x w' => exact hq.elim
    | ok n w' =>
      cases n <;> first | exact hq.elim | skip
      case value u => obtain ⟨rfl, rfl⟩ := hq; exact h _ (Ext.refl _)
      case enter f args =>
        obtain ⟨rfl, hc⟩ := hq
        rw [Oper.upon_enter]
        refine hc.mono fun e w3 ⟨h1, h2⟩ => ?_
        subst h1
        exact h _ h2
  · simp only [hw, Bool.false_eq_true, if_false]; exact h _ (Ext.refl _)

def Down (ops : Array Oper) (listed : Array Bool) : Prop := ∀ (k : Nat) (o : Oper), ops[k]? = some o → listed.getD k false = true → ∀ e ∈ o.after, Region.binds .any e = true → listed.getD e.on false = true
theorem down_init (n : Nat) : Down ops (Array.replicate n false) := fun k o _ hk => by
  have : (Array.replicate n false).getD k false = false := by simp [Array.getElem?_replicate]; split <;> rfl
  rw [this] at hk; cases hk
theorem down_set {listed : Array Bool} (h : Down ops listed) {i : Nat} (hi : i ∈ Region.ready .any ops listed) : Down ops (listed.setIfInBounds i true) := by
  intro k o ho hk e he hb
  obtain ⟨_, oi, hoi, hall⟩ := mem_ready.1 hi
  by_cases hki : i = k
  · subst hki
    rw [ho] at hoi; cases hoi
    exact getD_set_true (hall e he hb)
  · rw [getD_set_ne false hki] at hk
    exact getD_set_true (h k o ho hk e he hb)
def Forced (ops : Array Oper) (i j : Nat) : Prop := ∀ listed : Array Bool, Down ops listed → (∀ o, ops[j]? = some o → ∀ e ∈ o.after, Region.binds .any e = true → listed.getD e.on false = true) → listed.getD i false = true
theorem fold_bits (acc : List Nat) (i : Nat) : ∀ (l : List Edge) (s : Nat), (l.foldl (fun s e => match Region.binds .any e with | true => s ||| 2 ^ e.on ||| acc.getD e.on 0 | false => s) s).testBit i = true →
    s.testBit i = true ∨ ∃ e ∈ l, Region.binds .any e = true ∧ (e.on = i ∨ (acc.getD e.on 0).testBit i = true)
  | [], s, h => .inl h
  | e :: l, s, h => by
    rw [List.foldl_cons] at h
    rcases fold_bits acc i l _ h with h | ⟨e', he, hb⟩
    · cases hb : Region.binds .any e with
      | false => rw [hb] at h; exact .inl h
      | true =>
        rw [hb] at h
        simp only [Nat.testBit_or, Bool.or_eq_true, Nat.testBit_two_pow, decide_eq_true_eq] at h
        rcases h with (h | h) | h
        · exact .inl h
        · exact .inr ⟨e, by simp, hb, .inl h⟩
        · exact .inr ⟨e, by simp, hb, .inr h⟩
    · exact .inr ⟨e', by simp [he], hb⟩
theorem bf_forced : ∀ (r : List Oper) (acc : List Nat), (∀ j, r[j]? = ops[acc.length + j]?) → (∀ j i, (acc.getD j 0).testBit i = true → Forced ops i j) → ∀ j i, ((bf r acc).getD j 0).testBit i = true → Forced ops i j
  | [], acc, _, h => h
  | o :: r, acc, hr, h => by
    have h0 : ops[acc.length]? = some o := by simpa using (hr 0).symm
    refine bf_forced r (acc ++ [bfStep acc o]) (fun j => by have := hr (j + 1); simpa [Nat.add_assoc, Nat.add_comm 1 j] using this) ?_
    intro j i hb
    rcases Nat.lt_trichotomy j acc.length with hj | hj | hj
    · rw [List.getD_eq_getElem?_getD, List.getElem?_append_left hj, ← List.getD_eq_getElem?_getD] at hb
      exact h j i hb
    · subst hj
      rw [List.getD_eq_getElem?_getD, List.getElem?_append_right (Nat.le_refl _)] at hb
      simp at hb
      rcases fold_bits acc i _ _ hb with hb | ⟨e, he, hbe, hb⟩
      · simp at hb
      · intro listed hd hl
        have hon := hl o h0 e (by simpa using he) hbe
        rcases hb with rfl | hb
        · exact hon
        · exact h e.on i hb listed hd (fun o' ho' e' he' hbe' => hd e.on o' ho' hon e' he' hbe')
    · rw [List.getD_eq_getElem?_getD, List.getElem?_eq_none (by simp; omega)] at hb
      simp at hb
theorem needE_of {i j : Nat} {oi : Oper} {listed : Array Bool} (hi : ops[i]? = some oi) (hq : isQuiet P quiet i oi = true) (hm : isMove P quiet oi = false) (hij : i ≠ j) (hd : Down ops listed) (hj : j ∈ Region.ready .any ops listed) (hri : i ∈ Region.ready .any ops listed) (hun : listed.getD i false = false) :
    needE P quiet ops j = true := by
  have hlt : i < ops.size := (Array.getElem?_eq_some_iff.1 hi).1
  simp only [needE, List.any_eq_true, List.mem_range]
  refine ⟨i, hlt, ?_⟩
  simp only [hi, hq, hm, Bool.not_false, Bool.and_true, Bool.true_and]
  have h1 : (i == j) = false := by simpa using hij
  have h2 : ((bf ops.toList []).getD j 0).testBit i = false := by
    rw [Bool.eq_false_iff]
    intro h
    obtain ⟨_, oj, hoj, hall⟩ := mem_ready.1 hj
    have hF := bf_forced (ops := ops) ops.toList [] (fun j => by simp) (fun j i hb => by simp at hb) j i h listed hd (fun o ho e he hb => by rw [hoj] at ho; cases ho; exact hall e he hb)
    rw [hun] at hF; cases hF
  have h3 : ((bf ops.toList []).getD i 0).testBit j = false := by
    rw [Bool.eq_false_iff]
    intro h
    obtain ⟨_, oi', hoi', hall⟩ := mem_ready.1 hri
    have hF := bf_forced (ops := ops) ops.toList [] (fun j => by simp) (fun j i hb => by simp at hb) i j h listed hd (fun o ho e he hb => by rw [hoi'] at ho; cases ho; exact hall e he hb)
    have h0 := (mem_ready.1 hj).1
    have h4 : listed.getD j false = false := by
      rcases Nat.lt_or_ge j listed.size with h' | h'
      · simpa [h'] using h0
      · simp [Array.getElem?_eq_none h']
    rw [h4] at hF; cases hF
  rw [h1, h2, h3]; rfl

theorem needS_of {i j : Nat} {oj : Oper} {listed : Array Bool} (hoj : ops[j]? = some oj) (hs : isSoftIn P oj = false) (hij : i ≠ j) (hd : Down ops listed) (hj : j ∈ Region.ready .any ops listed) (hri : i ∈ Region.ready .any ops listed) :
    needS P quiet ops i = true := by
  have hlt : j < ops.size := (Array.getElem?_eq_some_iff.1 hoj).1
  have un : ∀ {k l : Nat}, k ∈ Region.ready .any ops listed → l ∈ Region.ready .any ops listed → ((bf ops.toList []).getD k 0).testBit l = false := by
    intro k l hk hl
    rw [Bool.eq_false_iff]
    intro h
    obtain ⟨_, ok, hok, hall⟩ := mem_ready.1 hk
    have hF := bf_forced (ops := ops) ops.toList [] (fun j => by simp) (fun j i hb => by simp at hb) k l h listed hd (fun o ho e he hb => by rw [hok] at ho; cases ho; exact hall e he hb)
    have h0 := (mem_ready.1 hl).1
    have h4 : listed.getD l false = false := by
      rcases Nat.lt_or_ge l listed.size with h' | h'
      · simpa [h'] using h0
      · simp [Array.getElem?_eq_none h']
    rw [h4] at hF; cases hF
  unfold needS
  split
  · rfl
  · rw [List.any_eq_true]
    refine ⟨j, List.mem_range.2 hlt, ?_⟩
    have h1 : (i == j) = false := by simpa using hij
    simp only [hoj, hs, h1, un hj hri, un hri hj]
    rfl

theorem AnyW_first {Ei : World → World → Prop} (hX : ∀ w w' : World, Ext w w' → E w w') (hXi : ∀ w w' : World, Ext w w' → Ei w w') (hT : ∀ w w' w'' : World, Ei w w' → Ei w' w'' → Ei w w'') {Q : Act → World → Prop} {i : Nat} {oi : Oper} {v : Value} (hEi : needS P quiet ops i = true → ∀ w w', E w w' → Ei w w') (hi : ops[i]? = some oi) (hsel : ∀ (j : Nat) (o : Oper) cs b, ops[j]? = some o → o.op ≠ .select cs b)
    {mv : Bool} (hmv : mv = isMove P quiet oi) (hqi : isQuiet P quiet i oi = true) :
    ∀ (m : Nat) (listed : Array Bool) (a : Act) (w : World), Down ops listed →
      (∀ j oj, ops[j]? = some oj → j ≠ i → listed.getD j true = false → (∀ e ∈ oj.after, Region.binds .any e = true → e.on ≠ i) → oi.apart ops oj = true) →
      i ∈ Region.ready .any ops listed → Yc P Ei ops mv oi v a w →
      AnyW P E quiet ops Q m (listed.setIfInBounds i true) (a.put oi.dst v) w → AnyW P E quiet ops Q (m + 1) listed a w := by
  intro m
  induction m with
  | zero =>
    intro listed a w _ _ hr hy H w1 he
    refine ⟨fun h => (by rw [h] at hr; cases hr), fun j hj => ?_⟩
    by_cases hji : j = i
    · subst hji
      exact hy.wpOp hXi hi he fun w2 h2 => ⟨⟨fun _ => hX _ _ h2, fun _ => h2⟩, H.later (he.trans h2)⟩
    · have := ready_mono hj hji
      rw [(H w1 he).1] at this
      cases this
  | succ m ih =>
    intro listed a w hd hfree hr hy H w1 he
    refine ⟨fun h => (by rw [h] at hr; cases hr), fun j hj => ?_⟩
    by_cases hji : j = i
    · subst hji
      exact hy.wpOp hXi hi he fun w2 h2 => ⟨⟨fun _ => hX _ _ h2, fun _ => h2⟩, H.later (he.trans h2)⟩
    · have h1 := (H w1 he).2 j (ready_mono hj hji)
      obtain ⟨hjun, oj, hoj, hall⟩ := mem_ready.1 hj
      have hnot : ∀ e ∈ oj.after, Region.binds .any e = true → e.on ≠ i := fun e he hb heq => by
        have h1 := hall e he hb
        have h0 := (mem_ready.1 hr).1
        rw [heq] at h1
        rcases Nat.lt_or_ge i listed.size with h' | h'
        · simp [h'] at h0 h1; rw [h0] at h1; cases h1
        · simp [Array.getElem?_eq_none h'] at h1
      have h2 := wpOp_putC hoj (hfree j oj hoj hji hjun hnot) (fun cs b => hsel i oi cs b hi) (fun cs b => hsel j oj cs b hoj) hy h1
      have hfree' : ∀ k ok, ops[k]? = some ok → k ≠ i → (listed.setIfInBounds j true).getD k true = false →
          (∀ e ∈ ok.after, Region.binds .any e = true → e.on ≠ i) → oi.apart ops ok = true := fun k ok hk hki hun hno => by
        refine hfree k ok hk hki ?_ hno
        by_cases hjk : j = k
        · subst hjk; exact hjun
        · rw [getD_set_ne true hjk] at hun; exact hun
      refine wpOp_mono (fun a' w' h3 => ?_) h2
      obtain ⟨hy', hE, hXX⟩ := h3
      refine ⟨hE, ?_⟩
      -- the worlds beyond w' are such that i yields there what it does
      have hmvE : mv = true ∨ Ei w w' := by
        cases hm : isMove P quiet oi with
        | true => exact .inl (hmv.trans hm)
        | false =>
          cases hso : isSoftIn P oj with
          | true => exact .inr (hT _ _ _ (hXi _ _ he) (hXi _ _ (hE.2 (by unfold isSoftAt; rw [hoj]; exact hso))))
          | false =>
          refine .inr (hT _ _ _ (hXi _ _ he) (hEi (needS_of hoj hso (Ne.symm hji) hd hj hr) _ _ (hE.1 (needE_of hi hqi hm (Ne.symm hji) hd hj hr ?_))))
          have h0 := (mem_ready.1 hr).1
          rcases Nat.lt_or_ge i listed.size with h' | h'
          · simpa [h'] using h0
          · simp [Array.getElem?_eq_none h']
      exact ih (listed.setIfInBounds j true) a' w' (down_set hd hj) hfree' (ready_mono hr (Ne.symm hji)) (Yc.later (E := Ei) hT hy' hmvE) (by rw [Array.setIfInBounds_comm _ _ hji]; exact hXX)

end
end Go.Vc

namespace Go.Vc
section
variable {P : Program} {ops : Array Oper} {quiet : List Nat} {n : Nat}

theorem pickSoft_ok {listed : Array Bool} : ∀ (l : List Nat) {i : Nat}, pickSoft P quiet ops listed l = some i → i ∈ l ∧ ∃ o, ops[i]? = some o ∧ isQuiet P quiet i o = true ∧ Region.free .any ops listed i = true
  | [], _, h => by cases h
  | j :: r, i, h => by
    unfold pickSoft at h
    split at h
    · rename_i o ho
      split at h
      · rename_i hc
        cases h
        simp only [Bool.and_eq_true] at hc
        exact ⟨by simp, o, ho, hc.1, hc.2⟩
      · obtain ⟨h1, h2⟩ := pickSoft_ok r h; exact ⟨by simp [h1], h2⟩
    · obtain ⟨h1, h2⟩ := pickSoft_ok r h; exact ⟨by simp [h1], h2⟩

theorem soft_all {o : Oper} {env : Env} {a : Act} {w : World} {K : Value → Option (Option Bool) → Prop} (he : a.eval = ev env) (hk : EnvOk env) (hs : isSoftIn P o = true) (h : softD P o env w K) :
    ∃ v kb, (∀ w', (isMove P quiet o = true ∨ Ext w w') → (execOp a.eval o).run P w' = .ok (.value v) w') ∧ K v kb ∧ (∀ b, kb = some b → v = kv b) := by
  obtain ⟨v, kb, h1, h2, h3⟩ := soft_ok he hk hs h
  refine ⟨v, kb, fun w' hw' => ?_, h2, h3⟩
  rcases hw' with hm | hE
  · have h0 := h1 w (Ext.refl w)
    obtain ⟨dst, op, type, pos, after, guard⟩ := o
    cases op <;> (try (simp [isMove] at hm; done))
    · simp [execOp] at h0 ⊢; exact h0
    · simp [execOp] at h0 ⊢; exact h0
    · rename_i op t x y yt
      simp only [isMove] at hm
      split at hm
      · rename_i k hu
        simp only [softD, binD, hu] at h
        obtain ⟨u, hu1, -⟩ := intD_ok (P := P) (t := t) (xo := x) (yo := y) h
        have hr : ∀ w', (execOp a.eval ⟨dst, .binOp op t x y yt, type, pos, after, guard⟩).run P w' = .ok (.value u) w' := fun w' => by
          rw [show execOp a.eval ⟨dst, .binOp op t x y yt, type, pos, after, guard⟩ = (do pure (.value (← (do eqGuard op t x y (a.eval x) (a.eval y); binOp op t (a.eval x) (a.eval y))))) by simp only [execOp], he]
          rw [Sem.run_bind, hu1 w']
          rfl
        have e := h0.symm.trans (hr w)
        cases e
        exact hr w'
      · cases hm
    · rename_i s x f
      clear hm
      simp only [softD] at h
      obtain ⟨fs, fl, i, g, hu, hf, hi, hg, hz, ad, hx, -⟩ := fldD_ok h
      have hr : ∀ w', (execOp a.eval ⟨dst, .fieldAddr s x f, type, pos, after, guard⟩).run P w' = .ok (.value (.pointer (some (ad.add fl.offset)))) w' := fun w' => by
        simp [execOp, he, hx, Instr.fieldAt, run_und hu, hf, Instr.sureAddr, fieldPlace, run_size hi, hz]
      have e := h0.symm.trans (hr w)
      cases e
      exact hr w'
    · rename_i t x ix
      simp only [isMove] at hm
      split at hm
      · rename_i el hu
        simp only [softD, elemD, hu] at h
        split at h
        · rename_i ti hi
          obtain ⟨ad, n, c, k, j, hx, hj, g1, g2, -⟩ := h
          have hr : ∀ w', (execOp a.eval ⟨dst, .indexAddr t x ix, type, pos, after, guard⟩).run P w' = .ok (.value (.pointer (some (ad.add (j.toNat * ti.size))))) w' := fun w' => by
            simp [execOp, he, hx, hj, Instr.indexAt, run_und hu, asIntOf, run_size hi, g1, g2]
          have e := h0.symm.trans (hr w)
          cases e
          exact hr w'
        · exact h.elim
      · cases hm
  · exact h1 w' hE

theorem allD_mem {F : Nat → Prop} : ∀ {l : List Nat} {i : Nat}, allD l F → i ∈ l → F i
  | [], _, _, h => by cases h
  | [j], i, h, hm => by simp at hm; subst hm; exact h
  | j :: k :: r, i, h, hm => by
    obtain ⟨h1, h2⟩ := h
    cases hm with
    | head => exact h1
    | tail _ hm => exact allD_mem h2 hm

theorem exq_ok {b : Bool} {w w' : World} {A : Prop} (h : exq b w w' A) : (b = true → Ext w w') ∧ A := by
  cases b
  · exact ⟨(fun e => by cases e), h⟩
  · exact ⟨fun _ => h.1, h.2⟩

theorem drD_ok (hs : Region.noSelect ops = true) {W : List Nat} (hW : ∀ (i : Nat) (o : Oper), ops[i]? = some o → ∀ d, o.dst = some d → d ∈ W) {K : Cont} : ∀ (m : Nat) (listed : Array Bool) (env : Env) (a : Act) (w : World),
    drD P n quiet ops m listed env w K → Ag n env a → Down ops listed → AnyW P Ext quiet ops (fun a' w' => ∃ env', K env' w' ∧ Ag n env' a' ∧ Same W env env') m listed a w := by
  intro m
  induction m with
  | zero =>
    intro listed env a w h ha _ w1 he
    unfold drD at h
    split at h
    · rename_i h0; exact ⟨h0, env, h w1 he, ha, Same.refl _ _⟩
    · exact h.elim
  | succ m ih =>
    intro listed env a w h ha hd
    have weaken : ∀ {env1 : Env} {m : Nat} {listed : Array Bool} {a : Act} {w : World}, Same W env env1 → AnyW P Ext quiet ops (fun a' w' => ∃ env', K env' w' ∧ Ag n env' a' ∧ Same W env1 env') m listed a w →
        AnyW P Ext quiet ops (fun a' w' => ∃ env', K env' w' ∧ Ag n env' a' ∧ Same W env env') m listed a w := by
      intro env1 m
      induction m with
      | zero => intro listed a w hS h w1 he; obtain ⟨h1, e, h2, h3, h4⟩ := h w1 he; exact ⟨h1, e, h2, h3, hS.trans h4⟩
      | succ m ihm =>
        intro listed a w hS h w1 he
        obtain ⟨h1, h2⟩ := h w1 he
        refine ⟨fun h0 => ?_, fun i hi => wpOp_mono (fun a' w' ⟨hE, hh⟩ => ⟨hE, ihm hS hh⟩) (h2 i hi)⟩
        obtain ⟨e, h2, h3, h4⟩ := h1 h0
        exact ⟨e, h2, h3, hS.trans h4⟩
    unfold drD at h
    split at h
    · rename_i h0
      intro w1 he
      exact ⟨fun _ => ⟨env, h w1 he, ha, Same.refl _ _⟩, fun i hi => by rw [h0] at hi; cases hi⟩
    · rename_i r0 rs hr
      split at h
      · rename_i i hp
        obtain ⟨hmem, o, ho, hq, hfree⟩ := pickSoft_ok _ hp
        have hin : i ∈ Region.ready .any ops listed := by rw [hr]; exact hmem
        simp only [ho] at h
        obtain ⟨env1, ha1, hs1, hc⟩ := wantD_ok (W := W) h ha
        refine weaken hs1 ?_
        have first : ∀ {v : Value}, Yc P Ext ops (isMove P quiet o) o v a w → AnyW P Ext quiet ops (fun a' w' => ∃ env', K env' w' ∧ Ag n env' a' ∧ Same W env1 env') m (listed.setIfInBounds i true) (a.put o.dst v) w → _ := fun {v} hy H =>
          AnyW_first (P := P) (E := Ext) (Ei := Ext) (quiet := quiet) (fun _ _ h => h) (fun _ _ h => h) (fun _ _ _ h k => h.trans k) (fun _ _ _ h => h) ho (Region.noSelect_spec hs) rfl hq m listed a w hd (Region.free_spec ho hfree) hin hy H
        have rest : ∀ {v : Value} {kb : Option (Option Bool)}, putD n env1 o.dst v kb (fun env' => drD P n quiet ops m (listed.setIfInBounds i true) env' w K) → (∀ b, kb = some b → v = kv b) →
            AnyW P Ext quiet ops (fun a' w' => ∃ env', K env' w' ∧ Ag n env' a' ∧ Same W env1 env') m (listed.setIfInBounds i true) (a.put o.dst v) w := by
          intro v kb hp hkb
          obtain ⟨env2, h2, ha2, hs2⟩ := putD_ok hp ha1 hkb (hW i o ho)
          have := ih _ env2 _ w h2 ha2 (down_set hd hin)
          have wk : ∀ {m : Nat} {listed : Array Bool} {a : Act} {w : World}, AnyW P Ext quiet ops (fun a' w' => ∃ env', K env' w' ∧ Ag n env' a' ∧ Same W env2 env') m listed a w →
              AnyW P Ext quiet ops (fun a' w' => ∃ env', K env' w' ∧ Ag n env' a' ∧ Same W env1 env') m listed a w := by
            intro m
            induction m with
            | zero => intro listed a w h w1 he; obtain ⟨h1, e, h2, h3, h4⟩ := h w1 he; exact ⟨h1, e, h2, h3, hs2.trans h4⟩
            | succ m ihm =>
              intro listed a w h w1 he
              obtain ⟨h1, h2⟩ := h w1 he
              refine ⟨fun h0 => ?_, fun i hi => wpOp_mono (fun a' w' ⟨hE, hh⟩ => ⟨hE, ihm hh⟩) (h2 i hi)⟩
              obtain ⟨e, h2, h3, h4⟩ := h1 h0
              exact ⟨e, h2, h3, hs2.trans h4⟩
          exact wk this
        rcases hc with ⟨hw, hA⟩ | ⟨hw, hB⟩
        · split at hA
          · rename_i hsoft
            obtain ⟨v, kb, hrun, hp, hkb⟩ := soft_all ha1.eval ha1.ok hsoft hA
            exact first (.inl ⟨hw, fun w' hw' => by rw [hrun w' hw']; exact ⟨rfl, rfl⟩⟩) (rest hp hkb)
          · rename_i hsoft
            have hnm : isMove P quiet o = false := by
              cases hm : isMove P quiet o with
              | false => rfl
              | true =>
                obtain ⟨dst, op, type, pos, after, guard⟩ := o
                cases op <;> first | (simp [isMove] at hm; done) | (simp [isSoftIn, isSoft] at hsoft)
            obtain ⟨dst, op, type, pos, after, guard⟩ := o
            cases op <;> first | exact hA.elim | skip
            rename_i c
            obtain ⟨callee, args, argTypes⟩ := c
            cases callee <;> first | exact hA.elim | skip
            rename_i f
            obtain ⟨v, hv, hp⟩ := hA
            refine first (.inl ⟨hw, fun w' hw' => ?_⟩) (rest hp fun b e => by cases e)
            have hE : Ext w w' := hw'.resolve_left (by rw [hnm]; simp)
            have hx : execOp a.eval ⟨dst, .call ⟨.value f, args, argTypes⟩, type, pos, after, guard⟩ = (do let d ← Deferred.ofValue (ev env1 f) (evs env1 args).toArray; invoke d.target d.args) := by
              rw [evs_eq ha1.eval, ← ha1.eval]
              simp only [execOp, resolve]
            obtain ⟨T, ⟨fn, fst, cap, hfv, hb, hcall⟩ | ⟨fn, fst, cap, u, hfv, hr, hu⟩, hT⟩ := hv w' hE
            · rw [hx, invoke_run hfv hb]
              exact ⟨rfl, hcall.mono fun e w3 ⟨u, he, hu⟩ => ⟨by rw [he, (hT _ _ hu).1], (hT _ _ hu).2⟩⟩
            · rw [hx, invoke_runX hfv, hr]
              exact ⟨rfl, (hT _ _ hu).1⟩
        · exact first (.inr ⟨hw, rfl⟩) (rest hB fun b e => by cases e; rfl)
      · intro w1 he
        refine ⟨(fun h0 => by rw [h0] at hr; cases hr), fun i hi => ?_⟩
        have hi0 := hi
        rw [hr] at hi
        have hF := allD_mem (h w1 he) hi
        cases ho : ops[i]? with
        | none => simp only [ho] at hF
        | some o =>
          simp only [ho] at hF
          obtain ⟨env1, ha1, hs1, hc⟩ := wantD_ok (W := W) hF ha
          unfold wpOp
          simp only [ho]
          have rest : ∀ {v : Value} {kb : Option (Option Bool)} {w2 : World}, (∀ b, kb = some b → v = kv b) → putD n env1 o.dst v kb (fun env' => drD P n quiet ops m (listed.setIfInBounds i true) env' w2 K) →
              AnyW P Ext quiet ops (fun a' w' => ∃ env', K env' w' ∧ Ag n env' a' ∧ Same W env env') m (listed.setIfInBounds i true) (a.put o.dst v) w2 := by
            intro v kb w2 hkb hp
            obtain ⟨env2, h2, ha2, hs2⟩ := putD_ok hp ha1 hkb (hW i o ho)
            exact weaken (hs1.trans hs2) (ih _ env2 _ w2 h2 ha2 (down_set hd hi0))
          rcases hc with ⟨hw, hA⟩ | ⟨hw, hB⟩
          · rw [hw]
            refine .inl ?_
            split at hA
            · exact hA.elim
            rename_i hso
            refine Oper.wp_mono (fun a' w' ⟨v, e, hp⟩ => ?_) (hard_ok ha1.eval hA)
            obtain ⟨hE, hp⟩ := exq_ok hp
            rw [e]
            exact ⟨⟨hE, fun h => (by unfold isSoftAt at h; rw [ho] at h; exact absurd h (by simpa using hso))⟩, rest (fun b e => by cases e) hp⟩
          · rw [hw]
            exact ⟨⟨fun _ => Ext.refl _, fun _ => Ext.refl _⟩, rest (fun b e => by cases e; rfl) hB⟩

theorem chX {D : Nat → Prop} {w w' : World} (h : Ext w w') : Ch D w w' := ⟨h.os, h.tape, h.output, h.size, fun k hk _ => h.block k hk⟩
theorem chT {D : Nat → Prop} {w w' w'' : World} (h : Ch D w w') (k : Ch D w' w'') : Ch D w w'' :=
  ⟨k.os.trans h.os, k.tape.trans h.tape, k.output.trans h.output, Nat.le_trans h.size k.size, fun i hi hn => (k.block i (by have := h.size; omega) hn).trans (h.block i hi hn)⟩
theorem bare_ext {D : Nat → Prop} {w w' : World} (h : Ch D w w') : Ext (bare w) w' := ⟨h.os, h.tape, h.output, Nat.zero_le _, fun k hk => absurd hk (Nat.not_lt_zero k)⟩
theorem exqE_ok {D : Nat → Prop} {b : Bool} {w w' : World} {A : Prop} (h : exqE D b w w' A) : (b = true → Ch D w w') ∧ A := by
  cases b
  · exact ⟨(fun e => by cases e), h⟩
  · exact ⟨fun _ => h.1, h.2⟩
theorem soft_allE {D : Nat → Prop} {o : Oper} {env : Env} {a : Act} {w : World} {K : Value → Option (Option Bool) → Prop} (he : a.eval = ev env) (hk : EnvOk env) (hs : isSoftIn P o = true) (h : softE P D o env w K) :
    ∃ v kb, (∀ w', (isMove P quiet o = true ∨ Ch D w w') → (execOp a.eval o).run P w' = .ok (.value v) w') ∧ K v kb ∧ (∀ b, kb = some b → v = kv b) := by
  have other : softD P o env (bare w) K → ∃ v kb, (∀ w', (isMove P quiet o = true ∨ Ch D w w') → (execOp a.eval o).run P w' = .ok (.value v) w') ∧ K v kb ∧ (∀ b, kb = some b → v = kv b) := fun h => by
    obtain ⟨v, kb, h1, h2, h3⟩ := soft_all he hk hs h
    exact ⟨v, kb, fun w' hw' => h1 w' (hw'.imp id bare_ext), h2, h3⟩
  obtain ⟨dst, op, type, pos, after, guard⟩ := o
  cases op <;> first | exact other h | skip
  rename_i t x
  obtain ⟨v, hv, hst, hK⟩ := ldD_ok (P := P) (show ldD P w t (ev env x) fun v => (∀ w', Ch D w w' → ldD P w' t (ev env x) fun u => u = v) ∧ K v none from h)
  refine ⟨v, none, fun w' hw' => ?_, hK, fun b e => by cases e⟩
  have hC : Ch D w w' := hw'.resolve_left (by simp [isMove])
  obtain ⟨u, hu, e⟩ := ldD_ok (P := P) (hst w' hC)
  subst e
  simp only [execOp, he]
  have := hu w' (Ext.refl _)
  simp [this]
theorem drE_ok {D : Nat → Prop} (hs : Region.noSelect ops = true) {W : List Nat} (hW : ∀ (i : Nat) (o : Oper), ops[i]? = some o → ∀ d, o.dst = some d → d ∈ W) {K : Cont} : ∀ (m : Nat) (listed : Array Bool) (env : Env) (a : Act) (w : World),
    drE P n quiet ops D m listed env w K → Ag n env a → Down ops listed → AnyW P (Ch D) quiet ops (fun a' w' => ∃ env', K env' w' ∧ Ag n env' a' ∧ Same W env env') m listed a w := by
  intro m
  induction m with
  | zero =>
    intro listed env a w h ha _ w1 he
    unfold drE at h
    split at h
    · rename_i h0; exact ⟨h0, env, h w1 he, ha, Same.refl _ _⟩
    · exact h.elim
  | succ m ih =>
    intro listed env a w h ha hd
    have weaken : ∀ {env1 : Env} {m : Nat} {listed : Array Bool} {a : Act} {w : World}, Same W env env1 → AnyW P (Ch D) quiet ops (fun a' w' => ∃ env', K env' w' ∧ Ag n env' a' ∧ Same W env1 env') m listed a w →
        AnyW P (Ch D) quiet ops (fun a' w' => ∃ env', K env' w' ∧ Ag n env' a' ∧ Same W env env') m listed a w := by
      intro env1 m
      induction m with
      | zero => intro listed a w hS h w1 he; obtain ⟨h1, e, h2, h3, h4⟩ := h w1 he; exact ⟨h1, e, h2, h3, hS.trans h4⟩
      | succ m ihm =>
        intro listed a w hS h w1 he
        obtain ⟨h1, h2⟩ := h w1 he
        refine ⟨fun h0 => ?_, fun i hi => wpOp_mono (fun a' w' ⟨hE, hh⟩ => ⟨hE, ihm hS hh⟩) (h2 i hi)⟩
        obtain ⟨e, h2, h3, h4⟩ := h1 h0
        exact ⟨e, h2, h3, hS.trans h4⟩
    unfold drE at h
    split at h
    · rename_i h0
      intro w1 he
      exact ⟨fun _ => ⟨env, h w1 he, ha, Same.refl _ _⟩, fun i hi => by rw [h0] at hi; cases hi⟩
    · rename_i r0 rs hr
      split at h
      · rename_i i hp
        obtain ⟨hmem, o, ho, hq, hfree⟩ := pickSoft_ok _ hp
        have hin : i ∈ Region.ready .any ops listed := by rw [hr]; exact hmem
        simp only [ho] at h
        obtain ⟨env1, ha1, hs1, hc⟩ := wantD_ok (W := W) h ha
        refine weaken hs1 ?_
        have first0 : ∀ {v : Value}, needS P quiet ops i = false → Yc P Ext ops (isMove P quiet o) o v a w → AnyW P (Ch D) quiet ops (fun a' w' => ∃ env', K env' w' ∧ Ag n env' a' ∧ Same W env1 env') m (listed.setIfInBounds i true) (a.put o.dst v) w → _ := fun {v} hn hy H =>
          AnyW_first (P := P) (E := Ch D) (Ei := Ext) (quiet := quiet) (fun _ _ h => chX h) (fun _ _ h => h) (fun _ _ _ h k => h.trans k) (fun h => (by rw [hn] at h; cases h)) ho (Region.noSelect_spec hs) rfl hq m listed a w hd (Region.free_spec ho hfree) hin hy H
        have first : ∀ {v : Value}, Yc P (Ch D) ops (isMove P quiet o) o v a w → AnyW P (Ch D) quiet ops (fun a' w' => ∃ env', K env' w' ∧ Ag n env' a' ∧ Same W env1 env') m (listed.setIfInBounds i true) (a.put o.dst v) w → _ := fun {v} hy H =>
          AnyW_first (P := P) (E := Ch D) (Ei := Ch D) (quiet := quiet) (fun _ _ h => chX h) (fun _ _ h => chX h) (fun _ _ _ h k => chT h k) (fun _ _ _ h => h) ho (Region.noSelect_spec hs) rfl hq m listed a w hd (Region.free_spec ho hfree) hin hy H
        have rest : ∀ {v : Value} {kb : Option (Option Bool)}, putD n env1 o.dst v kb (fun env' => drE P n quiet ops D m (listed.setIfInBounds i true) env' w K) → (∀ b, kb = some b → v = kv b) →
            AnyW P (Ch D) quiet ops (fun a' w' => ∃ env', K env' w' ∧ Ag n env' a' ∧ Same W env1 env') m (listed.setIfInBounds i true) (a.put o.dst v) w := by
          intro v kb hp hkb
          obtain ⟨env2, h2, ha2, hs2⟩ := putD_ok hp ha1 hkb (hW i o ho)
          have := ih _ env2 _ w h2 ha2 (down_set hd hin)
          have wk : ∀ {m : Nat} {listed : Array Bool} {a : Act} {w : World}, AnyW P (Ch D) quiet ops (fun a' w' => ∃ env', K env' w' ∧ Ag n env' a' ∧ Same W env2 env') m listed a w →
              AnyW P (Ch D) quiet ops (fun a' w' => ∃ env', K env' w' ∧ Ag n env' a' ∧ Same W env1 env') m listed a w := by
            intro m
            induction m with
            | zero => intro listed a w h w1 he; obtain ⟨h1, e, h2, h3, h4⟩ := h w1 he; exact ⟨h1, e, h2, h3, hs2.trans h4⟩
            | succ m ihm =>
              intro listed a w h w1 he
              obtain ⟨h1, h2⟩ := h w1 he
              refine ⟨fun h0 => ?_, fun i hi => wpOp_mono (fun a' w' ⟨hE, hh⟩ => ⟨hE, ihm hh⟩) (h2 i hi)⟩
              obtain ⟨e, h2, h3, h4⟩ := h1 h0
              exact ⟨e, h2, h3, hs2.trans h4⟩
          exact wk this
        rcases hc with ⟨hw, hA⟩ | ⟨hw, hB⟩
        · split at hA
          · rename_i hsoft
            unfold softF at hA
            split at hA
            · obtain ⟨v, kb, hrun, hp, hkb⟩ := soft_allE ha1.eval ha1.ok hsoft hA
              exact first (.inl ⟨hw, fun w' hw' => by rw [hrun w' hw']; exact ⟨rfl, rfl⟩⟩) (rest hp hkb)
            · rename_i hns
              obtain ⟨v, kb, hrun, hp, hkb⟩ := soft_all ha1.eval ha1.ok hsoft hA
              exact first0 hns (.inl ⟨hw, fun w' hw' => by rw [hrun w' hw']; exact ⟨rfl, rfl⟩⟩) (rest hp hkb)
          · rename_i hsoft
            have hnm : isMove P quiet o = false := by
              cases hm : isMove P quiet o with
              | false => rfl
              | true =>
                obtain ⟨dst, op, type, pos, after, guard⟩ := o
                cases op <;> first | (simp [isMove] at hm; done) | (simp [isSoftIn, isSoft] at hsoft)
            obtain ⟨dst, op, type, pos, after, guard⟩ := o
            cases op <;> first | exact hA.elim | skip
            rename_i c
            obtain ⟨callee, args, argTypes⟩ := c
            cases callee <;> first | exact hA.elim | skip
            rename_i f
            obtain ⟨v, hv, hp⟩ := hA
            refine first (.inl ⟨hw, fun w' hw' => ?_⟩) (rest hp fun b e => by cases e)
            have hE : Ch D w w' := hw'.resolve_left (by rw [hnm]; simp)
            have hx : execOp a.eval ⟨dst, .call ⟨.value f, args, argTypes⟩, type, pos, after, guard⟩ = (do let d ← Deferred.ofValue (ev env1 f) (evs env1 args).toArray; invoke d.target d.args) := by
              rw [evs_eq ha1.eval, ← ha1.eval]
              simp only [execOp, resolve]
            obtain ⟨T, ⟨fn, fst, cap, hfv, hb, hcall⟩ | ⟨fn, fst, cap, u, hfv, hr, hu⟩, hT⟩ := hv w' hE
            · rw [hx, invoke_run hfv hb]
              exact ⟨rfl, hcall.mono fun e w3 ⟨u, he, hu⟩ => ⟨by rw [he, (hT _ _ hu).1], (hT _ _ hu).2⟩⟩
            · rw [hx, invoke_runX hfv, hr]
              exact ⟨rfl, (hT _ _ hu).1⟩
        · exact first (.inr ⟨hw, rfl⟩) (rest hB fun b e => by cases e; rfl)
      · intro w1 he
        refine ⟨(fun h0 => by rw [h0] at hr; cases hr), fun i hi => ?_⟩
        have hi0 := hi
        rw [hr] at hi
        have hF := allD_mem (h w1 he) hi
        cases ho : ops[i]? with
        | none => simp only [ho] at hF
        | some o =>
          simp only [ho] at hF
          obtain ⟨env1, ha1, hs1, hc⟩ := wantD_ok (W := W) hF ha
          unfold wpOp
          simp only [ho]
          have rest : ∀ {v : Value} {kb : Option (Option Bool)} {w2 : World}, (∀ b, kb = some b → v = kv b) → putD n env1 o.dst v kb (fun env' => drE P n quiet ops D m (listed.setIfInBounds i true) env' w2 K) →
              AnyW P (Ch D) quiet ops (fun a' w' => ∃ env', K env' w' ∧ Ag n env' a' ∧ Same W env env') m (listed.setIfInBounds i true) (a.put o.dst v) w2 := by
            intro v kb w2 hkb hp
            obtain ⟨env2, h2, ha2, hs2⟩ := putD_ok hp ha1 hkb (hW i o ho)
            exact weaken (hs1.trans hs2) (ih _ env2 _ w2 h2 ha2 (down_set hd hi0))
          rcases hc with ⟨hw, hA⟩ | ⟨hw, hB⟩
          · rw [hw]
            refine .inl ?_
            split at hA
            · exact hA.elim
            rename_i hso
            refine Oper.wp_mono (fun a' w' ⟨v, e, hp⟩ => ?_) (hard_ok ha1.eval hA)
            obtain ⟨hE, hp⟩ := exqE_ok hp
            rw [e]
            exact ⟨⟨hE, fun h => (by unfold isSoftAt at h; rw [ho] at h; exact absurd h (by simpa using hso))⟩, rest (fun b e => by cases e) hp⟩
          · rw [hw]
            exact ⟨⟨fun _ => chX (Ext.refl _), fun _ => Ext.refl _⟩, rest (fun b e => by cases e; rfl) hB⟩

end
end Go.Vc

namespace Go.Vc
section
variable {P : Program} {n : Nat}

def exOf : Exit → Option Ex
  | .normal => some .nrm
  | .exit id => some (.ext id)
  | .ret => some .ret
  | _ => none
def Rch (n : Nat) (W : List Nat) (env : Env) (Q : Ex → Cont) : Exit → Act → World → Prop :=
  fun e a w => ∃ ex env', exOf e = some ex ∧ Q ex env' w ∧ Ag n env' a ∧ Same W env env'

theorem Rch.weaken {W W' : List Nat} {env env1 : Env} {Q : Ex → Cont} (hS : Same W' env env1) (hW : ∀ s, s ∈ W → s ∈ W') {e : Exit} {a : Act} {w : World} (h : Rch n W env1 Q e a w) : Rch n W' env Q e a w := by
  obtain ⟨ex, env', h1, h2, h3, h4⟩ := h
  exact ⟨ex, env', h1, h2, h3, hS.trans (h4.mono hW)⟩

theorem look_bindY {W : List Nat} {ys : Nat → Value} {env : Env} (s : Nat) : look (bindY W ys env) s = if s ∈ W then ys s else look env s := by
  induction W with
  | nil => simp [bindY]
  | cons x r ih =>
    simp only [bindY, look_cons, ih]
    by_cases h : x = s
    · subst h; simp
    · have h' : ¬ s = x := fun e => h e.symm
      simp [h, h']
theorem look_bindK {keep : List Nat} {xs : List Value} {env : Env} : ∀ {i : Nat} (f : Nat → Value), (∀ j, j < keep.length → gx xs (i + j) = f (keep.getD j 0)) → ∀ s, look (bindK keep i xs env) s = if s ∈ keep then f s else look env s := by
  induction keep with
  | nil => intro i f _ s; simp [bindK]
  | cons x r ih =>
    intro i f h s
    simp only [bindK, look_cons]
    by_cases e : x = s
    · subst e
      have := h 0 (by simp)
      simp at this
      simp [this]
    · have e' : ¬ s = x := fun h => e h.symm
      rw [if_neg e, ih (i := i + 1) f (fun j hj => by
        have := h (j + 1) (by simp; omega)
        simp only [List.getD_cons_succ] at this
        rw [← this]; congr 1; omega) s]
      simp [e']
theorem gx_getK {keep : List Nat} {env : Env} (j : Nat) (hj : j < keep.length) : gx (getK keep env) (0 + j) = look env (keep.getD j 0) := by
  simp [gx_eq, getK, hj]
theorem ok_bindY {W : List Nat} {ys : Nat → Value} {env : Env} (h : EnvOk env) : EnvOk (bindY W ys env) := by
  induction W with
  | nil => exact h
  | cons x r ih => exact ih.cons fun b e => by cases e
theorem ok_bindK {keep : List Nat} {i : Nat} {xs : List Value} {env : Env} (h : EnvOk env) : EnvOk (bindK keep i xs env) := by
  induction keep generalizing i with
  | nil => exact h
  | cons x r ih => exact ih.cons fun b e => by cases e

theorem Ag.rebind {env env0 : Env} {a : Act} {W keep : List Nat} (h : Ag n env a) (hS : Same W env0 env) (ho : EnvOk env0) : Ag n (bindK keep 0 (getK keep env) (bindY W (look env) env0)) a := by
  have hl : ∀ s, look (bindK keep 0 (getK keep env) (bindY W (look env) env0)) s = look env s := by
    intro s
    rw [look_bindK (f := look env) (fun j hj => gx_getK j hj), look_bindY]
    split
    · rfl
    · split
      · rfl
      · rename_i h1; exact (hS s h1).symm
  exact ⟨h.defers, h.size, fun s => by rw [hl s]; exact h.vals s, ok_bindK (ok_bindY ho)⟩
theorem same_rebind {env env0 : Env} {W keep : List Nat} (hS : Same W env0 env) : Same W env0 (bindK keep 0 (getK keep env) (bindY W (look env) env0)) := by
  intro s hs
  rw [look_bindK (f := look env) (fun j hj => gx_getK j hj), look_bindY, if_neg hs]
  split
  · exact hS s hs
  · rfl

theorem regD_ok {id : Nat} {ops : Array Oper} {draw eh : Bool} {quiet : List Nat} {env : Env} {a : Act} {w : World} {K : Cont} {Q : Exit → Act → World → Prop} (hm : P.follows .mixedOrders = true) (hsel : draw = true → Region.noSelect ops = true)
    (h : regD P n ops draw eh quiet env w K) (ha : Ag n env a) (hQ : ∀ env' a' w', K env' w' → Ag n env' a' → Same (dsts ops.toList) env env' → Q .normal a' w') : (Code.region id ops draw).wp P Q a w := by
  have hW : ∀ (i : Nat) (o : Oper), ops[i]? = some o → ∀ d, o.dst = some d → d ∈ dsts ops.toList := fun i o ho d hd =>
    List.mem_filterMap.2 ⟨o, by simpa using Array.mem_of_getElem? ho, hd⟩
  cases draw with
  | false =>
    refine wp_region ?_
    rw [List.range_eq_range', ← Array.length_toList, wpOps_eq_wpList ops.toList 0 (by simp)]
    exact opsD_ok (W := dsts ops.toList) ops.toList env a w h ha (fun o ho d hd => List.mem_filterMap.2 ⟨o, ho, hd⟩) hQ
  | true =>
    refine wp_region_any hm ?_
    cases eh with
    | false =>
      have := drD_ok (hsel rfl) (W := dsts ops.toList) hW ops.size _ env a w h ha (down_init _)
      refine wpAny_of_AnyW (fun a' w' ⟨env', h1, h2, h3⟩ => hQ env' a' w' h1 h2 h3) _ _ _ _ (this.later ?_)
      exact Ext.drew w
    | true =>
      obtain ⟨D, h⟩ := h
      have := drE_ok (hsel rfl) (W := dsts ops.toList) hW ops.size _ env a w h ha (down_init _)
      refine wpAny_of_AnyW (fun a' w' ⟨env', h1, h2, h3⟩ => hQ env' a' w' h1 h2 h3) _ _ _ _ (this.later ?_)
      exact Ext.drew w

theorem joinD_ok {keep W : List Nat} {env : Env} {K : Cont} {F : Cont → Prop} (h : joinD n keep W env K F) (ho : EnvOk env) :
    ∃ J : Cont, F J ∧ ∀ env' a' w', J env' w' → Ag n env' a' → Same W env env' → ∃ env2, K env2 w' ∧ Ag n env2 a' ∧ Same W env env2 := by
  unfold joinD at h
  split at h
  · refine ⟨_, h, fun env' a' w' hJ ha' hS => ⟨_, hJ (look env'), ha'.rebind hS ho, same_rebind hS⟩⟩
  · exact h.elim

theorem condD_ok {env : Env} {c : Operand} {A B : Env → Prop} {a : Act} (h : condD env c A B) (ha : Ag n env a) (W : List Nat) :
    ∃ b env', a.eval c = .bool b ∧ Ag n env' a ∧ Same W env env' ∧ (if b then A env' else B env') := by
  have he : a.eval c = ev env c := by rw [ha.eval]
  have evb : ∀ b, evk env c = some b → ev env c = kv b := by
    intro b hx
    cases c with
    | tmp t => exact ha.ok t b hx
    | const v => cases v <;> simp [evk] at hx; subst hx; rfl
    | _ => simp [evk] at hx
  unfold condD at h
  split at h
  · rename_i hk; exact ⟨true, env, he.trans (evb _ hk), ha, Same.refl _ _, by simpa using h⟩
  · rename_i hk; exact ⟨false, env, he.trans (evb _ hk), ha, Same.refl _ _, by simpa using h⟩
  · exact h.elim
  · split at h
    · rename_i s _
      obtain ⟨b, hb, h1, h2⟩ := h
      cases b
      · exact ⟨false, _, he.trans hb, ha.learn hb, same_learn hb, by simpa using h2 rfl⟩
      · exact ⟨true, _, he.trans hb, ha.learn hb, same_learn hb, by simpa using h1 rfl⟩
    · obtain ⟨b, hb, h1, h2⟩ := h
      refine ⟨b, env, he.trans hb, ha, Same.refl _ _, ?_⟩
      cases b
      · simpa using h2 rfl
      · simpa using h1 rfl

def noSel : Code → Bool
  | .region _ ops _ => Region.noSelect ops
  | .seq a b => noSel a && noSel b
  | .cond _ a b => noSel a && noSel b
  | .block _ b => noSel b
  | .loop b => noSel b
  | .scope b => noSel b
  | _ => true

theorem den_ok (hm : P.follows .mixedOrders = true) : ∀ (c : Code) (h : Hint) (Q : Ex → Cont) (env : Env) (a : Act) (w : World), noSel c = true → den P n c h Q env w → Ag n env a →
    c.wp P (Rch n (wr c) env Q) a w := by
  intro c
  induction c with
  | skip => intro h Q env a w _ hd ha; exact wp_skip ⟨.nrm, env, rfl, hd, ha, Same.refl _ _⟩
  | label l => intro h Q env a w _ hd ha; exact wp_label ⟨.nrm, env, rfl, hd, ha, Same.refl _ _⟩
  | ret => intro h Q env a w _ hd ha; exact wp_ret ⟨.ret, env, rfl, hd, ha, Same.refl _ _⟩
  | exit id => intro h Q env a w _ hd ha; exact wp_exit ⟨.ext id, env, rfl, hd, ha, Same.refl _ _⟩
  | rangeFunc => intro h Q env a w _ hd _; exact hd.elim
  | goto => intro h Q env a w _ hd _; exact hd.elim
  | refuse => intro h Q env a w _ hd _; exact hd.elim
  | region id ops draw =>
    intro h Q env a w hns hd ha
    simp only [den] at hd
    split at hd
    · exact regD_ok hm (fun _ => hns) hd ha fun env' a' w' hK hA hS => ⟨.nrm, env', rfl, hK, hA, hS⟩
    · obtain ⟨J, hJ, hK⟩ := joinD_ok hd ha.ok
      exact regD_ok hm (fun _ => hns) hJ ha fun env' a' w' hj hA hS => by
        obtain ⟨env2, h1, h2, h3⟩ := hK env' a' w' hj hA hS
        exact ⟨.nrm, env2, rfl, h1, h2, h3⟩
  | seq x y ihx ihy =>
    intro h Q env a w hns hd ha
    simp only [noSel, Bool.and_eq_true] at hns
    refine wp_seq (wp_mono (ihx (hL h) _ env a w hns.1 hd ha) fun e a' w' hr => ?_)
    obtain ⟨ex, env', h1, h2, h3, h4⟩ := hr
    have h4' : Same (wr (.seq x y)) env env' := h4.mono fun s hs => by simp [wr, hs]
    cases e <;> simp only [exOf, Option.some.injEq] at h1 <;> first | (cases h1; done) | skip
    · subst h1
      refine wp_mono (ihy (hR h) Q env' a' w' hns.2 h2 h3) fun e a w hr => hr.weaken h4' fun s hs => by simp [wr, hs]
    · subst h1; exact ⟨_, env', rfl, h2, h3, h4'⟩
    · subst h1; exact ⟨_, env', rfl, h2, h3, h4'⟩
  | cond c x y ihx ihy =>
    intro h Q env a w hns hd ha
    simp only [noSel, Bool.and_eq_true] at hns
    simp only [den] at hd
    have go : ∀ (Q1 : Ex → Cont), condD env c (fun env => den P n x (hL h) Q1 env w) (fun env => den P n y (hR h) Q1 env w) → (Code.cond c x y).wp P (Rch n (wr x ++ wr y) env Q1) a w := by
      intro Q1 hc
      obtain ⟨b, env', hb, hA, hS, hr⟩ := condD_ok hc ha (wr x ++ wr y)
      cases b
      · exact wp_cond hb (wp_mono (ihy (hR h) Q1 env' a w hns.2 (by simpa using hr) hA) fun e a w hr => hr.weaken hS fun s hs => by simp [hs])
      · exact wp_cond hb (wp_mono (ihx (hL h) Q1 env' a w hns.1 (by simpa using hr) hA) fun e a w hr => hr.weaken hS fun s hs => by simp [hs])
    split at hd
    · exact go Q hd
    · obtain ⟨J, hJ, hK⟩ := joinD_ok hd ha.ok
      refine wp_mono (go (thenD J Q) hJ) fun e a' w' hr => ?_
      obtain ⟨ex, env', h1, h2, h3, h4⟩ := hr
      cases ex with
      | nrm =>
        obtain ⟨env2, g1, g2, g3⟩ := hK env' a' w' h2 h3 h4
        exact ⟨.nrm, env2, h1, g1, g2, g3⟩
      | ext i => exact ⟨_, env', h1, h2, h3, h4⟩
      | ret => exact ⟨_, env', h1, h2, h3, h4⟩
  | block id b ih =>
    intro h Q env a w hns hd ha
    refine wp_block (wp_mono (ih h _ env a w hns hd ha) fun e a' w' hr => ?_)
    obtain ⟨ex, env', h1, h2, h3, h4⟩ := hr
    cases e <;> simp only [exOf, Option.some.injEq] at h1 <;> first | (cases h1; done) | skip
    · subst h1; exact ⟨_, env', rfl, h2, h3, h4⟩
    · rename_i i
      subst h1
      simp only [Exit.inBlock, blockD] at h2 ⊢
      split at h2
      · rename_i e
        rw [if_pos (Nat.eq_of_beq_eq_true e)]
        exact ⟨.nrm, env', rfl, h2, h3, h4⟩
      · rename_i e
        rw [if_neg (fun h => by subst h; simp at e)]
        exact ⟨_, env', rfl, h2, h3, h4⟩
    · subst h1; exact ⟨_, env', rfl, h2, h3, h4⟩
  | scope b ih =>
    intro h Q env a w hns hd ha
    refine wp_scope_straight (wp_mono (ih h _ env a w hns hd ha) fun e a' w' hr => ?_)
    obtain ⟨ex, env', h1, h2, h3, h4⟩ := hr
    cases e <;> simp only [exOf, Option.some.injEq] at h1 <;> first | (cases h1; done) | skip
    all_goals (subst h1; exact ⟨_, env', rfl, h2, h3, h4⟩)
  | loop b ih =>
    intro h Q env a w hns hd ha
    simp only [den] at hd
    split at hd
    · obtain ⟨I, ⟨m0, h0⟩, hround⟩ := hd
      generalize hkk : (hK h).getD [] = keep at *
      refine wp_loop_ghost (fun m a' w' => ∃ env', Ag n env' a' ∧ Same (wr b) env env' ∧ I m (getK keep env') w') m0 ⟨env, ha, Same.refl _ _, h0⟩ ?_
      rintro m a' w' ⟨env', ha', hS', hI⟩
      have hb := hround m (getK keep env') w' hI (look env')
      refine wp_mono (ih (hL h) _ _ a' w' hns hb (ha'.rebind hS' ha.ok)) fun e a2 w2 hr => ?_
      obtain ⟨ex, env2, h1, h2, h3, h4⟩ := hr
      have hS2 : Same (wr b) env env2 := (same_rebind hS').trans h4
      cases e <;> simp only [exOf, Option.some.injEq] at h1 <;> first | (cases h1; done) | skip
      · subst h1
        obtain ⟨m', hlt, hI2⟩ := h2
        exact ⟨m', hlt, env2, h3, hS2, hI2⟩
      · subst h1; exact ⟨_, env2, rfl, h2, h3, hS2⟩
      · subst h1; exact ⟨_, env2, rfl, h2, h3, hS2⟩
    · exact hd.elim

theorem look_init : ∀ (l : List Value) (i s : Nat), look (initEnv i l) s = if i ≤ s then l.getD (s - i) undef else undef
  | [], i, s => by simp [initEnv, look]
  | v :: r, i, s => by
    simp only [initEnv, look_cons, look_init r (i + 1) s]
    by_cases h : i = s
    · subst h; simp
    · by_cases h2 : i ≤ s
      · have : s - i = (s - (i + 1)) + 1 := by omega
        simp [h, h2, show i + 1 ≤ s by omega, this]
      · simp [h, h2, show ¬ i + 1 ≤ s by omega]
theorem ok_init : ∀ (l : List Value) (i : Nat), EnvOk (initEnv i l)
  | [], _ => fun s b e => by cases e
  | v :: r, i => (ok_init r (i + 1)).cons fun b e => by cases e

def resS (tmps : Array Value) (x : ResultVar) : Sem Value :=
  match x with
  | .tmp t => pure (tmps.getD t undef)
  | .cell a t => do loadVar t (← asAddr (tmps.getD a undef))
theorem resD_ok {env : Env} {tmps : Array Value} {w : World} (hv : ∀ s, tmps.getD s undef = look env s) : ∀ (l : List ResultVar) (K : List Value → Prop), resD P env w l K →
    ∃ vs, (l.mapM (resS tmps)).run P w = .ok vs w ∧ K vs
  | [], K, h => ⟨[], by simp, h⟩
  | .tmp t :: r, K, h => by
    obtain ⟨vs, h1, h2⟩ := resD_ok hv r _ h
    refine ⟨_, ?_, h2⟩
    rw [List.mapM_cons]
    simp only [Sem.run_bind, resS, Sem.run_pure, Result.andThen_ok, h1, hv t]
  | .cell a t :: r, K, h => by
    obtain ⟨v, hl, hk⟩ := ldD_ok h
    obtain ⟨vs, h1, h2⟩ := resD_ok hv r _ hk
    have hl := hl w (Ext.refl w)
    refine ⟨_, ?_, h2⟩
    rw [List.mapM_cons]
    have h0 : (resS tmps (.cell a t)).run P w = .ok v w := by
      simp only [resS, hv a]
      cases hx : look env a with
      | pointer p =>
        cases p with
        | none => rw [hx] at hl; simp [Instr.loadAt, Instr.sureAddr] at hl
        | some ad =>
          rw [hx] at hl
          simp only [Instr.loadAt, Instr.sureAddr, Sem.run_bind, Sem.run_pure, Result.andThen_ok] at hl
          simp only [asAddr, Sem.run_bind, Sem.run_pure, Result.andThen_ok, hl]
      | _ => rw [hx] at hl; simp [Instr.loadAt, Instr.sureAddr] at hl
    simp only [Sem.run_bind, Sem.run_pure, Result.andThen_ok, h1, h0]
theorem results_eq (fn : Func) (tmps : Array Value) : results fn tmps = (do let vs ← fn.results.mapM (resS tmps); pure (if h : vs.size = 1 then vs[0] else .tuple vs)) := by
  unfold results
  congr 1

theorem results_ok {fn : Func} {env : Env} {tmps : Array Value} {w : World} (hv : ∀ s, tmps.getD s undef = look env s) {R : Value → Prop} (h : resD P env w fn.results.toList fun vs => R (retV vs)) :
    ∃ v, (results fn tmps).run P w = .ok v w ∧ R v := by
  obtain ⟨vs, h1, h2⟩ := resD_ok hv fn.results.toList _ h
  refine ⟨_, ?_, h2⟩
  rw [results_eq, ← Array.toArray_toList (xs := fn.results), List.mapM_toArray]
  simp only [Sem.run_bind, Sem.run_map, h1, Result.andThen_ok, Sem.run_pure]
  congr 1
  cases vs with
  | nil => rfl
  | cons x r =>
    cases r with
    | nil => rfl
    | cons y r => simp [retV]

theorem cal_of_den {f : FuncId} {fn : Func} {c : Code} {h : Hint} {args : List Value} {w : World} {R : Value → World → Prop} (hm : P.follows .mixedOrders = true)
    (hf : P.funcs[f]? = some fn) (hn : (fn.name == "runtime.NumGoroutine") = false) (hb : fn.body = some c) (hs : noSel c = true) (ha : Nat.ble args.length fn.ntmps = true)
    (hd : denF P fn c h args w R) : Cal P f args.toArray w R := by
  refine ⟨⟨fn, hf, hn, by rw [hb]; rfl⟩, calls_of_wp hf hb ?_⟩
  have hle : args.length ≤ fn.ntmps := Nat.le_of_ble_eq_true ha
  have hA : Ag fn.ntmps (initEnv 0 args) { tmps := args.toArray ++ Array.replicate (fn.ntmps - args.toArray.size) undef, defers := [] } := by
    refine ⟨rfl, by simp; omega, fun s => ?_, ok_init _ _⟩
    rw [look_init]
    simp only [Nat.zero_le, if_true, Nat.sub_zero]
    by_cases h1 : s < args.length
    · simp [Array.getElem?_append, h1]
    · simp only [Array.getD_eq_getD_getElem?, Array.getElem?_append, List.size_toArray, h1, if_false]
      rw [show args.getD s undef = undef by simp [List.getD, List.getElem?_eq_none (show args.length ≤ s by omega)]]
      by_cases h2 : s - args.length < fn.ntmps - args.length
      · simp [h2]
      · simp [h2]
  refine wp_mono (den_ok hm c h _ _ _ w hs hd hA) fun e a' w' hr => ?_
  obtain ⟨ex, env', h1, h2, h3, h4⟩ := hr
  cases e <;> simp only [exOf, Option.some.injEq] at h1 <;> first | (cases h1; done) | skip
  · subst h1
    obtain ⟨v, hv, hR⟩ := results_ok (R := fun v => R v w') h3.vals h2
    exact ⟨h3.defers, v, hv, v, rfl, hR⟩
  · subst h1; exact h2.elim
  · subst h1
    obtain ⟨v, hv, hR⟩ := results_ok (R := fun v => R v w') h3.vals h2
    exact ⟨h3.defers, v, hv, v, rfl, hR⟩

end
end Go.Vc

namespace Go.Vc
open Go.RowKit (Below)

/-! ### Memory -/
def Blk (e : TypeId) (w : World) (b : Nat) (cs : List Value) : Prop := w.heap[b]? = some (.cells cs.toArray e (0, 0))
theorem heap_lt {w : World} {b : Nat} {o : Obj} (h : w.heap[b]? = some o) : b < w.heap.size := by
  rcases Nat.lt_or_ge b w.heap.size with h' | h'
  · exact h'
  · simp [Array.getElem?_eq_none h'] at h
theorem Blk.lt {e : TypeId} {w : World} {b : Nat} {cs : List Value} (h : Blk e w b cs) : b < w.heap.size := heap_lt h
theorem Blk.ext {e : TypeId} {w w' : World} {b : Nat} {cs : List Value} (h : Blk e w b cs) (he : Ext w w') : Blk e w' b cs := by
  unfold Blk at *
  rw [Below.block he b (heap_lt h)]; exact h
theorem Blk.cell {e : TypeId} {w : World} {b : Nat} {cs : List Value} (h : Blk e w b cs) (i : Nat) : w.cell? ⟨b, i, none⟩ = cs[i]? := by
  unfold Blk at h
  simp [World.cell?, h]
theorem Blk.frozen {e : TypeId} {w : World} {b : Nat} {cs : List Value} (h : Blk e w b cs) (i : Nat) : w.frozen? ⟨b, i, none⟩ = false := by
  unfold Blk at h
  simp [World.frozen?, h]
theorem Blk.set {e : TypeId} {w : World} {b : Nat} {cs : List Value} (h : Blk e w b cs) (i : Nat) (v : Value) : Blk e (w.setCell ⟨b, i, none⟩ v) b (cs.set i v) := by
  unfold Blk at *
  simp [World.setCell, Array.getElem?_modify, h]
theorem Blk.other {e : TypeId} {w : World} {b c i : Nat} {cs : List Value} (h : Blk e w b cs) (hne : b ≠ c) (v : Value) : Blk e (w.setCell ⟨c, i, none⟩ v) b cs := by
  unfold Blk at *
  rw [Below.heap_setCell _ _ _ _ hne]; exact h
theorem Blk.new (w : World) (cs : Array Value) (e : TypeId) : Blk e (w.alloc (.cells cs e)) w.heap.size cs.toList := heap_alloc_new w _

def Sl (w : World) (v : Value) (xs : List Value) : Prop :=
  ∃ a c, v = .slice a xs.length c ∧ xs.length ≤ c ∧ c ≤ 9223372036854775807 ∧ (xs = [] ∨ ∃ b o, a = some ⟨b, o, none⟩ ∧ ∀ i, i < xs.length → w.cell? ⟨b, o + i, none⟩ = xs[i]?)
theorem Sl.ext {w w' : World} {v : Value} {xs : List Value} (h : Sl w v xs) (he : Ext w w') : Sl w' v xs := by
  obtain ⟨a, c, h1, h2, h3, h4⟩ := h
  refine ⟨a, c, h1, h2, h3, h4.imp id fun ⟨b, o, ha, hc⟩ => ⟨b, o, ha, fun i hi => ?_⟩⟩
  have := hc i hi
  rw [List.getElem?_eq_getElem hi] at this ⊢
  exact he.cell this
theorem Sl.len {w : World} {v : Value} {xs : List Value} (h : Sl w v xs) : xs.length ≤ 9223372036854775807 := let ⟨_, _, _, h2, h3, _⟩ := h; Nat.le_trans h2 h3
theorem Sl.nil (w : World) : Sl w (.slice none 0 0) [] := ⟨none, 0, rfl, Nat.le_refl _, by omega, .inl rfl⟩
def ints (l : List Int) : List Value := l.map (.int .i64)
theorem ints_length (l : List Int) : (ints l).length = l.length := by simp [ints]
def SlI (w : World) (v : Value) (l : List Int) : Prop := Sl w v (ints l)
theorem SlI.ext {w w' : World} {v : Value} {l : List Int} (h : SlI w v l) (he : Ext w w') : SlI w' v l := Sl.ext h he
theorem SlI.len {w : World} {v : Value} {l : List Int} (h : SlI w v l) : l.length ≤ 9223372036854775807 := by have := Sl.len h; rwa [ints_length] at this

def Ow (lo : Nat) (e : TypeId) (w : World) (v : Value) (xs : List Value) : Prop := w.ownsRow lo e 1 v xs.length xs
theorem Ow.sl {lo : Nat} {e : TypeId} {w : World} {v : Value} {xs : List Value} (h : Ow lo e w v xs) : Sl w v xs := by
  obtain ⟨_, h | ⟨g, cap, cur, hv, _, hh, h1, h2, h3, h4⟩⟩ := h
  · obtain ⟨rfl, h0⟩ := h
    have : xs = [] := List.length_eq_zero_iff.1 h0
    subst this
    exact Sl.nil w
  · refine ⟨_, cap, hv, h1, h2, .inr ⟨g, 0, rfl, fun i hi => ?_⟩⟩
    simp only [Nat.zero_add, World.cell?, hh]
    rw [← h4]
    simp only [Nat.mul_one, Option.isSome_none, Bool.false_eq_true, if_false, List.getElem?_take]
    rw [if_pos hi]; simp
theorem Ow.ext {lo : Nat} {e : TypeId} {w w' : World} {v : Value} {xs : List Value} (h : Ow lo e w v xs) (he : Ext w w') : Ow lo e w' v xs := by
  obtain ⟨h0, h | ⟨g, cap, cur, hv, hg, hh, h1⟩⟩ := h
  · exact ⟨h0, .inl h⟩
  · exact ⟨h0, .inr ⟨g, cap, cur, hv, hg, by rw [Below.block he g (heap_lt hh)]; exact hh, h1⟩⟩
theorem Ow.mono {lo lo' : Nat} {e : TypeId} {w : World} {v : Value} {xs : List Value} (h : Ow lo e w v xs) (hl : lo' ≤ lo) : Ow lo' e w v xs := by
  obtain ⟨h0, h | ⟨g, cap, cur, hv, hg, hh, h1⟩⟩ := h
  · exact ⟨h0, .inl h⟩
  · exact ⟨h0, .inr ⟨g, cap, cur, hv, Nat.le_trans hl hg, hh, h1⟩⟩
theorem Ow.nil (lo : Nat) (e : TypeId) (w : World) : Ow lo e w (.slice none 0 0) [] := World.ownsRow_nil w lo e 1
theorem Ow.blk {lo : Nat} {e : TypeId} {w : World} {v : Value} {xs : List Value} (h : Ow lo e w v xs) : ∀ k, v.ownBlock = some k → lo ≤ k ∧ k < w.heap.size := World.ownsRow.lt h
theorem Ow.other {lo : Nat} {e : TypeId} {w : World} {v : Value} {xs : List Value} (h : Ow lo e w v xs) {c i : Nat} (hne : v.ownBlock ≠ some c) (u : Value) : Ow lo e (w.setCell ⟨c, i, none⟩ u) v xs := by
  obtain ⟨h0, h | ⟨g, cap, cur, hv, hg, hh, h1⟩⟩ := h
  · exact ⟨h0, .inl h⟩
  · refine ⟨h0, .inr ⟨g, cap, cur, hv, hg, ?_, h1⟩⟩
    rw [Below.heap_setCell _ _ _ _ (fun e => hne (by rw [hv]; simp [Value.ownBlock, e]))]; exact hh

theorem ext_set {w0 w : World} (h : Ext w0 w) {p : Addr} (hp : w0.heap.size ≤ p.block) (u : Value) : Ext w0 (w.setCell p u) := Below.setCell h hp u

structure Upd (b : Nat) (w w' : World) : Prop where
  os : w'.os = w.os
  tape : w'.tape = w.tape
  output : w'.output = w.output
  size : w'.heap.size = w.heap.size
  block : ∀ c, c ≠ b → w'.heap[c]? = w.heap[c]?
theorem Upd.refl (b : Nat) (w : World) : Upd b w w := ⟨rfl, rfl, rfl, rfl, fun _ _ => rfl⟩
theorem Upd.trans {b : Nat} {w w' w'' : World} (h : Upd b w w') (k : Upd b w' w'') : Upd b w w'' :=
  ⟨k.os.trans h.os, k.tape.trans h.tape, k.output.trans h.output, k.size.trans h.size, fun c hc => (k.block c hc).trans (h.block c hc)⟩
theorem Upd.setCell (w : World) (b i : Nat) (v : Value) : Upd b w (w.setCell ⟨b, i, none⟩ v) :=
  ⟨rfl, rfl, rfl, by simp, fun c hc => Below.heap_setCell _ _ _ _ hc⟩
theorem Ext.upd {w0 w w' : World} {b : Nat} (h : Ext w0 w) (hu : Upd b w w') (hb : w0.heap.size ≤ b) : Ext w0 w' :=
  ⟨hu.os.trans h.os, hu.tape.trans h.tape, hu.output.trans h.output, by rw [hu.size]; exact h.size, fun k hk => (hu.block k (by omega)).trans (h.block k hk)⟩
theorem Blk.upd {e : TypeId} {w w' : World} {b c : Nat} {cs : List Value} (h : Blk e w c cs) (hu : Upd b w w') (hne : c ≠ b) : Blk e w' c cs := by
  unfold Blk at *
  rw [hu.block c hne]; exact h
theorem Ow.upd {lo : Nat} {e : TypeId} {w w' : World} {v : Value} {xs : List Value} {b : Nat} (h : Ow lo e w v xs) (hu : Upd b w w') (hne : v.ownBlock ≠ some b) : Ow lo e w' v xs := by
  obtain ⟨h0, h | ⟨g, cap, cur, hv, hg, hh, h1⟩⟩ := h
  · exact ⟨h0, .inl h⟩
  · exact ⟨h0, .inr ⟨g, cap, cur, hv, hg, by rw [hu.block g (fun e => hne (by rw [hv]; simp [Value.ownBlock, e]))]; exact hh, h1⟩⟩
theorem storeCells_run {P : Program} {e : TypeId} {b : Nat} : ∀ (vs : List Value) (i : Nat) (w : World) (cs : List Value), Blk e w b cs → i + vs.length ≤ cs.length → (∀ v ∈ vs, isCell v = true) →
    ∃ w', (storeCells ⟨b, 0, none⟩ vs i).run P w = .ok () w' ∧ Upd b w w' ∧ Blk e w' b (cs.take i ++ vs ++ cs.drop (i + vs.length))
  | [], i, w, cs, hb, _, _ => ⟨w, by simp [storeCells], Upd.refl _ _, by simpa using hb⟩
  | v :: vs, i, w, cs, hb, hl, hc => by
    simp only [List.length_cons] at hl
    have ha : (⟨b, 0, none⟩ : Addr).add i = ⟨b, i, none⟩ := by
      simp only [Addr.add]; split
      · rename_i e; simp [e]
      · simp
    have h1 : (store ⟨b, i, none⟩ v).run P w = .ok () (w.setCell ⟨b, i, none⟩ v) := by
      rw [run_store P w _ _ _ (isCell_one (hc v (by simp))), hb.cell i, List.getElem?_eq_getElem (by omega)]
      simp [hb.frozen i]
    obtain ⟨w', h2, h3, h4⟩ := storeCells_run (P := P) vs (i + 1) (w.setCell ⟨b, i, none⟩ v) (cs.set i v) (hb.set i v) (by simp; omega) (fun v' hv' => hc v' (by simp [hv']))
    refine ⟨w', ?_, (Upd.setCell w b i v).trans h3, ?_⟩
    · simp only [storeCells, Sem.run_bind, ha, h1, Result.andThen_ok, h2]
    · have : (cs.set i v).take (i + 1) ++ vs ++ (cs.set i v).drop (i + 1 + vs.length) = cs.take i ++ v :: vs ++ cs.drop (i + (v :: vs).length) := by
        rw [List.take_succ_eq_append_getElem (by simp; omega), List.take_set_of_le (by omega), List.drop_set_of_lt (by omega)]
        simp [Nat.add_assoc, Nat.add_comm 1]
      rw [this] at h4; exact h4

/-! ### One step -/
section
variable {P : Program} {w : World}

theorem iNil {a : Addr} {K : Value → Prop} (h : K (.pointer (some a))) : xNil (.pointer (some a)) K := ⟨trivial, h⟩
theorem iFa {off b o : Nat} {K : Value → Prop} (h : K (.pointer (some ⟨b, o + off, none⟩))) : xFa off (.pointer (some ⟨b, o, none⟩)) K := by
  refine ⟨_, rfl, ?_⟩
  have : (⟨b, o, none⟩ : Addr).add off = ⟨b, o + off, none⟩ := by
    simp only [Addr.add]; split
    · rename_i e; simp [e]
    · rfl
  rw [this]; exact h
theorem iLd {p : Addr} {v : Value} {K : Value → Prop} (hc : w.cell? p = some v) (h : K v) : xLd w (.pointer (some p)) K := ⟨_, _, rfl, hc, h⟩
theorem iLdB {e : TypeId} {b i : Nat} {cs : List Value} {v : Value} {K : Value → Prop} (hb : Blk e w b cs) (hi : cs[i]? = some v) (h : K v) : xLd w (.pointer (some ⟨b, i, none⟩)) K := iLd (by rw [hb.cell i]; exact hi) h
theorem iLdA {e : TypeId} {b n : Nat} {cs : List Value} {K : Value → Prop} (hb : Blk e w b cs) (hn : cs.length = n) (h : K (.agg cs.toArray)) : xLdA w n (.pointer (some ⟨b, 0, none⟩)) K := by
  refine ⟨_, cs.toArray, rfl, by simpa using hn, fun i hi => ?_, h⟩
  have : (⟨b, 0, none⟩ : Addr).add i = ⟨b, i, none⟩ := by
    simp only [Addr.add]; split
    · rename_i e; simp [e]
    · simp
  rw [this, hb.cell i]; simp
theorem iIa {v : Value} {xs : List Value} {j : Int} {k : IntKind} {K : Value → Prop} (hs : Sl w v xs) (h0 : 0 ≤ j) (h1 : j < xs.length)
    (h : ∀ p, w.cell? p = xs[j.toNat]? → K (.pointer (some p))) : xIa 1 v (.int k j) K := by
  obtain ⟨a, c, rfl, h2, h3, h4⟩ := hs
  rcases h4 with rfl | ⟨b, o, rfl, hc⟩
  · simp at h1; omega
  · refine ⟨_, _, _, _, _, rfl, rfl, h0, h1, h _ ?_⟩
    have : (⟨b, o, none⟩ : Addr).add (j.toNat * 1) = ⟨b, o + j.toNat, none⟩ := by
      simp only [Addr.add]; split
      · rename_i e; simp at e; simp [e]
      · simp
    rw [this]; exact hc _ (by omega)
theorem iIaI {v : Value} {l : List Int} {j : Int} {k : IntKind} {K : Value → Prop} (hs : SlI w v l) (h0 : 0 ≤ j) (h1 : j < l.length)
    (h : ∀ p, w.cell? p = some (.int .i64 (l.getD j.toNat 0)) → K (.pointer (some p))) : xIa 1 v (.int k j) K := by
  refine iIa hs h0 (by rw [ints_length]; exact h1) fun p hp => h p (hp.trans ?_)
  have : j.toNat < l.length := by omega
  simp [ints, this]
theorem iLenS {v : Value} {xs : List Value} {K : Value → Prop} (hs : Sl w v xs) (h : K (.int .i64 (xs.length : Nat))) : xLenS v K := by
  obtain ⟨a, c, rfl, _⟩ := hs; exact ⟨_, _, _, rfl, h⟩
theorem iLenI {v : Value} {l : List Int} {K : Value → Prop} (hs : SlI w v l) (h : K (.int .i64 (l.length : Nat))) : xLenS v K := iLenS hs (by rw [ints_length]; exact h)
theorem iLenL {a : Option Addr} {n c : Nat} {K : Value → Prop} (h : K (.int .i64 (n : Nat))) : xLenS (.slice a n c) K := ⟨_, _, _, rfl, h⟩
theorem iAdd {a b : Int} {K : Value → Prop} (hb : -9223372036854775808 ≤ a + b ∧ a + b ≤ 9223372036854775807) (h : K (.int .i64 (a + b))) : xAdd .i64 (.int .i64 a) (.int .i64 b) K :=
  ⟨_, _, rfl, rfl, by rw [IntWalk.i64_in _ hb]; exact h⟩
theorem iSub {a b : Int} {K : Value → Prop} (hb : -9223372036854775808 ≤ a - b ∧ a - b ≤ 9223372036854775807) (h : K (.int .i64 (a - b))) : xSub .i64 (.int .i64 a) (.int .i64 b) K :=
  ⟨_, _, rfl, rfl, by rw [IntWalk.i64_in _ hb]; exact h⟩
theorem iMul {a b : Int} {K : Value → Prop} (hb : -9223372036854775808 ≤ a * b ∧ a * b ≤ 9223372036854775807) (h : K (.int .i64 (a * b))) : xMul .i64 (.int .i64 a) (.int .i64 b) K :=
  ⟨_, _, rfl, rfl, by rw [IntWalk.i64_in _ hb]; exact h⟩
theorem iQuo {a b : Int} {K : Value → Prop} (hb : 0 ≤ a ∧ a ≤ 9223372036854775807 ∧ 1 ≤ b) (h : K (.int .i64 (a / b))) : xQuo .i64 (.int .i64 a) (.int .i64 b) K :=
  ⟨_, _, rfl, rfl, by omega, by rw [IntWalk.i64_quo _ _ hb]; exact h⟩
theorem iRem {a b : Int} {K : Value → Prop} (hb : 0 ≤ a ∧ b ≠ 0) (h : K (.int .i64 (a % b))) : xRem .i64 (.int .i64 a) (.int .i64 b) K :=
  ⟨_, _, rfl, rfl, hb.2, by rw [IntWalk.rem_in _ _ hb.1]; exact h⟩
theorem iEq {k : IntKind} {a b : Int} {K : Value → Prop} (h : K (.bool (decide (a = b)))) : xEq k (.int k a) (.int k b) K := ⟨_, _, rfl, rfl, h⟩
theorem iNe {k : IntKind} {a b : Int} {K : Value → Prop} (h : K (.bool (decide (¬ a = b)))) : xNe k (.int k a) (.int k b) K := ⟨_, _, rfl, rfl, h⟩
theorem iLt {k : IntKind} {a b : Int} {K : Value → Prop} (h : K (.bool (decide (a < b)))) : xLt k (.int k a) (.int k b) K := ⟨_, _, rfl, rfl, h⟩
theorem iLe {k : IntKind} {a b : Int} {K : Value → Prop} (h : K (.bool (decide (a ≤ b)))) : xLe k (.int k a) (.int k b) K := ⟨_, _, rfl, rfl, h⟩
theorem iNot {b : Bool} {K : Value → Prop} (h : K (.bool (!b))) : xNot (.bool b) K := ⟨_, rfl, h⟩
theorem iEx {vs : Array Value} {v : Value} {i : Nat} {K : Value → Prop} (hv : vs[i]? = some v) (h : K v) : xEx (.tuple vs) i K := ⟨_, _, rfl, hv, h⟩
theorem iE20 {a b : Value} {K : Value → Prop} (h : K a) : xEx (.tuple #[a, b]) 0 K := ⟨_, _, rfl, rfl, h⟩
theorem iE21 {a b : Value} {K : Value → Prop} (h : K b) : xEx (.tuple #[a, b]) 1 K := ⟨_, _, rfl, rfl, h⟩
theorem iBuild {z : Array Value} {pl : Array (Nat × Nat)} {ps : List (Nat × Value)} {cs : Array Value} {K : Value → Prop} (hf : Instr.fill (pl[·]?) z ps = some cs) (h : K (.agg cs)) : xBuild z pl ps K := ⟨_, hf, h⟩
theorem iConv64 {a : Int} {k : IntKind} {K : Value → Prop} (hb : -9223372036854775808 ≤ a ∧ a ≤ 9223372036854775807) (h : K (.int .i64 a)) : xConv .i64 (.int k a) K :=
  ⟨_, _, rfl, by rw [IntWalk.i64_in _ hb]; exact h⟩
theorem iConvU {a : Int} {k : IntKind} {K : Value → Prop} (hb : 0 ≤ a ∧ a ≤ 18446744073709551615) (h : K (.int .u64 a)) : xConv .u64 (.int k a) K :=
  ⟨_, _, rfl, by rw [IntWalk.u64_in _ hb]; exact h⟩
theorem iNew {cs : Array Value} {e : TypeId} {K : Value → World → Prop} (h : ∀ b w', b = w.heap.size ∧ w'.heap.size = b + 1 → Ext w w' → Blk e w' b cs.toList → K (.pointer (some ⟨b, 0, none⟩)) w') : xNew cs e w K :=
  h _ _ ⟨rfl, by simp⟩ (Ext.alloc w _) (Blk.new w cs e)
theorem iStB {e : TypeId} {b i : Nat} {cs : List Value} {v : Value} {K : World → Prop} (hb : Blk e w b cs) (hi : i < cs.length) (hv : isCell v = true) (h : Blk e (w.setCell ⟨b, i, none⟩ v) b (cs.set i v) → K (w.setCell ⟨b, i, none⟩ v)) :
    xSt w (.pointer (some ⟨b, i, none⟩)) v K :=
  ⟨_, _, rfl, by rw [hb.cell i, List.getElem?_eq_getElem hi], hb.frozen i, hv, h (hb.set i v)⟩

theorem iMk {e : TypeId} {z : Value} {bytes n : Nat} {k : IntKind} {K : Value → World → Prop} (h1 : bytes * n ≤ 2 ^ 48) (h2 : (n : Int) ≤ 9223372036854775807) (hz : isCell z = true)
    (h : ∀ b w', b = w.heap.size ∧ w'.heap.size = b + 1 → Ext w w' → Blk e w' b (List.replicate n z) → K (.slice (some ⟨b, 0, none⟩) n n) w') : xMk e (Value.cells z) 1 bytes (.int k (n : Int)) (.int k (n : Int)) w K := by
  refine ⟨k, k, n, n, rfl, rfl, Nat.le_refl _, h2, by exact_mod_cast h1, ?_⟩
  have hb := Blk.new w ((Array.range (n * 1)).map (fun i => z.cells[i % z.cells.size]!)) e
  have hc : ((Array.range (n * 1)).map (fun i => z.cells[i % z.cells.size]!)).toList = List.replicate n z := by
    rw [isCell_cells hz]
    apply List.ext_getElem
    · simp
    · intro i h1 h2
      simp [Nat.mod_one]
  rw [hc] at hb
  exact h _ _ ⟨rfl, by simp⟩ (Ext.alloc w _) hb
theorem iIaL {b o n c : Nat} {j : Nat} {k : IntKind} {K : Value → Prop} (hj : j < n) (h : K (.pointer (some ⟨b, o + j, none⟩))) : xIa 1 (.slice (some ⟨b, o, none⟩) n c) (.int k (j : Int)) K := by
  refine ⟨_, _, _, _, _, rfl, rfl, by omega, by omega, ?_⟩
  have : (⟨b, o, none⟩ : Addr).add ((j : Int).toNat * 1) = ⟨b, o + j, none⟩ := by
    simp only [Addr.add, Int.toNat_natCast, Nat.mul_one]; split
    · rename_i e; simp [e]
    · rfl
  rw [this]; exact h
theorem Ow.ofBlk {lo : Nat} {e : TypeId} {w : World} {b n : Nat} {cs : List Value} (h : Blk e w b cs) (hl : lo ≤ b) (hn : cs.length = n) (hm : n ≤ 9223372036854775807) : Ow lo e w (.slice (some ⟨b, 0, none⟩) n n) cs := by
  subst hn
  exact ⟨by simp, .inr ⟨b, cs.length, cs.toArray, rfl, hl, h, Nat.le_refl _, hm, by simp, by simp⟩⟩
theorem iIaOw {lo : Nat} {e : TypeId} {v : Value} {xs : List Value} {j : Int} {k : IntKind} {K : Value → Prop} (hs : Ow lo e w v xs) (h0 : 0 ≤ j) (h1 : j < xs.length)
    (h : ∀ b o, v.ownBlock = some b → lo ≤ b → b < w.heap.size → w.cell? ⟨b, o, none⟩ = xs[j.toNat]? → w.frozen? ⟨b, o, none⟩ = false → (∀ u, Ow lo e (w.setCell ⟨b, o, none⟩ u) v (xs.set j.toNat u)) → K (.pointer (some ⟨b, o, none⟩))) :
    xIa 1 v (.int k j) K := by
  obtain ⟨m, rfl⟩ := Int.eq_ofNat_of_zero_le h0
  obtain ⟨hl, hc | ⟨g, cap, cur, hv, hg, hh, h2, h3, h4, h5⟩⟩ := hs
  · omega
  · subst hv
    have hs' : w.ownsRow lo e 1 (.slice (some ⟨g, 0, none⟩) xs.length cap) xs.length xs := ⟨hl, .inr ⟨g, cap, cur, rfl, hg, hh, h2, h3, h4, h5⟩⟩
    refine iIaL (j := m) (by omega) ?_
    rw [Nat.zero_add]
    refine h g m rfl hg (heap_lt hh) ?_ ?_ ?_
    · rw [Int.toNat_natCast]; exact hs'.cellAt m (by omega)
    · exact hs'.frozenAt m
    · intro u
      rw [Int.toNat_natCast]
      have := hs'.stored m u
      unfold Ow
      rw [List.length_set]
      exact this.1
theorem iSt {b o : Nat} {old v : Value} {K : World → Prop} (hc : w.cell? ⟨b, o, none⟩ = some old) (hf : w.frozen? ⟨b, o, none⟩ = false) (hv : isCell v = true) (h : K (w.setCell ⟨b, o, none⟩ v)) : xSt w (.pointer (some ⟨b, o, none⟩)) v K :=
  ⟨_, _, rfl, hc, hf, hv, h⟩

theorem iStAB {e : TypeId} {b n : Nat} {cs : List Value} {a : Array Value} {K : World → Prop} (hb : Blk e w b cs) (hn : cs.length = n) (ha : a.size = n) (hc : ∀ v ∈ a.toList, isCell v = true)
    (h : ∀ w', Upd b w w' → Blk e w' b a.toList → K w') : xStA P w n (.pointer (some ⟨b, 0, none⟩)) (.agg a) K := by
  obtain ⟨w', h1, h2, h3⟩ := storeCells_run (P := P) a.toList 0 w cs hb (by simp; omega) hc
  refine ⟨_, w', rfl, by simpa [Value.cells] using ha, h1, h w' h2 ?_⟩
  have : cs.drop (0 + a.toList.length) = [] := List.drop_of_length_le (by simp; omega)
  rw [this] at h3
  simpa using h3

/-! ### Worlds in which one row may have turned and new blocks lie -/
theorem Ext.toGrown {w w' : World} (h : Ext w w') (row : Option Nat) : w.grownBy w' row := ⟨h.os, h.tape, h.output, h.size, fun k hk _ => h.block k hk⟩
theorem grown_refl (w : World) (row : Option Nat) : w.grownBy w row := (Ext.refl w).toGrown row
theorem grown_new {w w' w'' : World} {row row' : Option Nat} (h : w.grownBy w' row) (k : w'.grownBy w'' row') (hn : ∀ b, row' = some b → w.heap.size ≤ b ∨ row = some b) : w.grownBy w'' row :=
  ⟨k.os.trans h.os, k.tape.trans h.tape, k.output.trans h.output, Nat.le_trans h.size k.size, fun i hi hne => (k.block i (by have := h.size; omega) (fun e => by
    rcases hn i e.symm with h1 | h1
    · omega
    · exact hne h1.symm)).trans (h.block i hi hne)⟩
theorem Ext.grown {w0 w w' : World} {row : Option Nat} (h : Ext w0 w) (hg : w.grownBy w' row) (hr : ∀ b, row = some b → w0.heap.size ≤ b) : Ext w0 w' :=
  Below.grown h hg h.size hr
theorem Blk.grown {e : TypeId} {w w' : World} {c : Nat} {cs : List Value} {row : Option Nat} (h : Blk e w c cs) (hg : w.grownBy w' row) (hne : row ≠ some c) : Blk e w' c cs := by
  unfold Blk at *
  rw [hg.block c (heap_lt h) (fun e => hne e.symm)]; exact h
theorem Ow.lt {lo : Nat} {e : TypeId} {w : World} {v : Value} {xs : List Value} (h : Ow lo e w v xs) {b : Nat} (hb : w.heap.size ≤ b) : v.ownBlock ≠ some b := fun e => by have := (h.blk b e).2; omega
theorem Sl.ofBlk {e : TypeId} {w : World} {b n : Nat} {cs : List Value} (h : Blk e w b cs) (hn : cs.length = n) (hm : n ≤ 9223372036854775807) : Sl w (.slice (some ⟨b, 0, none⟩) n n) cs := by
  subst hn
  exact ⟨_, cs.length, rfl, Nat.le_refl _, hm, .inr ⟨b, 0, rfl, fun i _ => by rw [Nat.zero_add]; exact h.cell i⟩⟩

theorem iBs0 {e : TypeId} {z : Value} {K : Value → World → Prop} (h : ∀ v w', w'.heap.size = w.heap.size + 1 → Ext w w' → Ow w.heap.size e w' v [] → K v w') : xBs e (Value.cells z) 1 0 [] w K := by
  refine ⟨_, rfl, h _ _ (by simp) (Ext.alloc w _) ?_⟩
  exact ⟨rfl, .inr ⟨w.heap.size, 0, _, rfl, Nat.le_refl _, heap_alloc_new w _, Nat.le_refl _, by simp [maxLen], by simp [show Array.range 0 = #[] from rfl], rfl⟩⟩
theorem iBs1 {e : TypeId} {z x : Value} {K : Value → World → Prop} (hz : isCell z = true) (hx : isCell x = true) (h : ∀ b w', b = w.heap.size ∧ w'.heap.size = b + 1 → Ext w w' → Blk e w' b [x] → K (.slice (some ⟨b, 0, none⟩) 1 1) w') :
    xBs e (Value.cells z) 1 1 [(0, x)] w K := by
  refine ⟨#[x], ?_, h _ _ ⟨rfl, by simp⟩ (Ext.alloc w _) (Blk.new w #[x] e)⟩
  rw [isCell_cells hz]
  simp [Instr.fill, isCell_cells hx, show Array.range 1 = #[0] from rfl]
theorem iAppA {lo : Nat} {t ty e : TypeId} {z v x : Value} {bytes : Nat} {xs ys : List Value} {K : Value → World → Prop} (ht : P.underlying t = some (.slice e)) (hi : (P.info? e).map (fun i => (i.zero, i.size, i.bytes)) = some (some z, 1, bytes)) (hz : isCell z = true)
    (hown : Ow lo e w v xs) (hs : Sl w x ys) (hy : ∀ u ∈ ys, isCell u = true) (hb : (xs.length + ys.length) * bytes ≤ 140737488355328) (hm : xs.length + ys.length ≤ 9223372036854775807) (hlo : lo ≤ w.heap.size)
    (h : ∀ v' w', Ow lo e w' v' (xs ++ ys) → w.grownBy w' v.ownBlock → (v'.ownBlock = v.ownBlock ∨ ∃ c, v'.ownBlock = some c ∧ w.heap.size ≤ c) → K v' w') : xOp P (Builtin.append_ #[t, t] ty #[v, x]) w K := by
  obtain ⟨i, hi, h3⟩ := Option.map_eq_some_iff.1 hi
  simp only [Prod.mk.injEq] at h3
  obtain ⟨hz0, hsz, hby⟩ := h3
  obtain ⟨a, c, rfl, hlc, hcm, hcells⟩ := hs
  have key : ∀ ad : Addr, a = some ad → (∀ j u, ys[j]? = some u → w.cell? (ad.add j) = some u) → xOp P (Builtin.append_ #[t, t] ty #[v, .slice a ys.length c]) w K := by
    rintro ad rfl hnews
    obtain ⟨v', w', h4, h5, h6, _, h7⟩ := run_append_own_at (P := P) (w := w) lo t ty e i z 1 bytes ht hi hz0 hsz hby (by rw [isCell_cells hz]; rfl) (by omega) v xs.length xs hown ad ys.length c ys (by simp) hnews (fun u hu => isCell_one (hy u hu)) (by simpa [maxLen] using hm) hb hlo
    refine ⟨v', w', h4, h v' w' ?_ h6 (h7.imp id fun e => ⟨_, e, Nat.le_refl _⟩)⟩
    unfold Ow
    rw [List.length_append]; exact h5
  rcases hcells with rfl | ⟨b, o, rfl, hc⟩
  · cases a with
    | some ad => exact key ad rfl (fun j u hu => by simp at hu)
    | none =>
      refine ⟨v, w, ?_, h v w (by simpa using hown) (grown_refl w _) (.inl rfl)⟩
      have hr := run_append_owned_none (P := P) w lo t ty e i 1 ht hi v xs.length xs hown
      rcases hown.2 with ⟨rfl, hn⟩ | ⟨g, cap, cur, rfl, _, _, hnc, _⟩
      · simp [Builtin.append_, run_underlying ht, sizeOf, typeInfo, hi, Builtin.lenOf, Builtin.firstCells]
      · simp [Builtin.append_, run_underlying ht, sizeOf, typeInfo, hi, Builtin.lenOf, Builtin.firstCells, hnc, storeCells]
  · refine key ⟨b, o, none⟩ rfl fun j u hu => ?_
    have hj : j < ys.length := (List.getElem?_eq_some_iff.1 hu).1
    have : (⟨b, o, none⟩ : Addr).add j = ⟨b, o + j, none⟩ := by
      simp only [Addr.add]; split
      · rename_i e; simp [e]
      · rfl
    rw [this, hc j hj, hu]
theorem iApp {lo : Nat} {t ty e : TypeId} {z v x : Value} {bytes : Nat} {xs ys : List Value} {K : Value → World → Prop} (ht : P.underlying t = some (.slice e)) (hi : (P.info? e).map (fun i => (i.zero, i.size, i.bytes)) = some (some z, 1, bytes)) (hz : isCell z = true)
    (hown : Ow lo e w v xs) (hs : Sl w x ys) (hy : ∀ u ∈ ys, isCell u = true) (hb : (xs.length + ys.length) * bytes ≤ 140737488355328) (hm : xs.length + ys.length ≤ 9223372036854775807) (hlo : lo ≤ w.heap.size)
    (h : ∀ v' w', Ow lo e w' v' (xs ++ ys) → w.grownBy w' v.ownBlock → K v' w') : xOp P (Builtin.append_ #[t, t] ty #[v, x]) w K :=
  iAppA ht hi hz hown hs hy hb hm hlo fun v' w' h1 h2 _ => h v' w' h1 h2
theorem iApp1A {lo : Nat} {t ty e : TypeId} {z v x : Value} {bytes : Nat} {xs : List Value} {K : Value → World → Prop} (ht : P.underlying t = some (.slice e)) (hi : (P.info? e).map (fun i => (i.zero, i.size, i.bytes)) = some (some z, 1, bytes)) (hz : isCell z = true)
    (hown : Ow lo e w v xs) (hx : isCell x = true) (hb : (xs.length + 1) * bytes ≤ 140737488355328) (hm : xs.length + 1 ≤ 9223372036854775807) (hlo : lo ≤ w.heap.size)
    (h : ∀ v' w', Ow lo e w' v' (xs ++ [x]) → w.grownBy w' v.ownBlock → (v'.ownBlock = v.ownBlock ∨ ∃ c, v'.ownBlock = some c ∧ w.heap.size ≤ c) → K v' w') : xBs e (Value.cells z) 1 1 [(0, x)] w fun y w1 => xOp P (Builtin.append_ #[t, t] ty #[v, y]) w1 K := by
  refine iBs1 hz hx fun b w1 hb1 h1 hB => ?_
  refine iAppA ht hi hz (hown.ext h1) (Sl.ofBlk hB rfl (by omega)) (by simpa using hx) hb hm (by omega) fun v' w' ho hg hat => h v' w' ho ?_ (hat.imp id fun ⟨c, e, hc⟩ => ⟨c, e, Nat.le_trans h1.size hc⟩)
  exact grown_new (h1.toGrown v.ownBlock) hg (fun b hb => .inr hb)
theorem iApp1 {lo : Nat} {t ty e : TypeId} {z v x : Value} {bytes : Nat} {xs : List Value} {K : Value → World → Prop} (ht : P.underlying t = some (.slice e)) (hi : (P.info? e).map (fun i => (i.zero, i.size, i.bytes)) = some (some z, 1, bytes)) (hz : isCell z = true)
    (hown : Ow lo e w v xs) (hx : isCell x = true) (hb : (xs.length + 1) * bytes ≤ 140737488355328) (hm : xs.length + 1 ≤ 9223372036854775807) (hlo : lo ≤ w.heap.size)
    (h : ∀ v' w', Ow lo e w' v' (xs ++ [x]) → w.grownBy w' v.ownBlock → K v' w') : xBs e (Value.cells z) 1 1 [(0, x)] w fun y w1 => xOp P (Builtin.append_ #[t, t] ty #[v, y]) w1 K := by
  refine iBs1 hz hx fun b w1 hb1 h1 hB => ?_
  refine iApp ht hi hz (hown.ext h1) (Sl.ofBlk hB rfl (by omega)) (by simpa using hx) hb hm (by omega) fun v' w' ho hg => h v' w' ho ?_
  exact grown_new (h1.toGrown v.ownBlock) hg (fun b hb => .inr hb)

/-! ### Calls -/
def Ret (P : Program) (f : FuncId) (args : Array Value) (w : World) (v : Value) : Prop := Cal P f args w fun v' w' => v' = v ∧ Ext w w'
theorem iCall {f : FuncId} {args : List Value} {K : Value → World → Prop} (hc : Cal P f args.toArray w K) : callV P (.func (.func f) #[] #[]) args w K := ⟨K, .inl ⟨f, #[], #[], rfl, by simpa using hc⟩, fun _ _ h => h⟩
theorem iClo {f : FuncId} {first cap : Array Value} {fv : Value} {args : List Value} {K : Value → World → Prop} (hv : fv = .func (.func f) first cap) (hc : Cal P f (first ++ args.toArray ++ cap) w K) : callV P fv args w K := ⟨K, .inl ⟨f, first, cap, hv, hc⟩, fun _ _ h => h⟩
theorem iRet {f : FuncId} {args : List Value} {v : Value} {K : Value → World → Prop} (hc : Ret P f args.toArray w v) (h : ∀ w', Ext w w' → K v w') : callV P (.func (.func f) #[] #[]) args w K :=
  iCall (hc.mono fun _ _ ⟨e, he⟩ => by subst e; exact h _ he)
theorem iRetQ {f : FuncId} {args : List Value} {v : Value} {K : Value → Prop} (hc : ∀ w', Ext w w' → Ret P f args.toArray w' v) (h : K v) : callQ P (.func (.func f) #[] #[]) args w K :=
  ⟨v, fun w' hw' => iCall (hc w' hw'), h⟩

/-! ### Control -/
theorem iCnd {b : Bool} {A B : Prop} (h1 : b = true → A) (h2 : b = false → B) : cnd (.bool b) A B := ⟨b, rfl, h1, h2⟩
theorem iCndP {p : Prop} [Decidable p] {A B : Prop} (h1 : p → A) (h2 : ¬ p → B) : cnd (.bool (decide p)) A B := ⟨_, rfl, fun h => h1 (of_decide_eq_true h), fun h => h2 (of_decide_eq_false h)⟩
theorem iCndT {b : Bool} {A B : Prop} (hb : b = true) (h : A) : cnd (.bool b) A B := ⟨b, rfl, fun _ => h, fun e => by rw [hb] at e; cases e⟩
theorem iCndF {b : Bool} {A B : Prop} (hb : b = false) (h : B) : cnd (.bool b) A B := ⟨b, rfl, (fun e => by rw [hb] at e; cases e), fun _ => h⟩
theorem iJn {F : (List Value → World → Prop) → Prop} {K : List Value → World → Prop} (h : F K) : jn F K := h
theorem iLp {σ : Type} (st : σ → List Value) (I : σ → World → Prop) (μ : σ → Nat) (s0 : σ) {body : (List Value → World → Prop) → List Value → World → Prop} {xs0 : List Value} {w0 : World}
    (h0 : st s0 = xs0) (hI : I s0 w0) (h : ∀ s w (Kn : List Value → World → Prop), I s w → (∀ s' w', I s' w' → μ s' < μ s → Kn (st s') w') → body Kn (st s) w) : lp body xs0 w0 := by
  refine ⟨fun m xs w => ∃ s, xs = st s ∧ I s w ∧ m = μ s, ⟨μ s0, s0, h0.symm, hI, rfl⟩, ?_⟩
  rintro m xs w ⟨s, rfl, hs, rfl⟩
  exact h s w _ hs fun s' w' hs' hlt => ⟨μ s', hlt, s', rfl, hs', rfl⟩

/-! ### Slices of natural numbers; bits -/
def nats (l : List Nat) : List Int := l.map Int.ofNat
theorem nats_length (l : List Nat) : (nats l).length = l.length := by simp [nats]
theorem nats_getD (l : List Nat) (k : Nat) : (nats l).getD k 0 = ((l.getD k 0 : Nat) : Int) := by
  simp only [nats, List.getD_eq_getElem?_getD, List.getElem?_map]
  cases l[k]? <;> simp
def SlN (w : World) (v : Value) (l : List Nat) : Prop := SlI w v (nats l)
theorem SlN.ext {w w' : World} {v : Value} {l : List Nat} (h : SlN w v l) (he : Ext w w') : SlN w' v l := Sl.ext h he
theorem SlN.len {w : World} {v : Value} {l : List Nat} (h : SlN w v l) : l.length ≤ 9223372036854775807 := by have := SlI.len h; rwa [nats_length] at this
theorem iLenN {v : Value} {l : List Nat} {K : Value → Prop} (hs : SlN w v l) (h : K (.int .i64 (l.length : Nat))) : xLenS v K := iLenI hs (by rw [nats_length]; exact h)
theorem iIaN {v : Value} {l : List Int} {j : Nat} {k : IntKind} {K : Value → Prop} (hs : SlI w v l) (h1 : j < l.length)
    (h : ∀ p, w.cell? p = some (.int .i64 (l.getD j 0)) → K (.pointer (some p))) : xIa 1 v (.int k (j : Int)) K :=
  iIaI hs (by omega) (by omega) fun p hp => h p (by rw [hp]; simp)
theorem iIaNN {v : Value} {l : List Nat} {j : Nat} {k : IntKind} {K : Value → Prop} (hs : SlN w v l) (h1 : j < l.length)
    (h : ∀ p, w.cell? p = some (.int .i64 ((l.getD j 0 : Nat) : Int)) → K (.pointer (some p))) : xIa 1 v (.int k (j : Int)) K :=
  iIaN hs (by rw [nats_length]; exact h1) fun p hp => h p (by rw [hp, nats_getD])

theorem ofInt_nat (a : Nat) : BitVec.ofInt 64 (a : Int) = BitVec.ofNat 64 a := by simp
theorem iOr_nat {a b : Nat} (ha : a < 2 ^ 63) (hb : b < 2 ^ 63) : iOr .i64 (a : Int) (b : Int) = ((a ||| b : Nat) : Int) := by
  have : a ||| b < 2 ^ 63 := Nat.or_lt_two_pow ha hb
  rw [show iOr .i64 (a : Int) (b : Int) = IntKind.i64.wrap ((BitVec.ofInt 64 (a : Int) ||| BitVec.ofInt 64 (b : Int)).toNat : Nat) from rfl, ofInt_nat, ofInt_nat]
  rw [BitVec.toNat_or, BitVec.toNat_ofNat, BitVec.toNat_ofNat, Nat.mod_eq_of_lt (by omega), Nat.mod_eq_of_lt (by omega)]
  exact IntWalk.i64_in _ (by omega)
theorem iAnd_nat {a b : Nat} (ha : a < 2 ^ 63) (hb : b < 2 ^ 63) : iAnd .i64 (a : Int) (b : Int) = ((a &&& b : Nat) : Int) := by
  have : a &&& b < 2 ^ 63 := Nat.and_lt_two_pow _ hb
  rw [show iAnd .i64 (a : Int) (b : Int) = IntKind.i64.wrap ((BitVec.ofInt 64 (a : Int) &&& BitVec.ofInt 64 (b : Int)).toNat : Nat) from rfl, ofInt_nat, ofInt_nat]
  rw [BitVec.toNat_and, BitVec.toNat_ofNat, BitVec.toNat_ofNat, Nat.mod_eq_of_lt (by omega), Nat.mod_eq_of_lt (by omega)]
  exact IntWalk.i64_in _ (by omega)
def sdiff (a b : Nat) : Nat := a ^^^ (a &&& b)
theorem testBit_sdiff (a b i : Nat) : (sdiff a b).testBit i = (a.testBit i && !b.testBit i) := by
  simp only [sdiff, Nat.testBit_xor, Nat.testBit_and]
  cases a.testBit i <;> cases b.testBit i <;> rfl
theorem sdiff_lt {a b n : Nat} (ha : a < 2 ^ n) : sdiff a b < 2 ^ n := Nat.xor_lt_two_pow ha (Nat.lt_of_le_of_lt Nat.and_le_left ha)
theorem iAndNot_nat {a b : Nat} (ha : a < 2 ^ 63) (_hb : b < 2 ^ 63) : iAndNot .i64 (a : Int) (b : Int) = ((sdiff a b : Nat) : Int) := by
  have h0 : sdiff a b < 2 ^ 63 := sdiff_lt ha
  rw [show iAndNot .i64 (a : Int) (b : Int) = IntKind.i64.wrap ((BitVec.ofInt 64 (a : Int) &&& ~~~ BitVec.ofInt 64 (b : Int)).toNat : Nat) from rfl, ofInt_nat, ofInt_nat]
  have : (BitVec.ofNat 64 a &&& ~~~BitVec.ofNat 64 b).toNat = sdiff a b := by
    apply Nat.eq_of_testBit_eq
    intro i
    rw [testBit_sdiff]
    by_cases hi : i < 64
    · rw [← BitVec.getLsbD, BitVec.getLsbD_and, BitVec.getLsbD_not]
      simp only [hi, BitVec.getLsbD_ofNat, decide_true, Bool.true_and]
    · have : a.testBit i = false := Nat.testBit_lt_two_pow (Nat.lt_of_lt_of_le ha (Nat.pow_le_pow_right (by omega) (by omega)))
      rw [this, Bool.false_and]
      exact Nat.testBit_lt_two_pow (Nat.lt_of_lt_of_le (BitVec.isLt _) (Nat.pow_le_pow_right (by omega) (by omega)))
  rw [this]
  exact IntWalk.i64_in _ (by omega)
theorem iShl_one {k : Nat} (hk : k < 63) : iShl .i64 1 (k : Int) = ((2 ^ k : Nat) : Int) := by
  have h1 : min k 64 = k := by omega
  have h2 : (2 : Nat) ^ k < 2 ^ 63 := Nat.pow_lt_pow_right (by omega) hk
  simp only [iShl, IntKind.bits, Int.toNat_natCast, h1]
  rw [Int.one_mul, show ((2 : Int) ^ k) = ((2 ^ k : Nat) : Int) by simp]
  generalize 2 ^ k = m at *
  exact IntWalk.i64_in _ (by omega)
theorem iShr_nat {a k : Nat} (hk : k ≤ 64) : iShr .i64 (a : Int) (k : Int) = ((a >>> k : Nat) : Int) := by
  simp only [iShr, IntKind.bits, Int.toNat_natCast, show min k 64 = k by omega]
  rw [show ((2 : Int) ^ k) = ((2 ^ k : Nat) : Int) by simp, Nat.shiftRight_eq_div_pow]
  rw [Int.fdiv_eq_ediv_of_nonneg _ (Int.natCast_nonneg _)]
  simp
theorem bit_of_shr {a k : Nat} (hk : k ≤ 64) (ha : a < 2 ^ 63) : iAnd .i64 (iShr .i64 (a : Int) (k : Int)) 1 = (((a.testBit k).toNat : Nat) : Int) := by
  rw [iShr_nat hk]
  have : a >>> k < 2 ^ 63 := Nat.lt_of_le_of_lt (Nat.shiftRight_le _ _) ha
  rw [show (1 : Int) = ((1 : Nat) : Int) by rfl, iAnd_nat this (by omega)]
  congr 1
  rw [Nat.and_one_is_mod, Nat.testBit_eq_decide_div_mod_eq, ← Nat.shiftRight_eq_div_pow]
  rcases Nat.mod_two_eq_zero_or_one (a >>> k) with h | h <;> simp [h]
theorem iBOr {a b : Nat} {K : Value → Prop} (ha : a < 2 ^ 63) (hb : b < 2 ^ 63) (h : K (.int .i64 ((a ||| b : Nat) : Int))) : xBits iOr .i64 (.int .i64 (a : Int)) (.int .i64 (b : Int)) K :=
  ⟨_, _, rfl, rfl, by rw [iOr_nat ha hb]; exact h⟩
theorem iBAnd {a b : Nat} {K : Value → Prop} (ha : a < 2 ^ 63) (hb : b < 2 ^ 63) (h : K (.int .i64 ((a &&& b : Nat) : Int))) : xBits iAnd .i64 (.int .i64 (a : Int)) (.int .i64 (b : Int)) K :=
  ⟨_, _, rfl, rfl, by rw [iAnd_nat ha hb]; exact h⟩
theorem iBAndNot {a b : Nat} {K : Value → Prop} (ha : a < 2 ^ 63) (hb : b < 2 ^ 63) (h : K (.int .i64 ((sdiff a b : Nat) : Int))) : xBits iAndNot .i64 (.int .i64 (a : Int)) (.int .i64 (b : Int)) K :=
  ⟨_, _, rfl, rfl, by rw [iAndNot_nat ha hb]; exact h⟩
theorem iShlOne {j : Nat} {yk : IntKind} {K : Value → Prop} (hj : j < 63) (h : K (.int .i64 ((2 ^ j : Nat) : Int))) : xSh iShl .i64 (.int .i64 1) (.int yk (j : Int)) K :=
  ⟨_, _, _, rfl, rfl, by omega, by rw [iShl_one hj]; exact h⟩
theorem iShrN {a j : Nat} {yk : IntKind} {K : Value → Prop} (hj : j ≤ 64) (h : K (.int .i64 ((a >>> j : Nat) : Int))) : xSh iShr .i64 (.int .i64 (a : Int)) (.int yk (j : Int)) K :=
  ⟨_, _, _, rfl, rfl, by omega, by rw [iShr_nat hj]; exact h⟩

end
end Go.Vc

set_option maxRecDepth 100000
namespace Go.Proofs.YtaipnnkpplinoaaGreatDoor
open Go.Vc
theorem wide_any : Tryz.prog.follows .mixedOrders = true := by kernel_rfl
theorem cD {f : FuncId} {fn : Func} {h : Hint} {args : List Value} {w : World} {R : Value → World → Prop} {S : Prop} (hf : Tryz.prog.funcs[f]? = some fn) (k : S) (hn : (fn.name == "runtime.NumGoroutine") = false := by kernel_rfl) (hb : fn.body = some (fn.body.getD .skip) := by kernel_rfl) (hs : noSel (fn.body.getD .skip) = true := by kernel_rfl) (ha : Nat.ble args.length fn.ntmps = true := by kernel_rfl) (he : S = denF Tryz.prog fn (fn.body.getD .skip) h args w R := by kernel_rfl) : Cal Tryz.prog f args.toArray w R := cal_of_den wide_any hf hn hb hs ha (he.mp k)
abbrev t_Si64 : TypeId := 24
abbrev t_i64 : TypeId := 2
theorem u_Si64 : Tryz.prog.underlying t_Si64 = some (.slice t_i64) := by kernel_rfl
theorem i_Si64 : (Tryz.prog.info? t_i64).map (fun i => (i.zero, i.size, i.bytes)) = some (some (.int .i64 0), 1, 8) := by kernel_rfl
abbrev t_Simpl_Frame : TypeId := 28
abbrev t_impl_Frame : TypeId := 26
theorem u_Simpl_Frame : Tryz.prog.underlying t_Simpl_Frame = some (.slice t_impl_Frame) := by kernel_rfl
theorem i_Simpl_Frame : (Tryz.prog.info? t_impl_Frame).map (fun i => (i.zero, i.size, i.bytes)) = some (some (.agg #[(.int .i64 0), (.slice none 0 0)]), 2, 32) := by kernel_rfl
abbrev t_Simpl_Node : TypeId := 39
abbrev t_impl_Node : TypeId := 163
theorem u_Simpl_Node : Tryz.prog.underlying t_Simpl_Node = some (.slice t_impl_Node) := by kernel_rfl
theorem i_Simpl_Node : (Tryz.prog.info? t_impl_Node).map (fun i => (i.zero, i.size, i.bytes)) = some (some (.agg #[(.int .i64 0), (.int .i64 0)]), 2, 16) := by kernel_rfl
abbrev t_Sstring : TypeId := 43
abbrev t_string : TypeId := 9
theorem u_Sstring : Tryz.prog.underlying t_Sstring = some (.slice t_string) := by kernel_rfl
theorem i_Sstring : (Tryz.prog.info? t_string).map (fun i => (i.zero, i.size, i.bytes)) = some (some (.string ⟨#[]⟩), 1, 16) := by kernel_rfl
abbrev t_SSi64 : TypeId := 62
theorem u_SSi64 : Tryz.prog.underlying t_SSi64 = some (.slice t_Si64) := by kernel_rfl
theorem i_SSi64 : (Tryz.prog.info? t_Si64).map (fun i => (i.zero, i.size, i.bytes)) = some (some (.slice none 0 0), 1, 24) := by kernel_rfl
abbrev f_laws_FnImagesKeepValidity : FuncId := 3
def S_laws_FnImagesKeepValidity (v0 : Value) (w : World) (R : Value → World → Prop) : Prop :=
  callV Tryz.prog (.func (.func 5) #[] #[]) [v0] w fun v29 w1 =>
 cnd v29 (R (.bool true) w1) (callV Tryz.prog (.func (.func 6) #[] #[]) [v0] w1 fun v31 w2 =>
 xNew (Value.cells (.agg #[(.int .i64 0), (.slice none 0 0)])) 26 w2 fun v3 w3 =>
 xStA Tryz.prog w3 2 v3 v31 fun w4 =>
 xLdA w4 2 v3 fun v33 =>
 callV Tryz.prog (.func (.func 7) #[] #[]) [v33] w4 fun v34 w5 =>
 xEx v34 0 fun v35 =>
 xEx v34 1 fun v36 =>
 xLdA w5 2 v3 fun v38 =>
 callV Tryz.prog (.func (.func 8) #[] #[]) [v38] w5 fun v39 w6 =>
 xEx v39 0 fun v40 =>
 xEx v39 1 fun v41 =>
 jn (fun J7 =>
 xNe .i64 v36 v41 fun v44 =>
 cnd v44 (J7 [(.bool true)] w6) (xLenS v35 fun v47 =>
 xLenS v40 fun v49 =>
 xNe .i64 v47 v49 fun v50 =>
 J7 [v50] w6)) (fun xs7 w8 =>
 ∀ _ : Nat → Value, cnd (gx xs7 0) (R (.bool false) w8) (xNe .i64 v36 (.int .i64 0) fun v53 =>
 cnd v53 (R (.bool true) w8) (callV Tryz.prog (.func (.func 9) #[] #[]) [v0, (.int .u64 802)] w8 fun v55 w9 =>
 xLenS v40 fun v57 =>
 xEq .i64 v57 (.int .i64 0) fun v58 =>
 cnd v58 (R (.bool false) w9) (xLenS v40 fun v61 =>
 callV Tryz.prog (.func (.func 10) #[] #[]) [v55, v61] w9 fun v62 w10 =>
 xIa 2 v40 v62 fun v65 =>
 xLdA w10 2 v65 fun v66 =>
 xNew (Value.cells (.agg #[(.int .i64 0), (.slice none 0 0)])) 26 w10 fun v10 w11 =>
 xStA Tryz.prog w11 2 v10 v66 fun w12 =>
 lp (fun K13 xs13 w14 =>
 ∀ _ : Nat → Value, xLenS v40 fun v69 =>
 xLt .i64 (gx xs13 0) v69 fun v70 =>
 cnd v70 (xIa 2 v35 (gx xs13 0) fun v75 =>
 xLdA w14 2 v75 fun v76 =>
 xIa 2 v40 (gx xs13 0) fun v79 =>
 xLdA w14 2 v79 fun v80 =>
 callQ Tryz.prog (.func (.func 11) #[] #[]) [v76, v80] w14 fun v81 =>
 xNot v81 fun v82 =>
 ∀ w15, Ext w14 w15 → cnd v82 (R (.bool false) w15) (xAdd .i64 (gx xs13 0) (.int .i64 1) fun v72 =>
 K13 [v72] w15)) (xLdA w14 2 v3 fun v84 =>
 xLdA w14 2 v10 fun v85 =>
 callV Tryz.prog (.func (.func 12) #[] #[]) [v84, v85] w14 fun v86 w16 =>
 xEx v86 0 fun v87 =>
 xEx v86 1 fun v88 =>
 xLdA w16 2 v3 fun v90 =>
 xLdA w16 2 v10 fun v91 =>
 callV Tryz.prog (.func (.func 13) #[] #[]) [v90, v91] w16 fun v92 w17 =>
 xEx v92 0 fun v93 =>
 xEx v92 1 fun v94 =>
 jn (fun J18 =>
 xNe .i64 v88 v94 fun v97 =>
 cnd v97 (J18 [(.bool true)] w17) (xNe .i64 v88 (.int .i64 0) fun v100 =>
 cnd v100 (J18 [(.bool true)] w17) (callV Tryz.prog (.func (.func 14) #[] #[]) [v87, v93] w17 fun v105 w20 =>
 xNot v105 fun v106 =>
 J18 [v106] w20))) (fun xs18 w19 =>
 ∀ _ : Nat → Value, cnd (gx xs18 0) (R (.bool false) w19) (callV Tryz.prog (.func (.func 15) #[] #[]) [v0] w19 fun v109 w21 =>
 xLdA w21 2 v3 fun v111 =>
 callV Tryz.prog (.func (.func 16) #[] #[]) [v111, v109] w21 fun v113 w22 =>
 xEx v113 0 fun v114 =>
 xEx v113 1 fun v115 =>
 xLdA w22 2 v10 fun v117 =>
 callV Tryz.prog (.func (.func 17) #[] #[]) [v117, v109] w22 fun v119 w23 =>
 xEx v119 0 fun v120 =>
 xEx v119 1 fun v121 =>
 jn (fun J24 =>
 xEq .i64 v115 (.int .i64 0) fun v123 =>
 cnd v123 (cnd v114 (xNe .i64 v121 (.int .i64 0) fun v129 =>
 cnd v129 (J24 [(.bool true)] w23) (xNot v120 fun v132 =>
 J24 [v132] w23)) (J24 [(.bool false)] w23)) (J24 [(.bool false)] w23)) (fun xs24 w25 =>
 ∀ _ : Nat → Value, cnd (gx xs24 0) (R (.bool false) w25) (xLdA w25 2 v3 fun v136 =>
 callV Tryz.prog (.func (.func 18) #[] #[]) [v136] w25 fun v137 w26 =>
 xEx v137 0 fun v138 =>
 xEx v137 1 fun v139 =>
 xLdA w26 2 v3 fun v141 =>
 callV Tryz.prog (.func (.func 19) #[] #[]) [v141] w26 fun v142 w27 =>
 xEx v142 0 fun v143 =>
 xEx v142 1 fun _ =>
 jn (fun J28 =>
 xNe .i64 v139 (.int .i64 0) fun v146 =>
 cnd v146 (J28 [(.bool true)] w27) (callV Tryz.prog (.func (.func 20) #[] #[]) [v138, v143] w27 fun v150 w30 =>
 xNot v150 fun v151 =>
 J28 [v151] w30)) (fun xs28 w29 =>
 ∀ _ : Nat → Value, cnd (gx xs28 0) (R (.bool false) w29) (lp (fun K31 xs31 w32 =>
 ∀ _ : Nat → Value, xLenS v143 fun v155 =>
 xLt .i64 (gx xs31 0) v155 fun v156 =>
 cnd v156 (xLdA w32 2 v10 fun v160 =>
 xIa 1 v143 (gx xs31 0) fun v163 =>
 xLd w32 v163 fun v164 =>
 callQ Tryz.prog (.func (.func 21) #[] #[]) [v160, v164] w32 fun v165 =>
 xEx v165 0 fun v166 =>
 xEx v165 1 fun v167 =>
 ∀ w33, Ext w32 w33 → jn (fun J34 =>
 xNe .i64 v167 (.int .i64 0) fun v169 =>
 cnd v169 (J34 [(.bool true)] w33) (xNot v166 fun v172 =>
 J34 [v172] w33)) (fun xs34 w35 =>
 ∀ _ : Nat → Value, cnd (gx xs34 0) (R (.bool false) w35) (xAdd .i64 (gx xs31 0) (.int .i64 1) fun v158 =>
 K31 [v158] w35))) (R (.bool true) w32)) [(.int .i64 0)] w29)))))))) [(.int .i64 0)] w12)))))
theorem c_laws_FnImagesKeepValidity {v0 : Value} {w : World} {R : Value → World → Prop} (h : S_laws_FnImagesKeepValidity v0 w R) : Cal Tryz.prog f_laws_FnImagesKeepValidity #[v0] w R := cD (h := (.node none .leaf (.node none .leaf (.node none .leaf (.node none .leaf (.node none .leaf (.node none (.node none (.reg [] (some [51])) .leaf) (.node none .leaf (.node none .leaf (.node none .leaf (.node none .leaf (.node none .leaf (.node none (.node none .leaf (.node (some [11]) (.node none .leaf (.node none (.node none (.reg [8] none) .leaf) .leaf)) .leaf)) (.node none .leaf (.node none .leaf (.node none (.node none (.reg [] (some [107])) .leaf) (.node none .leaf (.node none .leaf (.node none .leaf (.node none (.node none (.reg [] (some [134])) .leaf) (.node none .leaf (.node none .leaf (.node none (.node none (.reg [] (some [152])) .leaf) (.node none (.node none .leaf (.node (some [25]) (.node none .leaf (.node none (.node none (.reg [5] none) (.node none (.reg [] (some [173])) .leaf)) .leaf)) .leaf)) .leaf)))))))))))))))))))))))) Tryz.func3 h
abbrev f_laws_big : FuncId := 5
def S_laws_big (v0 : Value) (w : World) (R : Value → World → Prop) : Prop :=
  xLenS v0 fun v4 =>
 xLt .i64 (.int .i64 4096) v4 fun v5 =>
 R v5 w
theorem c_laws_big {v0 : Value} {w : World} {R : Value → World → Prop} (h : S_laws_big v0 w R) : Cal Tryz.prog f_laws_big #[v0] w R := cD (h := .leaf) Tryz.func5 h
abbrev f_spec_DrawMorphicImages : FuncId := 6
def S_spec_DrawMorphicImages (v0 : Value) (w : World) (R : Value → World → Prop) : Prop :=
  xNew (Value.cells (.agg #[(.int .i64 0), (.slice none 0 0)])) 26 w fun v2 w1 =>
 callV Tryz.prog (.func (.func 32) #[] #[]) [v0] w1 fun v5 w2 =>
 xBs 2 (Value.cells (.int .i64 0)) 1 5 [(0, (.int .i64 3)), (1, (.int .i64 4)), (2, (.int .i64 5)), (3, (.int .i64 6)), (4, (.int .i64 7))] w2 fun v8 w3 =>
 callV Tryz.prog (.func (.func 34) #[] #[]) [v5, v8] w3 fun v9 w4 =>
 callV Tryz.prog (.func (.func 33) #[] #[]) [v5, v9] w4 fun v10 w5 =>
 xStA Tryz.prog w5 2 v2 v10 fun w6 =>
 xLdA w6 2 v2 fun r7 =>
 R r7 w6
theorem c_spec_DrawMorphicImages {v0 : Value} {w : World} {R : Value → World → Prop} (h : S_spec_DrawMorphicImages v0 w R) : Cal Tryz.prog f_spec_DrawMorphicImages #[v0] w R := cD (h := .leaf) Tryz.func6 h
abbrev f_impl_MorphicImages : FuncId := 7
def S_impl_MorphicImages (v0 : Value) (w : World) (R : Value → World → Prop) : Prop :=
  xNew (Value.cells v0) 26 w fun v1 w1 =>
 xLdA w1 2 v1 fun v8 =>
 callV Tryz.prog (.func (.func 35) #[] #[]) [v8] w1 fun v9 w2 =>
 xNot v9 fun v10 =>
 cnd v10 (R (.tuple #[(.slice none 0 0), (.int .i64 1)]) w2) (xFa 0 v1 fun v12 =>
 xLd w2 v12 fun v13 =>
 xLt .i64 (.int .i64 6) v13 fun v14 =>
 cnd v14 (R (.tuple #[(.slice none 0 0), (.int .i64 3)]) w2) (xLdA w2 2 v1 fun v15 =>
 callV Tryz.prog (.func (.func 36) #[] #[]) [v15] w2 fun v16 w3 =>
 xLenS v16 fun v17 =>
 lp (fun K4 xs4 w5 =>
 ∀ _ : Nat → Value, xLt .i64 (gx xs4 1) v17 fun v19 =>
 cnd v19 (xIa 1 v16 (gx xs4 1) fun v20 =>
 xLd w5 v20 fun v21 =>
 xFa 1 v1 fun v23 =>
 xLd w5 v23 fun v24 =>
 callV Tryz.prog (.func (.func 39) #[] #[]) [v24, v21] w5 fun v26 w6 =>
 callV Tryz.prog (.func (.func 38) #[] #[]) [v26] w6 fun v27 w7 =>
 callV Tryz.prog (.func (.func 37) #[] #[]) [v27] w7 fun v28 w8 =>
 xBs 26 (Value.cells (.agg #[(.int .i64 0), (.slice none 0 0)])) 2 1 [(0, v28)] w8 fun v29 w9 =>
 xOp Tryz.prog (Builtin.append_ #[28, 28] 28 #[(gx xs4 0), v29]) w9 fun v30 w10 =>
 xAdd .i64 (gx xs4 1) (.int .i64 1) fun v31 =>
 K4 [v30, v31] w10) (callV Tryz.prog (.func (.func 40) #[] #[]) [(gx xs4 0), (.func (.func 41) #[] #[])] w5 fun _ w11 =>
 callV Tryz.prog (.func (.func 42) #[] #[]) [(gx xs4 0), (.func (.func 43) #[] #[])] w11 fun v35 w12 =>
 xLenS v35 fun v37 =>
 xLt .i64 (.int .i64 200) v37 fun v38 =>
 cnd v38 (R (.tuple #[(.slice none 0 0), (.int .i64 3)]) w12) (R (.tuple #[v35, (.int .i64 0)]) w12))) [(.slice none 0 0), (.int .i64 0)] w3))
theorem c_impl_MorphicImages {v0 : Value} {w : World} {R : Value → World → Prop} (h : S_impl_MorphicImages v0 w R) : Cal Tryz.prog f_impl_MorphicImages #[v0] w R := cD (h := (.node none .leaf (.node none .leaf (.node none .leaf (.node none (.node none .leaf (.node (some [4, 18]) .leaf .leaf)) .leaf))))) Tryz.func7 h
abbrev f_spec_MorphicImages : FuncId := 8
def S_spec_MorphicImages (v0 : Value) (w : World) (R : Value → World → Prop) : Prop :=
  xNew (Value.cells v0) 26 w fun v1 w1 =>
 xLdA w1 2 v1 fun v10 =>
 callV Tryz.prog (.func (.func 44) #[] #[]) [v10] w1 fun v11 w2 =>
 xNot v11 fun v12 =>
 cnd v12 (R (.tuple #[(.slice none 0 0), (.int .i64 1)]) w2) (xFa 0 v1 fun v13 =>
 xLd w2 v13 fun v14 =>
 xLt .i64 (.int .i64 6) v14 fun v15 =>
 cnd v15 (R (.tuple #[(.slice none 0 0), (.int .i64 3)]) w2) (xLdA w2 2 v1 fun v16 =>
 callV Tryz.prog (.func (.func 45) #[] #[]) [v16] w2 fun v17 w3 =>
 xBs 26 (Value.cells (.agg #[(.int .i64 0), (.slice none 0 0)])) 2 0 [] w3 fun v18 w4 =>
 lp (fun K5 xs5 w6 =>
 ∀ _ : Nat → Value, xLenS v17 fun v21 =>
 xLt .i64 (gx xs5 1) v21 fun v22 =>
 cnd v22 (jn (fun J7 =>
 xLdA w6 2 v1 fun v25 =>
 xIa 1 v17 (gx xs5 1) fun v28 =>
 xLd w6 v28 fun v29 =>
 ∀ w9, Ext w6 w9 → (callV Tryz.prog (.func (.func 48) #[] #[]) [v25, v29] w9 fun v30 w10 =>
 xFd 1 v30 fun v31 =>
 ∀ w11, Ext w10 w11 → (callV Tryz.prog (.func (.func 47) #[] #[]) [v31] w11 fun v32 w12 =>
 ∀ w13, Ext w12 w13 → (callV Tryz.prog (.func (.func 46) #[] #[]) [v32] w13 fun v33 w14 =>
 ∀ w15, Ext w14 w15 → xNew (Value.cells (.agg #[(.int .i64 0), (.slice none 0 0)])) 26 w15 fun v7 w16 =>
 Ext w15 w16 ∧ ∀ w17, Ext w16 w17 → xStA Tryz.prog w17 2 v7 v33 fun w18 =>
 ∀ w19, Ext w18 w19 → J7 [v7] w19) ∧ (xNew (Value.cells (.agg #[(.int .i64 0), (.slice none 0 0)])) 26 w13 fun v7 w20 =>
 Ext w13 w20 ∧ ∀ w21, Ext w20 w21 → callV Tryz.prog (.func (.func 46) #[] #[]) [v32] w21 fun v33 w22 =>
 ∀ w23, Ext w22 w23 → xStA Tryz.prog w23 2 v7 v33 fun w24 =>
 ∀ w25, Ext w24 w25 → J7 [v7] w25)) ∧ (xNew (Value.cells (.agg #[(.int .i64 0), (.slice none 0 0)])) 26 w11 fun v7 w26 =>
 Ext w11 w26 ∧ ∀ w27, Ext w26 w27 → callV Tryz.prog (.func (.func 47) #[] #[]) [v31] w27 fun v32 w28 =>
 ∀ w29, Ext w28 w29 → callV Tryz.prog (.func (.func 46) #[] #[]) [v32] w29 fun v33 w30 =>
 ∀ w31, Ext w30 w31 → xStA Tryz.prog w31 2 v7 v33 fun w32 =>
 ∀ w33, Ext w32 w33 → J7 [v7] w33)) ∧ (xNew (Value.cells (.agg #[(.int .i64 0), (.slice none 0 0)])) 26 w9 fun v7 w34 =>
 Ext w9 w34 ∧ ∀ w35, Ext w34 w35 → callV Tryz.prog (.func (.func 48) #[] #[]) [v25, v29] w35 fun v30 w36 =>
 xFd 1 v30 fun v31 =>
 ∀ w37, Ext w36 w37 → callV Tryz.prog (.func (.func 47) #[] #[]) [v31] w37 fun v32 w38 =>
 ∀ w39, Ext w38 w39 → callV Tryz.prog (.func (.func 46) #[] #[]) [v32] w39 fun v33 w40 =>
 ∀ w41, Ext w40 w41 → xStA Tryz.prog w41 2 v7 v33 fun w42 =>
 ∀ w43, Ext w42 w43 → J7 [v7] w43)) (fun xs7 w8 =>
 ∀ _ : Nat → Value, lp (fun K44 xs44 w45 =>
 ∀ _ : Nat → Value, jn (fun J46 =>
 xLenS (gx xs5 0) fun v36 =>
 xLt .i64 (gx xs44 0) v36 fun v37 =>
 cnd v37 (xIa 2 (gx xs5 0) (gx xs44 0) fun v41 =>
 xLdA w45 2 v41 fun v42 =>
 xLdA w45 2 (gx xs7 0) fun v43 =>
 callQ Tryz.prog (.func (.func 49) #[] #[]) [v42, v43] w45 fun v44 =>
 ∀ w48, Ext w45 w48 → J46 [v44] w48) (∀ w49, Ext w45 w49 → J46 [(.bool false)] w49)) (fun xs46 w47 =>
 ∀ _ : Nat → Value, cnd (gx xs46 0) (xAdd .i64 (gx xs44 0) (.int .i64 1) fun v47 =>
 K44 [v47] w47) (jn (fun J50 =>
 xLenS (gx xs5 0) fun v50 =>
 xLt .i64 (gx xs44 0) v50 fun v51 =>
 cnd v51 (xIa 2 (gx xs5 0) (gx xs44 0) fun v55 =>
 xFa 1 v55 fun v56 =>
 xLd w47 v56 fun v57 =>
 xFa 1 (gx xs7 0) fun v58 =>
 xLd w47 v58 fun v59 =>
 callQ Tryz.prog (.func (.func 50) #[] #[]) [v57, v59] w47 fun v60 =>
 ∀ w52, Ext w47 w52 → J50 [v60] w52) (∀ w53, Ext w47 w53 → J50 [(.bool false)] w53)) (fun xs50 w51 =>
 ∀ _ : Nat → Value, cnd (gx xs50 0) (xAdd .i64 (gx xs5 1) (.int .i64 1) fun v24 =>
 K5 [(gx xs5 0), v24] w51) (xBs 26 (Value.cells (.agg #[(.int .i64 0), (.slice none 0 0)])) 2 0 [] w51 fun v62 w54 =>
 xSl 2 (gx xs5 0) none (some (gx xs44 0)) fun v65 =>
 xOp Tryz.prog (Builtin.append_ #[28, 28] 28 #[v62, v65]) w54 fun v66 w55 =>
 xLdA w55 2 (gx xs7 0) fun v68 =>
 xBs 26 (Value.cells (.agg #[(.int .i64 0), (.slice none 0 0)])) 2 1 [(0, v68)] w55 fun v69 w56 =>
 xOp Tryz.prog (Builtin.append_ #[28, 28] 28 #[v66, v69]) w56 fun v70 w57 =>
 xSl 2 (gx xs5 0) (some (gx xs44 0)) none fun v74 =>
 xOp Tryz.prog (Builtin.append_ #[28, 28] 28 #[v70, v74]) w57 fun v75 w58 =>
 xAdd .i64 (gx xs5 1) (.int .i64 1) fun v24 =>
 K5 [v75, v24] w58))))) [(.int .i64 0)] w8)) (xLenS (gx xs5 0) fun v77 =>
 xLt .i64 (.int .i64 200) v77 fun v78 =>
 cnd v78 (R (.tuple #[(.slice none 0 0), (.int .i64 3)]) w6) (R (.tuple #[(gx xs5 0), (.int .i64 0)]) w6))) [v18, (.int .i64 0)] w4))
theorem c_spec_MorphicImages {v0 : Value} {w : World} {R : Value → World → Prop} (h : S_spec_MorphicImages v0 w R) : Cal Tryz.prog f_spec_MorphicImages #[v0] w R := cD (h := (.node none .leaf (.node none .leaf (.node none .leaf (.node none .leaf (.node none (.node none .leaf (.node (some [5, 6]) (.node none .leaf (.node none (.node none (.reg [] (some [7])) (.node none .leaf (.node none (.node (some [8]) (.node none (.node none (.reg [10] (some [45])) .leaf) .leaf) .leaf) (.node none (.node none (.reg [12] (some [61])) .leaf) .leaf)))) .leaf)) .leaf)) .leaf)))))) Tryz.func8 h
abbrev f_laws_roll : FuncId := 9
def S_laws_roll (v0 v1 : Value) (w : World) (R : Value → World → Prop) : Prop :=
  xMul .u64 v1 (.int .u64 7681) fun v9 =>
 xLenS v0 fun v11 =>
 xConv .u64 v11 fun v12 =>
 xAdd .u64 v9 v12 fun v13 =>
 xBuild #[(.slice none 0 0), (.int .i64 0), (.int .u64 0)] #[(0, 1), (1, 1), (2, 1)] [(0, v0), (2, v13)] fun v14 =>
 xNew (Value.cells v14) 72 w fun v15 w1 =>
 lp (fun K2 xs2 w3 =>
 ∀ _ : Nat → Value, xLenS v0 fun v18 =>
 xLt .i64 (gx xs2 0) v18 fun v19 =>
 cnd v19 (xNil v15 fun v24 =>
 xFa 2 v24 fun v25 =>
 xLd w3 v25 fun v26 =>
 xMul .u64 v26 (.int .u64 1099511628211) fun v27 =>
 xIa 1 v0 (gx xs2 0) fun v30 =>
 xLd w3 v30 fun v31 =>
 xConv .u64 v31 fun v32 =>
 xAdd .u64 v27 v32 fun v33 =>
 xAdd .u64 v33 (.int .u64 5) fun v34 =>
 xNil v15 fun v35 =>
 xFa 2 v35 fun v36 =>
 ∀ w4, Ext w3 w4 → xSt w4 v36 v34 fun w5 =>
 ∀ w6, Ext w5 w6 → xAdd .i64 (gx xs2 0) (.int .i64 1) fun v21 =>
 K2 [v21] w6) (R v15 w3)) [(.int .i64 0)] w1
theorem c_laws_roll {v0 v1 : Value} {w : World} {R : Value → World → Prop} (h : S_laws_roll v0 v1 w R) : Cal Tryz.prog f_laws_roll #[v0, v1] w R := cD (h := (.node none .leaf (.node none .leaf (.node none (.node none .leaf (.node (some [6]) .leaf .leaf)) .leaf)))) Tryz.func9 h
abbrev f_laws_dice_below : FuncId := 10
def S_laws_dice_below (v0 v1 : Value) (w : World) (R : Value → World → Prop) : Prop :=
  xLt .i64 v1 (.int .i64 1) fun v7 =>
 cnd v7 (R (.int .i64 0) w) (xNil v0 fun v10 =>
 xFa 2 v10 fun v11 =>
 xLd w v11 fun v12 =>
 xMul .u64 v12 (.int .u64 6364136223846793005) fun v13 =>
 xAdd .u64 v13 (.int .u64 1442695040888963407) fun v14 =>
 xNil v0 fun v15 =>
 xFa 2 v15 fun v16 =>
 xSt w v16 v14 fun w1 =>
 xNil v0 fun v18 =>
 xFa 2 v18 fun v19 =>
 xLd w1 v19 fun v20 =>
 xSh iShr .u64 v20 (.int .u64 33) fun v21 =>
 xBits iAnd .u64 v21 (.int .u64 16777215) fun v22 =>
 xConv .i64 v22 fun v23 =>
 xNil v0 fun v25 =>
 xFa 1 v25 fun v26 =>
 xLd w1 v26 fun v27 =>
 xNil v0 fun v29 =>
 xFa 0 v29 fun v30 =>
 xLd w1 v30 fun v31 =>
 xLenS v31 fun v32 =>
 xLt .i64 v27 v32 fun v33 =>
 ∀ w2, Ext w1 w2 → jn (fun J3 =>
 cnd v33 (xNil v0 fun v36 =>
 xFa 0 v36 fun v37 =>
 xLd w2 v37 fun v38 =>
 xNil v0 fun v40 =>
 xFa 1 v40 fun v41 =>
 xLd w2 v41 fun v42 =>
 xIa 1 v38 v42 fun v43 =>
 xLd w2 v43 fun v44 =>
 xConv .i64 v44 fun v45 =>
 xAdd .i64 v23 v45 fun v46 =>
 ∀ w5, Ext w2 w5 → xNil v0 fun v49 =>
 xFa 1 v49 fun v50 =>
 xLd w5 v50 fun v51 =>
 xAdd .i64 v51 (.int .i64 1) fun v52 =>
 xNil v0 fun v53 =>
 xFa 1 v53 fun v54 =>
 xSt w5 v54 v52 fun w6 =>
 J3 [v46] w6) (J3 [v23] w2)) (fun xs3 w4 =>
 ∀ _ : Nat → Value, xRem .i64 (gx xs3 0) v1 fun v57 =>
 R v57 w4))
theorem c_laws_dice_below {v0 v1 : Value} {w : World} {R : Value → World → Prop} (h : S_laws_dice_below v0 v1 w R) : Cal Tryz.prog f_laws_dice_below #[v0, v1] w R := cD (h := (.node none .leaf (.node none .leaf (.node none .leaf (.node none .leaf (.node none (.node none .leaf (.node (some [5]) .leaf .leaf)) .leaf)))))) Tryz.func10 h
abbrev f_laws_likeFrame5 : FuncId := 11
def S_laws_likeFrame5 (v0 v1 : Value) (w : World) (R : Value → World → Prop) : Prop :=
  xNew (Value.cells v0) 26 w fun v2 w1 =>
 xNew (Value.cells v1) 26 w1 fun v3 w2 =>
 jn (fun J3 =>
 xFa 0 v2 fun v5 =>
 xLd w2 v5 fun v6 =>
 xFa 0 v3 fun v7 =>
 xLd w2 v7 fun v8 =>
 xEq .i64 v6 v8 fun v9 =>
 cnd v9 (xFa 1 v2 fun v11 =>
 xLd w2 v11 fun v12 =>
 xFa 1 v3 fun v13 =>
 xLd w2 v13 fun v14 =>
 callV Tryz.prog (.func (.func 14) #[] #[]) [v12, v14] w2 fun v15 w5 =>
 J3 [v15] w5) (J3 [(.bool false)] w2)) (fun xs3 w4 =>
 ∀ _ : Nat → Value, R (gx xs3 0) w4)
theorem c_laws_likeFrame5 {v0 v1 : Value} {w : World} {R : Value → World → Prop} (h : S_laws_likeFrame5 v0 v1 w R) : Cal Tryz.prog f_laws_likeFrame5 #[v0, v1] w R := cD (h := (.node none .leaf (.node none (.reg [] (some [4])) .leaf))) Tryz.func11 h
abbrev f_impl_FindOnto : FuncId := 12
def S_impl_FindOnto (v0 v1 : Value) (w : World) (R : Value → World → Prop) : Prop :=
  xNew (Value.cells v0) 26 w fun v2 w1 =>
 xNew (Value.cells v1) 26 w1 fun v3 w2 =>
 jn (fun J3 =>
 xLdA w2 2 v2 fun v8 =>
 callV Tryz.prog (.func (.func 35) #[] #[]) [v8] w2 fun v9 w5 =>
 xNot v9 fun v10 =>
 cnd v10 (J3 [(.bool true)] w5) (xLdA w5 2 v3 fun v12 =>
 callV Tryz.prog (.func (.func 35) #[] #[]) [v12] w5 fun v13 w6 =>
 xNot v13 fun v14 =>
 J3 [v14] w6)) (fun xs3 w4 =>
 ∀ _ : Nat → Value, cnd (gx xs3 0) (R (.tuple #[(.slice none 0 0), (.int .i64 1)]) w4) (xLdA w4 2 v2 fun v17 =>
 xLdA w4 2 v3 fun v18 =>
 callV Tryz.prog (.func (.func 51) #[] #[]) [v17, v18, (.bool true), (.bool false)] w4 fun v19 w7 =>
 xEx v19 0 fun v20 =>
 xEx v19 1 fun v21 =>
 xNot v21 fun v23 =>
 cnd v23 (R (.tuple #[(.slice none 0 0), (.int .i64 4)]) w7) (R (.tuple #[v20, (.int .i64 0)]) w7)))
theorem c_impl_FindOnto {v0 v1 : Value} {w : World} {R : Value → World → Prop} (h : S_impl_FindOnto v0 v1 w R) : Cal Tryz.prog f_impl_FindOnto #[v0, v1] w R := cD (h := (.node none .leaf (.node none (.node none (.reg [] (some [15])) .leaf) .leaf))) Tryz.func12 h
abbrev f_spec_FindOnto : FuncId := 13
def S_spec_FindOnto (v0 v1 : Value) (w : World) (R : Value → World → Prop) : Prop :=
  xNew (Value.cells v0) 26 w fun v2 w1 =>
 xNew (Value.cells v1) 26 w1 fun v3 w2 =>
 jn (fun J3 =>
 xLdA w2 2 v2 fun v7 =>
 callV Tryz.prog (.func (.func 44) #[] #[]) [v7] w2 fun v8 w5 =>
 xNot v8 fun v9 =>
 cnd v9 (J3 [(.bool true)] w5) (xLdA w5 2 v3 fun v11 =>
 callV Tryz.prog (.func (.func 44) #[] #[]) [v11] w5 fun v12 w6 =>
 xNot v12 fun v13 =>
 J3 [v13] w6)) (fun xs3 w4 =>
 ∀ _ : Nat → Value, cnd (gx xs3 0) (R (.tuple #[(.slice none 0 0), (.int .i64 1)]) w4) (xLdA w4 2 v2 fun v15 =>
 xLdA w4 2 v3 fun v16 =>
 callV Tryz.prog (.func (.func 52) #[] #[]) [v15, v16, (.bool true), (.bool false), (.int .i64 1)] w4 fun v17 w7 =>
 xLenS v17 fun v19 =>
 xEq .i64 v19 (.int .i64 0) fun v20 =>
 cnd v20 (R (.tuple #[(.slice none 0 0), (.int .i64 4)]) w7) (xIa 1 v17 (.int .i64 0) fun v22 =>
 xLd w7 v22 fun v23 =>
 R (.tuple #[v23, (.int .i64 0)]) w7)))
theorem c_spec_FindOnto {v0 v1 : Value} {w : World} {R : Value → World → Prop} (h : S_spec_FindOnto v0 v1 w R) : Cal Tryz.prog f_spec_FindOnto #[v0, v1] w R := cD (h := (.node none .leaf (.node none (.node none (.reg [] (some [14])) .leaf) .leaf))) Tryz.func13 h
abbrev f_laws_likeInts : FuncId := 14
def S_laws_likeInts (v0 v1 : Value) (w : World) (R : Value → World → Prop) : Prop :=
  xLenS v0 fun v7 =>
 xLenS v1 fun v9 =>
 xNe .i64 v7 v9 fun v10 =>
 cnd v10 (R (.bool false) w) (lp (fun K1 xs1 w2 =>
 ∀ _ : Nat → Value, xLenS v0 fun v13 =>
 xLt .i64 (gx xs1 0) v13 fun v14 =>
 cnd v14 (xIa 1 v0 (gx xs1 0) fun v19 =>
 xLd w2 v19 fun v20 =>
 xIa 1 v1 (gx xs1 0) fun v23 =>
 xLd w2 v23 fun v24 =>
 xNe .i64 v20 v24 fun v25 =>
 ∀ w3, Ext w2 w3 → cnd v25 (R (.bool false) w3) (xAdd .i64 (gx xs1 0) (.int .i64 1) fun v16 =>
 K1 [v16] w3)) (R (.bool true) w2)) [(.int .i64 0)] w)
theorem c_laws_likeInts {v0 v1 : Value} {w : World} {R : Value → World → Prop} (h : S_laws_likeInts v0 v1 w R) : Cal Tryz.prog f_laws_likeInts #[v0, v1] w R := cD (h := (.node none .leaf (.node none .leaf (.node none (.node none .leaf (.node (some [5]) .leaf .leaf)) .leaf)))) Tryz.func14 h
abbrev f_spec_DrawSubformulasOf : FuncId := 15
def S_spec_DrawSubformulasOf (v0 : Value) (w : World) (R : Value → World → Prop) : Prop :=
  callV Tryz.prog (.func (.func 32) #[] #[]) [v0] w fun v4 w1 =>
 callV Tryz.prog (.func (.func 53) #[] #[]) [v4, (.int .i64 16), (.int .i64 3), (.bool true)] w1 fun v5 w2 =>
 R v5 w2
theorem c_spec_DrawSubformulasOf {v0 : Value} {w : World} {R : Value → World → Prop} (h : S_spec_DrawSubformulasOf v0 w R) : Cal Tryz.prog f_spec_DrawSubformulasOf #[v0] w R := cD (h := .leaf) Tryz.func15 h
abbrev f_spec_IsValidOn : FuncId := 16
def S_spec_IsValidOn (v0 v1 : Value) (w : World) (R : Value → World → Prop) : Prop :=
  xNew (Value.cells v0) 26 w fun v2 w1 =>
 xLdA w1 2 v2 fun v7 =>
 xBs 39 (Value.cells (.slice none 0 0)) 1 1 [(0, v1)] w1 fun v9 w2 =>
 callV Tryz.prog (.func (.func 54) #[] #[]) [v7, v9] w2 fun v10 w3 =>
 xNe .i64 v10 (.int .i64 0) fun v12 =>
 cnd v12 (R (.tuple #[(.bool false), v10]) w3) (xLdA w3 2 v2 fun v14 =>
 callV Tryz.prog (.func (.func 55) #[] #[]) [v14, v1] w3 fun v16 w4 =>
 R (.tuple #[v16, (.int .i64 0)]) w4)
theorem c_spec_IsValidOn {v0 v1 : Value} {w : World} {R : Value → World → Prop} (h : S_spec_IsValidOn v0 v1 w R) : Cal Tryz.prog f_spec_IsValidOn #[v0, v1] w R := cD (h := .leaf) Tryz.func16 h
abbrev f_impl_IsValidOn : FuncId := 17
def S_impl_IsValidOn (v0 v1 : Value) (w : World) (R : Value → World → Prop) : Prop :=
  xNew (Value.cells v0) 26 w fun v2 w1 =>
 xLdA w1 2 v2 fun v7 =>
 xBs 39 (Value.cells (.slice none 0 0)) 1 1 [(0, v1)] w1 fun v9 w2 =>
 callV Tryz.prog (.func (.func 56) #[] #[]) [v7, v9] w2 fun v10 w3 =>
 xNe .i64 v10 (.int .i64 0) fun v12 =>
 cnd v12 (R (.tuple #[(.bool false), v10]) w3) (xLdA w3 2 v2 fun v14 =>
 callV Tryz.prog (.func (.func 57) #[] #[]) [v14, v1] w3 fun v16 w4 =>
 R (.tuple #[v16, (.int .i64 0)]) w4)
theorem c_impl_IsValidOn {v0 v1 : Value} {w : World} {R : Value → World → Prop} (h : S_impl_IsValidOn v0 v1 w R) : Cal Tryz.prog f_impl_IsValidOn #[v0, v1] w R := cD (h := .leaf) Tryz.func17 h
abbrev f_impl_LogicsOfFrame : FuncId := 18
def S_impl_LogicsOfFrame (v0 : Value) (w : World) (R : Value → World → Prop) : Prop :=
  xNew (Value.cells v0) 26 w fun v1 w1 =>
 xLdA w1 2 v1 fun v4 =>
 callV Tryz.prog (.func (.func 35) #[] #[]) [v4] w1 fun v5 w2 =>
 xNot v5 fun v6 =>
 cnd v6 (R (.tuple #[(.slice none 0 0), (.int .i64 1)]) w2) (xLdA w2 2 v1 fun v7 =>
 callV Tryz.prog (.func (.func 58) #[] #[]) [v7] w2 fun v8 w3 =>
 R (.tuple #[v8, (.int .i64 0)]) w3)
theorem c_impl_LogicsOfFrame {v0 : Value} {w : World} {R : Value → World → Prop} (h : S_impl_LogicsOfFrame v0 w R) : Cal Tryz.prog f_impl_LogicsOfFrame #[v0] w R := cD (h := .leaf) Tryz.func18 h
abbrev f_spec_LogicsOfFrame : FuncId := 19
def S_spec_LogicsOfFrame (v0 : Value) (w : World) (R : Value → World → Prop) : Prop :=
  xNew (Value.cells v0) 26 w fun v1 w1 =>
 xLdA w1 2 v1 fun v4 =>
 callV Tryz.prog (.func (.func 44) #[] #[]) [v4] w1 fun v5 w2 =>
 xNot v5 fun v6 =>
 cnd v6 (R (.tuple #[(.slice none 0 0), (.int .i64 1)]) w2) (xLdA w2 2 v1 fun v7 =>
 callV Tryz.prog (.func (.func 59) #[] #[]) [v7] w2 fun v8 w3 =>
 R (.tuple #[v8, (.int .i64 0)]) w3)
theorem c_spec_LogicsOfFrame {v0 : Value} {w : World} {R : Value → World → Prop} (h : S_spec_LogicsOfFrame v0 w R) : Cal Tryz.prog f_spec_LogicsOfFrame #[v0] w R := cD (h := .leaf) Tryz.func19 h
abbrev f_laws_likeTexts5 : FuncId := 20
def S_laws_likeTexts5 (v0 v1 : Value) (w : World) (R : Value → World → Prop) : Prop :=
  xLenS v0 fun v7 =>
 xLenS v1 fun v9 =>
 xNe .i64 v7 v9 fun v10 =>
 cnd v10 (R (.bool false) w) (lp (fun K1 xs1 w2 =>
 ∀ _ : Nat → Value, xLenS v0 fun v13 =>
 xLt .i64 (gx xs1 0) v13 fun v14 =>
 cnd v14 (xIa 1 v0 (gx xs1 0) fun v19 =>
 xLd w2 v19 fun v20 =>
 xIa 1 v1 (gx xs1 0) fun v23 =>
 xLd w2 v23 fun v24 =>
 xStr .neq v20 v24 fun v25 =>
 ∀ w3, Ext w2 w3 → cnd v25 (R (.bool false) w3) (xAdd .i64 (gx xs1 0) (.int .i64 1) fun v16 =>
 K1 [v16] w3)) (R (.bool true) w2)) [(.int .i64 0)] w)
theorem c_laws_likeTexts5 {v0 v1 : Value} {w : World} {R : Value → World → Prop} (h : S_laws_likeTexts5 v0 v1 w R) : Cal Tryz.prog f_laws_likeTexts5 #[v0, v1] w R := cD (h := (.node none .leaf (.node none .leaf (.node none (.node none .leaf (.node (some [5]) .leaf .leaf)) .leaf)))) Tryz.func20 h
abbrev f_impl_IsFrameOf : FuncId := 21
def S_impl_IsFrameOf (v0 v1 : Value) (w : World) (R : Value → World → Prop) : Prop :=
  xNew (Value.cells v0) 26 w fun v2 w1 =>
 xLdA w1 2 v2 fun v7 =>
 callV Tryz.prog (.func (.func 35) #[] #[]) [v7] w1 fun v8 w2 =>
 xNot v8 fun v9 =>
 cnd v9 (R (.tuple #[(.bool false), (.int .i64 1)]) w2) (callV Tryz.prog (.func (.func 60) #[] #[]) [v1] w2 fun v12 w3 =>
 xNot v12 fun v13 =>
 cnd v13 (R (.tuple #[(.bool false), (.int .i64 4)]) w3) (xLdA w3 2 v2 fun v14 =>
 callV Tryz.prog (.func (.func 61) #[] #[]) [v14, v1] w3 fun v16 w4 =>
 R (.tuple #[v16, (.int .i64 0)]) w4))
theorem c_impl_IsFrameOf {v0 v1 : Value} {w : World} {R : Value → World → Prop} (h : S_impl_IsFrameOf v0 v1 w R) : Cal Tryz.prog f_impl_IsFrameOf #[v0, v1] w R := cD (h := .leaf) Tryz.func21 h
abbrev f_spec_l01From : FuncId := 32
def S_spec_l01From (v0 : Value) (w : World) (R : Value → World → Prop) : Prop :=
  xLenS v0 fun v7 =>
 xConv .u64 v7 fun v8 =>
 xAdd .u64 (.int .u64 7129) v8 fun v9 =>
 xBuild #[(.slice none 0 0), (.int .i64 0), (.int .u64 0)] #[(0, 1), (1, 1), (2, 1)] [(0, v0), (2, v9)] fun v10 =>
 xNew (Value.cells v10) 106 w fun v11 w1 =>
 lp (fun K2 xs2 w3 =>
 ∀ _ : Nat → Value, jn (fun J4 =>
 xLenS v0 fun v14 =>
 xLt .i64 (gx xs2 0) v14 fun v15 =>
 cnd v15 (xLt .i64 (gx xs2 0) (.int .i64 4096) fun v18 =>
 J4 [v18] w3) (J4 [(.bool false)] w3)) (fun xs4 w5 =>
 ∀ _ : Nat → Value, cnd (gx xs4 0) (xNil v11 fun v24 =>
 xFa 2 v24 fun v25 =>
 xLd w5 v25 fun v26 =>
 xMul .u64 v26 (.int .u64 1099511628211) fun v27 =>
 xIa 1 v0 (gx xs2 0) fun v30 =>
 xLd w5 v30 fun v31 =>
 xConv .u64 v31 fun v32 =>
 xAdd .u64 v27 v32 fun v33 =>
 xAdd .u64 v33 (.int .u64 11) fun v34 =>
 xNil v11 fun v35 =>
 xFa 2 v35 fun v36 =>
 ∀ w6, Ext w5 w6 → xSt w6 v36 v34 fun w7 =>
 ∀ w8, Ext w7 w8 → xAdd .i64 (gx xs2 0) (.int .i64 1) fun v21 =>
 K2 [v21] w8) (R v11 w5))) [(.int .i64 0)] w1
theorem c_spec_l01From {v0 : Value} {w : World} {R : Value → World → Prop} (h : S_spec_l01From v0 w R) : Cal Tryz.prog f_spec_l01From #[v0] w R := cD (h := (.node none .leaf (.node none .leaf (.node none (.node none .leaf (.node (some [4]) (.node none (.node none (.reg [] (some [19])) .leaf) .leaf) .leaf)) .leaf)))) Tryz.func32 h
abbrev f_spec_l05Draw : FuncId := 33
def S_spec_l05Draw (v0 v1 : Value) (w : World) (R : Value → World → Prop) : Prop :=
  xNew (Value.cells (.agg #[(.int .i64 0), (.slice none 0 0)])) 26 w fun v4 w1 =>
 callV Tryz.prog (.func (.func 78) #[] #[]) [v0, v1] w1 fun v8 w2 =>
 xNew (Value.cells (.agg #[(.int .i64 0), (.slice none 0 0)])) 26 w2 fun v5 w3 =>
 xStA Tryz.prog w3 2 v5 v8 fun w4 =>
 callV Tryz.prog (.func (.func 79) #[] #[]) [v0, (.int .i64 40)] w4 fun v10 w5 =>
 xEq .i64 v10 (.int .i64 0) fun v12 =>
 cnd v12 (xFa 0 v5 fun v14 =>
 xLd w5 v14 fun v15 =>
 xAdd .i64 v15 (.int .i64 1) fun v16 =>
 xBs 2 (Value.cells (.int .i64 0)) 1 3 [(0, (.int .i64 (-1))), (1, (.int .i64 9)), (2, v16)] w5 fun v17 w6 =>
 callV Tryz.prog (.func (.func 34) #[] #[]) [v0, v17] w6 fun v18 w7 =>
 xFa 0 v5 fun v19 =>
 xSt w7 v19 v18 fun w8 =>
 xLdA w8 2 v5 fun v47 =>
 xStA Tryz.prog w8 2 v4 v47 fun w9 =>
 xLdA w9 2 v4 fun r10 =>
 R r10 w9) (xEq .i64 v10 (.int .i64 1) fun v21 =>
 cnd v21 (xFa 1 v5 fun v22 =>
 xLd w5 v22 fun v23 =>
 callV Tryz.prog (.func (.func 80) #[] #[]) [v23] w5 fun v24 w11 =>
 xBs 2 (Value.cells (.int .i64 0)) 1 1 [(0, (.int .i64 0))] w11 fun v25 w12 =>
 xOp Tryz.prog (Builtin.append_ #[24, 24] 24 #[v24, v25]) w12 fun v26 w13 =>
 xFa 1 v5 fun v27 =>
 xSt w13 v27 v26 fun w14 =>
 xLdA w14 2 v5 fun v47 =>
 xStA Tryz.prog w14 2 v4 v47 fun w15 =>
 xLdA w15 2 v4 fun r16 =>
 R r16 w15) (xEq .i64 v10 (.int .i64 2) fun v29 =>
 cnd v29 (xFa 0 v5 fun v30 =>
 xLd w5 v30 fun v31 =>
 xLt .i64 (.int .i64 0) v31 fun v32 =>
 cnd v32 (∃ D17 : Nat → Prop, xFa 1 v5 fun v33 =>
 xLd w5 v33 fun v34 =>
 (∀ w18, Ch D17 w5 w18 → xLd w18 v33 fun u34 =>
 u34 = v34) ∧ xFa 0 v5 fun v36 =>
 xLd w5 v36 fun v37 =>
 (∀ w19, Ch D17 w5 w19 → xLd w19 v36 fun u37 =>
 u37 = v37) ∧ xFa 0 v5 fun v40 =>
 xLd w5 v40 fun v41 =>
 (∀ w20, Ch D17 w5 w20 → xLd w20 v40 fun u41 =>
 u41 = v41) ∧ ∀ w21, Ext w5 w21 → callV Tryz.prog (.func (.func 79) #[] #[]) [v0, v37] w21 fun v38 w22 =>
 Ch D17 w21 w22 ∧ callQE Tryz.prog D17 (.func (.func 81) #[] #[]) [v41] w22 fun v42 =>
 xAdd .i64 v42 (.int .i64 1) fun v43 =>
 ∀ w23, Ext w22 w23 → xBs 2 (Value.cells (.int .i64 0)) 1 2 [(0, (.int .i64 (-1))), (1, v43)] w23 fun v44 w24 =>
 Ch D17 w23 w24 ∧ ∀ w25, Ext w24 w25 → callV Tryz.prog (.func (.func 34) #[] #[]) [v0, v44] w25 fun v45 w26 =>
 Ch D17 w25 w26 ∧ xIa 1 v34 v38 fun v46 =>
 ∀ w27, Ext w26 w27 → xSt w27 v46 v45 fun w28 =>
 ∀ w29, Ext w28 w29 → xLdA w29 2 v5 fun v47 =>
 xStA Tryz.prog w29 2 v4 v47 fun w30 =>
 xLdA w30 2 v4 fun r31 =>
 R r31 w30) (xLdA w5 2 v5 fun v47 =>
 xStA Tryz.prog w5 2 v4 v47 fun w32 =>
 xLdA w32 2 v4 fun r33 =>
 R r33 w32)) (xLdA w5 2 v5 fun v47 =>
 xStA Tryz.prog w5 2 v4 v47 fun w34 =>
 xLdA w34 2 v4 fun r35 =>
 R r35 w34)))
theorem c_spec_l05Draw {v0 v1 : Value} {w : World} {R : Value → World → Prop} (h : S_spec_l05Draw v0 v1 w R) : Cal Tryz.prog f_spec_l05Draw #[v0, v1] w R := cD (h := (.node none .leaf (.node none .leaf (.node none (.node none .leaf (.node none .leaf (.node none .leaf (.node none .leaf (.node none .leaf (.node none .leaf (.node none (.node none .leaf (.node none (.regE [9] none) .leaf)) .leaf))))))) .leaf)))) Tryz.func33 h
abbrev f_spec_l01Pick : FuncId := 34
def S_spec_l01Pick (v0 v1 : Value) (w : World) (R : Value → World → Prop) : Prop :=
  xLenS v1 fun v8 =>
 callV Tryz.prog (.func (.func 79) #[] #[]) [v0, v8] w fun v9 w1 =>
 xIa 1 v1 v9 fun v10 =>
 xLd w1 v10 fun v11 =>
 R v11 w1
theorem c_spec_l01Pick {v0 v1 : Value} {w : World} {R : Value → World → Prop} (h : S_spec_l01Pick v0 v1 w R) : Cal Tryz.prog f_spec_l01Pick #[v0, v1] w R := cD (h := .leaf) Tryz.func34 h
abbrev f_impl_isFrame : FuncId := 35
def S_impl_isFrame (v0 : Value) (w : World) (R : Value → World → Prop) : Prop :=
  xNew (Value.cells v0) 26 w fun v1 w1 =>
 jn (fun J2 =>
 xFa 0 v1 fun v3 =>
 xLd w1 v3 fun v4 =>
 callQ Tryz.prog (.func (.func 82) #[] #[]) [v4, (.int .i64 0), (.int .i64 8)] w1 fun v5 =>
 cnd v5 (xFa 1 v1 fun v7 =>
 xLd w1 v7 fun v8 =>
 callQ Tryz.prog (.func (.func 83) #[] #[]) [v8] w1 fun v9 =>
 xFa 0 v1 fun v10 =>
 xLd w1 v10 fun v11 =>
 xEq .i64 v9 v11 fun v12 =>
 cnd v12 (xFa 1 v1 fun v15 =>
 xLd w1 v15 fun v16 =>
 callQ Tryz.prog (.func (.func 84) #[] #[]) [v16] w1 fun v17 =>
 ∀ w4, Ext w1 w4 → J2 [v17] w4) (∀ w5, Ext w1 w5 → J2 [(.bool false)] w5)) (∀ w6, Ext w1 w6 → J2 [(.bool false)] w6)) (fun xs2 w3 =>
 ∀ _ : Nat → Value, R (gx xs2 0) w3)
theorem c_impl_isFrame {v0 : Value} {w : World} {R : Value → World → Prop} (h : S_impl_isFrame v0 w R) : Cal Tryz.prog f_impl_isFrame #[v0] w R := cD (h := (.node none .leaf (.node none (.reg [2, 6, 14] (some [2])) .leaf))) Tryz.func35 h
abbrev f_impl_congruences : FuncId := 36
def S_impl_congruences (v0 : Value) (w : World) (R : Value → World → Prop) : Prop :=
  xNew (Value.cells v0) 26 w fun v1 w1 =>
 xNew (Value.cells (.slice none 0 0)) 62 w1 fun v3 w2 =>
 xFa 0 v1 fun v4 =>
 xLd w2 v4 fun v5 =>
 callV Tryz.prog (.func (.func 85) #[] #[]) [v5, (.func (.func 86) #[] #[v1, v3])] w2 fun _ w3 =>
 xLd w3 v3 fun v8 =>
 R v8 w3
theorem c_impl_congruences {v0 : Value} {w : World} {R : Value → World → Prop} (h : S_impl_congruences v0 w R) : Cal Tryz.prog f_impl_congruences #[v0] w R := cD (h := .leaf) Tryz.func36 h
abbrev f_impl_frameOf : FuncId := 37
def S_impl_frameOf (v0 : Value) (w : World) (R : Value → World → Prop) : Prop :=
  xNew (Value.cells (.agg #[(.int .i64 0), (.slice none 0 0)])) 26 w fun v2 w1 =>
 callV Tryz.prog (.func (.func 83) #[] #[]) [v0] w1 fun v4 w2 =>
 xBuild #[(.int .i64 0), (.slice none 0 0)] #[(0, 1), (1, 1)] [(0, v4), (1, v0)] fun v6 =>
 xStA Tryz.prog w2 2 v2 v6 fun w3 =>
 xLdA w3 2 v2 fun r4 =>
 R r4 w3
theorem c_impl_frameOf {v0 : Value} {w : World} {R : Value → World → Prop} (h : S_impl_frameOf v0 w R) : Cal Tryz.prog f_impl_frameOf #[v0] w R := cD (h := .leaf) Tryz.func37 h
abbrev f_impl_leastRelation : FuncId := 38
def S_impl_leastRelation (v0 : Value) (w : World) (R : Value → World → Prop) : Prop :=
  xNew (Value.cells v0) 24 w fun v1 w1 =>
 xLd w1 v1 fun v4 =>
 callV Tryz.prog (.func (.func 88) #[] #[]) [v4] w1 fun v5 w2 =>
 xNew (Value.cells (.slice none 0 0)) 24 w2 fun v3 w3 =>
 xSt w3 v3 v5 fun w4 =>
 xLd w4 v1 fun v6 =>
 callV Tryz.prog (.func (.func 83) #[] #[]) [v6] w4 fun v7 w5 =>
 callV Tryz.prog (.func (.func 89) #[] #[]) [v7, (.func (.func 90) #[] #[v1, v3])] w5 fun _ w6 =>
 xLd w6 v3 fun v10 =>
 R v10 w6
theorem c_impl_leastRelation {v0 : Value} {w : World} {R : Value → World → Prop} (h : S_impl_leastRelation v0 w R) : Cal Tryz.prog f_impl_leastRelation #[v0] w R := cD (h := .leaf) Tryz.func38 h
abbrev f_impl_quotientRelation : FuncId := 39
def S_impl_quotientRelation (v0 v1 : Value) (w : World) (R : Value → World → Prop) : Prop :=
  callV Tryz.prog (.func (.func 93) #[] #[]) [v1] w fun v9 w1 =>
 xMk 2 (Value.cells (.int .i64 0)) 1 8 v9 v9 w1 fun v10 w2 =>
 xLenS v0 fun v12 =>
 lp (fun K3 xs3 w4 =>
 ∀ _ : Nat → Value, xLt .i64 (gx xs3 0) v12 fun v14 =>
 cnd v14 (xIa 1 v0 (gx xs3 0) fun v16 =>
 xLd w4 v16 fun v17 =>
 xIa 1 v1 (gx xs3 0) fun v21 =>
 xLd w4 v21 fun v22 =>
 xIa 1 v10 v22 fun v23 =>
 xLd w4 v23 fun v24 =>
 callQ Tryz.prog (.func (.func 94) #[] #[]) [v1, v17] w4 fun v27 =>
 xBits iOr .i64 v24 v27 fun v28 =>
 xIa 1 v10 v22 fun v29 =>
 ∀ w5, Ext w4 w5 → xSt w5 v29 v28 fun w6 =>
 ∀ w7, Ext w6 w7 → xAdd .i64 (gx xs3 0) (.int .i64 1) fun v30 =>
 K3 [v30] w7) (R v10 w4)) [(.int .i64 0)] w2
theorem c_impl_quotientRelation {v0 v1 : Value} {w : World} {R : Value → World → Prop} (h : S_impl_quotientRelation v0 v1 w R) : Cal Tryz.prog f_impl_quotientRelation #[v0, v1] w R := cD (h := (.node none .leaf (.node none .leaf (.node none (.node none .leaf (.node (some [13]) (.node none .leaf (.node none .leaf (.node none (.node none .leaf (.reg [9] none)) .leaf))) .leaf)) .leaf)))) Tryz.func39 h
abbrev f_slices_SortFunc_Simpl_Frame_impl_Frame : FuncId := 40
def S_slices_SortFunc_Simpl_Frame_impl_Frame (v0 v1 : Value) (w : World) (R : Value → World → Prop) : Prop :=
  xLenS v0 fun v6 =>
 xConv .u64 v6 fun v10 =>
 callV Tryz.prog (.func (.func 96) #[] #[]) [v10] w fun v11 w1 =>
 callV Tryz.prog (.func (.func 95) #[] #[]) [v0, (.int .i64 0), v6, v11, v1] w1 fun _ w2 =>
 R (.tuple #[]) w2
theorem c_slices_SortFunc_Simpl_Frame_impl_Frame {v0 v1 : Value} {w : World} {R : Value → World → Prop} (h : S_slices_SortFunc_Simpl_Frame_impl_Frame v0 v1 w R) : Cal Tryz.prog f_slices_SortFunc_Simpl_Frame_impl_Frame #[v0, v1] w R := cD (h := .leaf) Tryz.func40 h
abbrev f_impl_compareFrames : FuncId := 41
def S_impl_compareFrames (v0 v1 : Value) (w : World) (R : Value → World → Prop) : Prop :=
  xNew (Value.cells v0) 26 w fun v2 w1 =>
 xNew (Value.cells v1) 26 w1 fun v3 w2 =>
 xFa 0 v2 fun v5 =>
 xLd w2 v5 fun v6 =>
 xFa 0 v3 fun v7 =>
 xLd w2 v7 fun v8 =>
 callQ Tryz.prog (.func (.func 98) #[] #[]) [v6, v8] w2 fun v9 =>
 xFa 1 v2 fun v10 =>
 xLd w2 v10 fun v11 =>
 xFa 1 v3 fun v12 =>
 xLd w2 v12 fun v13 =>
 callQ Tryz.prog (.func (.func 92) #[] #[]) [v11, v13] w2 fun v14 =>
 ∀ w3, Ext w2 w3 → xBs 3 (Value.cells (.int .i64 0)) 1 2 [(0, v9), (1, v14)] w3 fun v15 w4 =>
 callQ Tryz.prog (.func (.func 97) #[] #[]) [v15] w4 fun v16 =>
 ∀ w5, Ext w4 w5 → R v16 w5
theorem c_impl_compareFrames {v0 v1 : Value} {w : World} {R : Value → World → Prop} (h : S_impl_compareFrames v0 v1 w R) : Cal Tryz.prog f_impl_compareFrames #[v0, v1] w R := cD (h := (.node none .leaf (.node none (.reg [4, 9, 11] none) .leaf))) Tryz.func41 h
abbrev f_slices_CompactFunc_Simpl_Frame_impl_Frame : FuncId := 42
def S_slices_CompactFunc_Simpl_Frame_impl_Frame (v0 v1 : Value) (w : World) (R : Value → World → Prop) : Prop :=
  xLenS v0 fun v9 =>
 xLt .i64 v9 (.int .i64 2) fun v10 =>
 cnd v10 (R v0 w) (lp (fun K1 xs1 w2 =>
 ∀ _ : Nat → Value, xLenS v0 fun v14 =>
 xLt .i64 (gx xs1 0) v14 fun v15 =>
 cnd v15 (xIa 2 v0 (gx xs1 0) fun v21 =>
 xLdA w2 2 v21 fun v22 =>
 xSub .i64 (gx xs1 0) (.int .i64 1) fun v25 =>
 xIa 2 v0 v25 fun v26 =>
 xLdA w2 2 v26 fun v27 =>
 ∀ w3, Ext w2 w3 → callV Tryz.prog v1 [v22, v27] w3 fun v28 w4 =>
 ∀ w5, Ext w4 w5 → cnd v28 (xSl 2 v0 (some (gx xs1 0)) none fun v31 =>
 lp (fun K6 xs6 w7 =>
 ∀ _ : Nat → Value, xLenS v31 fun v34 =>
 xLt .i64 (gx xs6 1) v34 fun v35 =>
 cnd v35 (xIa 2 v31 (gx xs6 1) fun v41 =>
 xLdA w7 2 v41 fun v42 =>
 xSub .i64 (gx xs6 1) (.int .i64 1) fun v45 =>
 xIa 2 v31 v45 fun v46 =>
 xLdA w7 2 v46 fun v47 =>
 ∀ w8, Ext w7 w8 → callV Tryz.prog v1 [v42, v47] w8 fun v48 w9 =>
 xNot v48 fun v49 =>
 ∀ w10, Ext w9 w10 → cnd v49 (xIa 2 v31 (gx xs6 1) fun v54 =>
 xLdA w10 2 v54 fun v55 =>
 xIa 2 v0 (gx xs6 0) fun v56 =>
 xStA Tryz.prog w10 2 v56 v55 fun w11 =>
 xAdd .i64 (gx xs6 0) (.int .i64 1) fun v58 =>
 xAdd .i64 (gx xs6 1) (.int .i64 1) fun v37 =>
 K6 [v58, v37] w11) (xAdd .i64 (gx xs6 1) (.int .i64 1) fun v37 =>
 K6 [(gx xs6 0), v37] w10)) (xSl 2 v0 (some (gx xs6 0)) none fun v61 =>
 xOp Tryz.prog (Builtin.clear_ #[28] 0 #[v61]) w7 fun _ w12 =>
 xSl 2 v0 none (some (gx xs6 0)) fun v64 =>
 R v64 w12)) [(gx xs1 0), (.int .i64 1)] w5) (xAdd .i64 (gx xs1 0) (.int .i64 1) fun v17 =>
 K1 [v17] w5)) (R v0 w2)) [(.int .i64 1)] w)
theorem c_slices_CompactFunc_Simpl_Frame_impl_Frame {v0 v1 : Value} {w : World} {R : Value → World → Prop} (h : S_slices_CompactFunc_Simpl_Frame_impl_Frame v0 v1 w R) : Cal Tryz.prog f_slices_CompactFunc_Simpl_Frame_impl_Frame #[v0, v1] w R := cD (h := (.node none .leaf (.node none .leaf (.node none (.node none .leaf (.node (some [5]) (.node none .leaf (.node none (.node none .leaf (.node none (.node none .leaf (.node none (.node none .leaf (.node (some [5, 7]) .leaf .leaf)) .leaf)) .leaf)) .leaf)) .leaf)) .leaf)))) Tryz.func42 h
abbrev f_impl_MorphicImages_1 : FuncId := 43
def S_impl_MorphicImages_1 (v0 v1 : Value) (w : World) (R : Value → World → Prop) : Prop :=
  xNew (Value.cells v0) 26 w fun v2 w1 =>
 xNew (Value.cells v1) 26 w1 fun v3 w2 =>
 xLdA w2 2 v2 fun v5 =>
 xLdA w2 2 v3 fun v6 =>
 callV Tryz.prog (.func (.func 41) #[] #[]) [v5, v6] w2 fun v7 w3 =>
 xEq .i64 v7 (.int .i64 0) fun v8 =>
 R v8 w3
theorem c_impl_MorphicImages_1 {v0 v1 : Value} {w : World} {R : Value → World → Prop} (h : S_impl_MorphicImages_1 v0 v1 w R) : Cal Tryz.prog f_impl_MorphicImages_1 #[v0, v1] w R := cD (h := .leaf) Tryz.func43 h
abbrev f_spec_l05Is : FuncId := 44
def S_spec_l05Is (v0 : Value) (w : World) (R : Value → World → Prop) : Prop :=
  xNew (Value.cells v0) 26 w fun v1 w1 =>
 jn (fun J2 =>
 xFa 0 v1 fun v3 =>
 xLd w1 v3 fun v4 =>
 callV Tryz.prog (.func (.func 99) #[] #[]) [v4, (.int .i64 0), (.int .i64 8)] w1 fun v5 w4 =>
 cnd v5 (xFa 1 v1 fun v7 =>
 xLd w4 v7 fun v8 =>
 xLenS v8 fun v9 =>
 xFa 0 v1 fun v10 =>
 xLd w4 v10 fun v11 =>
 xEq .i64 v9 v11 fun v12 =>
 cnd v12 (xFa 0 v1 fun v15 =>
 xLd w4 v15 fun v16 =>
 xFa 1 v1 fun v17 =>
 xLd w4 v17 fun v18 =>
 callV Tryz.prog (.func (.func 100) #[] #[]) [v16, v18] w4 fun v19 w5 =>
 J2 [v19] w5) (J2 [(.bool false)] w4)) (J2 [(.bool false)] w4)) (fun xs2 w3 =>
 ∀ _ : Nat → Value, R (gx xs2 0) w3)
theorem c_spec_l05Is {v0 : Value} {w : World} {R : Value → World → Prop} (h : S_spec_l05Is v0 w R) : Cal Tryz.prog f_spec_l05Is #[v0] w R := cD (h := (.node none .leaf (.node none (.reg [] (some [2])) .leaf))) Tryz.func44 h
abbrev f_spec_l08Congruences : FuncId := 45
def S_spec_l08Congruences (v0 : Value) (w : World) (R : Value → World → Prop) : Prop :=
  xNew (Value.cells v0) 26 w fun v1 w1 =>
 xFa 0 v1 fun v6 =>
 xLd w1 v6 fun v7 =>
 xBs 2 (Value.cells (.int .i64 0)) 1 0 [] w1 fun v8 w2 =>
 xBs 24 (Value.cells (.slice none 0 0)) 1 0 [] w2 fun v9 w3 =>
 callV Tryz.prog (.func (.func 101) #[] #[]) [v7, v8, (.int .i64 0), v9] w3 fun v10 w4 =>
 xBs 24 (Value.cells (.slice none 0 0)) 1 0 [] w4 fun v11 w5 =>
 lp (fun K6 xs6 w7 =>
 ∀ _ : Nat → Value, xLenS v10 fun v14 =>
 xLt .i64 (gx xs6 1) v14 fun v15 =>
 cnd v15 (xLdA w7 2 v1 fun v18 =>
 xIa 1 v10 (gx xs6 1) fun v21 =>
 xLd w7 v21 fun v22 =>
 callQ Tryz.prog (.func (.func 102) #[] #[]) [v18, v22] w7 fun v23 =>
 ∀ w8, Ext w7 w8 → cnd v23 (xIa 1 v10 (gx xs6 1) fun v27 =>
 xLd w8 v27 fun v28 =>
 xBs 24 (Value.cells (.slice none 0 0)) 1 1 [(0, v28)] w8 fun v29 w9 =>
 xOp Tryz.prog (Builtin.append_ #[62, 62] 62 #[(gx xs6 0), v29]) w9 fun v30 w10 =>
 xAdd .i64 (gx xs6 1) (.int .i64 1) fun v17 =>
 K6 [v30, v17] w10) (xAdd .i64 (gx xs6 1) (.int .i64 1) fun v17 =>
 K6 [(gx xs6 0), v17] w8)) (R (gx xs6 0) w7)) [v11, (.int .i64 0)] w5
theorem c_spec_l08Congruences {v0 : Value} {w : World} {R : Value → World → Prop} (h : S_spec_l08Congruences v0 w R) : Cal Tryz.prog f_spec_l08Congruences #[v0] w R := cD (h := (.node none .leaf (.node none .leaf (.node none (.node none .leaf (.node (some [4, 5]) (.node none .leaf (.node none (.node none (.reg [5] none) .leaf) .leaf)) .leaf)) .leaf)))) Tryz.func45 h
abbrev f_spec_l05Make : FuncId := 46
def S_spec_l05Make (v0 : Value) (w : World) (R : Value → World → Prop) : Prop :=
  xNew (Value.cells (.agg #[(.int .i64 0), (.slice none 0 0)])) 26 w fun v2 w1 =>
 xLenS v0 fun v4 =>
 callV Tryz.prog (.func (.func 80) #[] #[]) [v0] w1 fun v6 w2 =>
 xBuild #[(.int .i64 0), (.slice none 0 0)] #[(0, 1), (1, 1)] [(0, v4), (1, v6)] fun v7 =>
 xStA Tryz.prog w2 2 v2 v7 fun w3 =>
 xLdA w3 2 v2 fun r4 =>
 R r4 w3
theorem c_spec_l05Make {v0 : Value} {w : World} {R : Value → World → Prop} (h : S_spec_l05Make v0 w R) : Cal Tryz.prog f_spec_l05Make #[v0] w R := cD (h := .leaf) Tryz.func46 h
abbrev f_spec_l05Least : FuncId := 47
def S_spec_l05Least (v0 : Value) (w : World) (R : Value → World → Prop) : Prop :=
  xLenS v0 fun v8 =>
 callV Tryz.prog (.func (.func 103) #[] #[]) [v8] w fun v9 w1 =>
 callV Tryz.prog (.func (.func 80) #[] #[]) [v0] w1 fun v11 w2 =>
 lp (fun K3 xs3 w4 =>
 ∀ _ : Nat → Value, xLenS v9 fun v14 =>
 xLt .i64 (gx xs3 1) v14 fun v15 =>
 cnd v15 (xIa 1 v9 (gx xs3 1) fun v21 =>
 xLd w4 v21 fun v22 =>
 callV Tryz.prog (.func (.func 104) #[] #[]) [v0, v22] w4 fun v23 w5 =>
 callV Tryz.prog (.func (.func 105) #[] #[]) [v23, (gx xs3 0)] w5 fun v26 w6 =>
 cnd v26 (xAdd .i64 (gx xs3 1) (.int .i64 1) fun v17 =>
 K3 [v23, v17] w6) (xAdd .i64 (gx xs3 1) (.int .i64 1) fun v17 =>
 K3 [(gx xs3 0), v17] w6)) (R (gx xs3 0) w4)) [v11, (.int .i64 0)] w2
theorem c_spec_l05Least {v0 : Value} {w : World} {R : Value → World → Prop} (h : S_spec_l05Least v0 w R) : Cal Tryz.prog f_spec_l05Least #[v0] w R := cD (h := (.node none .leaf (.node none .leaf (.node none .leaf (.node none (.node none .leaf (.node (some [4, 5]) .leaf .leaf)) .leaf))))) Tryz.func47 h
abbrev f_spec_l08Quotient : FuncId := 48
def S_spec_l08Quotient (v0 v1 : Value) (w : World) (R : Value → World → Prop) : Prop :=
  xNew (Value.cells v0) 26 w fun v2 w1 =>
 xNew (Value.cells (.agg #[(.int .i64 0), (.slice none 0 0)])) 26 w1 fun v4 w2 =>
 lp (fun K3 xs3 w4 =>
 ∀ _ : Nat → Value, xLenS v1 fun v11 =>
 xLt .i64 (gx xs3 1) v11 fun v12 =>
 cnd v12 (xIa 1 v1 (gx xs3 1) fun v18 =>
 xLd w4 v18 fun v19 =>
 xAdd .i64 v19 (.int .i64 1) fun v20 =>
 xMax (gx xs3 0) v20 fun v21 =>
 xAdd .i64 (gx xs3 1) (.int .i64 1) fun v14 =>
 K3 [v21, v14] w4) (xMk 2 (Value.cells (.int .i64 0)) 1 8 (gx xs3 0) (gx xs3 0) w4 fun v23 w5 =>
 lp (fun K6 xs6 w7 =>
 ∀ _ : Nat → Value, xLenS v1 fun v26 =>
 xLt .i64 (gx xs6 0) v26 fun v27 =>
 cnd v27 (xIa 1 v1 (gx xs6 0) fun v33 =>
 xLd w7 v33 fun v34 =>
 xFa 1 v2 fun v36 =>
 xLd w7 v36 fun v37 =>
 xIa 1 v37 (gx xs6 0) fun v39 =>
 xLd w7 v39 fun v40 =>
 callQ Tryz.prog (.func (.func 106) #[] #[]) [v1, v40] w7 fun v41 =>
 xIa 1 v23 v34 fun v42 =>
 ∀ w8, Ext w7 w8 → xSt w8 v42 v41 fun w9 =>
 ∀ w10, Ext w9 w10 → xAdd .i64 (gx xs6 0) (.int .i64 1) fun v29 =>
 K6 [v29] w10) (xBuild #[(.int .i64 0), (.slice none 0 0)] #[(0, 1), (1, 1)] [(0, (gx xs3 0)), (1, v23)] fun v45 =>
 xStA Tryz.prog w7 2 v4 v45 fun w11 =>
 xLdA w11 2 v4 fun r12 =>
 R r12 w11)) [(.int .i64 0)] w5)) [(.int .i64 0), (.int .i64 0)] w2
theorem c_spec_l08Quotient {v0 v1 : Value} {w : World} {R : Value → World → Prop} (h : S_spec_l08Quotient v0 v1 w R) : Cal Tryz.prog f_spec_l08Quotient #[v0, v1] w R := cD (h := (.node none .leaf (.node none .leaf (.node none (.node none .leaf (.node (some [5, 6]) .leaf .leaf)) (.node none .leaf (.node none (.node none .leaf (.node (some [8]) (.node none .leaf (.node none (.reg [11] none) .leaf)) .leaf)) .leaf)))))) Tryz.func48 h
abbrev f_spec_l08Before : FuncId := 49
def S_spec_l08Before (v0 v1 : Value) (w : World) (R : Value → World → Prop) : Prop :=
  xNew (Value.cells v0) 26 w fun v2 w1 =>
 xNew (Value.cells v1) 26 w1 fun v3 w2 =>
 xFa 0 v2 fun v5 =>
 xLd w2 v5 fun v6 =>
 xFa 0 v3 fun v7 =>
 xLd w2 v7 fun v8 =>
 xNe .i64 v6 v8 fun v9 =>
 cnd v9 (xFa 0 v2 fun v10 =>
 xLd w2 v10 fun v11 =>
 xFa 0 v3 fun v12 =>
 xLd w2 v12 fun v13 =>
 xLt .i64 v11 v13 fun v14 =>
 R v14 w2) (xFa 1 v2 fun v15 =>
 xLd w2 v15 fun v16 =>
 xFa 1 v3 fun v17 =>
 xLd w2 v17 fun v18 =>
 callV Tryz.prog (.func (.func 105) #[] #[]) [v16, v18] w2 fun v19 w3 =>
 R v19 w3)
theorem c_spec_l08Before {v0 v1 : Value} {w : World} {R : Value → World → Prop} (h : S_spec_l08Before v0 v1 w R) : Cal Tryz.prog f_spec_l08Before #[v0, v1] w R := cD (h := .leaf) Tryz.func49 h
abbrev f_spec_l01Same : FuncId := 50
def S_spec_l01Same (v0 v1 : Value) (w : World) (R : Value → World → Prop) : Prop :=
  xLenS v0 fun v7 =>
 xLenS v1 fun v9 =>
 xNe .i64 v7 v9 fun v10 =>
 cnd v10 (R (.bool false) w) (lp (fun K1 xs1 w2 =>
 ∀ _ : Nat → Value, xLenS v0 fun v13 =>
 xLt .i64 (gx xs1 0) v13 fun v14 =>
 cnd v14 (xIa 1 v0 (gx xs1 0) fun v19 =>
 xLd w2 v19 fun v20 =>
 xIa 1 v1 (gx xs1 0) fun v23 =>
 xLd w2 v23 fun v24 =>
 xNe .i64 v20 v24 fun v25 =>
 ∀ w3, Ext w2 w3 → cnd v25 (R (.bool false) w3) (xAdd .i64 (gx xs1 0) (.int .i64 1) fun v16 =>
 K1 [v16] w3)) (R (.bool true) w2)) [(.int .i64 0)] w)
theorem c_spec_l01Same {v0 v1 : Value} {w : World} {R : Value → World → Prop} (h : S_spec_l01Same v0 v1 w R) : Cal Tryz.prog f_spec_l01Same #[v0, v1] w R := cD (h := (.node none .leaf (.node none .leaf (.node none (.node none .leaf (.node (some [5]) .leaf .leaf)) .leaf)))) Tryz.func50 h
abbrev f_impl_firstMorphism : FuncId := 51
def S_impl_firstMorphism (v0 v1 v2 v3 : Value) (w : World) (R : Value → World → Prop) : Prop :=
  xNew (Value.cells v0) 26 w fun v4 w1 =>
 xNew (Value.cells v1) 26 w1 fun v5 w2 =>
 xNew (Value.cells (.slice none 0 0)) 24 w2 fun v10 w3 =>
 xNew (Value.cells (.bool false)) 4 w3 fun v11 w4 =>
 xSt w4 v11 (.bool false) fun w5 =>
 xLdA w5 2 v4 fun v13 =>
 xLdA w5 2 v5 fun v14 =>
 xBuild #[(.int .i64 0), (.slice none 0 0), (.int .i64 0), (.slice none 0 0), (.slice none 0 0), .nilFunc, (.bool false), (.bool false)] #[(0, 2), (2, 2), (4, 1), (5, 1), (6, 1), (7, 1)] [(0, v13), (1, v14), (4, v2), (5, v3), (3, (.func (.func 107) #[] #[v10, v11]))] fun v18 =>
 xNew (Value.cells v18) 125 w5 fun v19 w6 =>
 callV Tryz.prog (.func (.func 108) #[] #[]) [v19] w6 fun _ w7 =>
 xLd w7 v10 fun v22 =>
 xLd w7 v11 fun v23 =>
 ∀ w8, Ext w7 w8 → R (.tuple #[v22, v23]) w8
theorem c_impl_firstMorphism {v0 v1 v2 v3 : Value} {w : World} {R : Value → World → Prop} (h : S_impl_firstMorphism v0 v1 v2 v3 w R) : Cal Tryz.prog f_impl_firstMorphism #[v0, v1, v2, v3] w R := cD (h := .leaf) Tryz.func51 h
abbrev f_spec_l08Find : FuncId := 52
def S_spec_l08Find (v0 v1 v2 v3 v4 : Value) (w : World) (R : Value → World → Prop) : Prop :=
  xNew (Value.cells v0) 26 w fun v5 w1 =>
 xNew (Value.cells v1) 26 w1 fun v6 w2 =>
 jn (fun J3 =>
 cnd v3 (xFa 0 v5 fun v14 =>
 xLd w2 v14 fun v15 =>
 xFa 0 v6 fun v16 =>
 xLd w2 v16 fun v17 =>
 xNe .i64 v15 v17 fun v18 =>
 cnd v18 (J3 [(.bool true)] w2) (cnd v2 (xFa 0 v5 fun v23 =>
 xLd w2 v23 fun v24 =>
 xFa 0 v6 fun v25 =>
 xLd w2 v25 fun v26 =>
 xLt .i64 v24 v26 fun v27 =>
 J3 [v27] w2) (J3 [(.bool false)] w2))) (cnd v2 (xFa 0 v5 fun v23 =>
 xLd w2 v23 fun v24 =>
 xFa 0 v6 fun v25 =>
 xLd w2 v25 fun v26 =>
 xLt .i64 v24 v26 fun v27 =>
 J3 [v27] w2) (J3 [(.bool false)] w2))) (fun xs3 w4 =>
 ∀ _ : Nat → Value, cnd (gx xs3 0) (xBs 24 (Value.cells (.slice none 0 0)) 1 0 [] w4 fun v30 w5 =>
 R v30 w5) (xLdA w4 2 v5 fun v31 =>
 xLdA w4 2 v6 fun v32 =>
 xBs 24 (Value.cells (.slice none 0 0)) 1 0 [] w4 fun v36 w6 =>
 xBuild #[(.int .i64 0), (.slice none 0 0), (.int .i64 0), (.slice none 0 0), (.bool false), (.bool false), (.int .i64 0), (.slice none 0 0)] #[(0, 2), (2, 2), (4, 1), (5, 1), (6, 1), (7, 1)] [(0, v31), (1, v32), (2, v2), (3, v3), (4, v4), (5, v36)] fun v37 =>
 xNew (Value.cells v37) 129 w6 fun v38 w7 =>
 xBs 2 (Value.cells (.int .i64 0)) 1 0 [] w7 fun v40 w8 =>
 callV Tryz.prog (.func (.func 109) #[] #[]) [v38, v40] w8 fun _ w9 =>
 xNil v38 fun v43 =>
 xFa 7 v43 fun v44 =>
 xLd w9 v44 fun v45 =>
 R v45 w9))
theorem c_spec_l08Find {v0 v1 v2 v3 v4 : Value} {w : World} {R : Value → World → Prop} (h : S_spec_l08Find v0 v1 v2 v3 v4 w R) : Cal Tryz.prog f_spec_l08Find #[v0, v1, v2, v3, v4] w R := cD (h := (.node none .leaf (.node none (.node none (.reg [] (some [29])) .leaf) .leaf))) Tryz.func52 h
abbrev f_spec_l02Any : FuncId := 53
def S_spec_l02Any (v0 v1 v2 v3 : Value) (w : World) (R : Value → World → Prop) : Prop :=
  callV Tryz.prog (.func (.func 110) #[] #[]) [v0, v1, v2, v3] w fun v14 w1 =>
 callV Tryz.prog (.func (.func 79) #[] #[]) [v0, (.int .i64 40)] w1 fun v16 w2 =>
 xEq .i64 v16 (.int .i64 0) fun v18 =>
 cnd v18 (callV Tryz.prog (.func (.func 111) #[] #[]) [v0, v14] w2 fun v21 w3 =>
 R v21 w3) (xEq .i64 v16 (.int .i64 1) fun v23 =>
 cnd v23 (lp (fun K4 xs4 w5 =>
 ∀ _ : Nat → Value, jn (fun J6 =>
 xLenS (gx xs4 0) fun v25 =>
 xLe .i64 v25 (.int .i64 40) fun v26 =>
 cnd v26 (callV Tryz.prog (.func (.func 79) #[] #[]) [v0, (.int .i64 60)] w5 fun v29 w8 =>
 xLt .i64 (.int .i64 0) v29 fun v30 =>
 J6 [v30] w8) (J6 [(.bool false)] w5)) (fun xs6 w7 =>
 ∀ _ : Nat → Value, cnd (gx xs6 0) (callV Tryz.prog (.func (.func 79) #[] #[]) [v0, (.int .i64 3)] w7 fun v33 w9 =>
 xAdd .i64 (.int .i64 2) v33 fun v34 =>
 callV Tryz.prog (.func (.func 110) #[] #[]) [v0, (.int .i64 6), v2, v3] w9 fun v39 w10 =>
 callV Tryz.prog (.func (.func 112) #[] #[]) [v34, (gx xs4 0), v39] w10 fun v40 w11 =>
 K4 [v40] w11) (R (gx xs4 0) w7))) [v14] w2) (R v14 w2))
theorem c_spec_l02Any {v0 v1 v2 v3 : Value} {w : World} {R : Value → World → Prop} (h : S_spec_l02Any v0 v1 v2 v3 w R) : Cal Tryz.prog f_spec_l02Any #[v0, v1, v2, v3] w R := cD (h := (.node none .leaf (.node none .leaf (.node none (.node none .leaf (.node none .leaf (.node none .leaf (.node none .leaf (.node none (.node (some [9]) (.node none (.node none (.reg [] (some [31])) .leaf) .leaf) .leaf) .leaf))))) .leaf)))) Tryz.func53 h
abbrev f_spec_l06Code : FuncId := 54
def S_spec_l06Code (v0 v1 : Value) (w : World) (R : Value → World → Prop) : Prop :=
  xNew (Value.cells v0) 26 w fun v2 w1 =>
 xLdA w1 2 v2 fun v6 =>
 callV Tryz.prog (.func (.func 44) #[] #[]) [v6] w1 fun v7 w2 =>
 xNot v7 fun v8 =>
 cnd v8 (R (.int .i64 1) w2) (lp (fun K3 xs3 w4 =>
 ∀ _ : Nat → Value, xLenS v1 fun v11 =>
 xLt .i64 (gx xs3 0) v11 fun v12 =>
 cnd v12 (xIa 1 v1 (gx xs3 0) fun v17 =>
 xLd w4 v17 fun v18 =>
 callV Tryz.prog (.func (.func 113) #[] #[]) [v18] w4 fun v19 w5 =>
 xNot v19 fun v20 =>
 cnd v20 (R (.int .i64 1) w5) (xAdd .i64 (gx xs3 0) (.int .i64 1) fun v14 =>
 K3 [v14] w5)) (xLdA w4 2 v2 fun v21 =>
 callV Tryz.prog (.func (.func 114) #[] #[]) [v21, v1] w4 fun v23 w6 =>
 xNot v23 fun v24 =>
 cnd v24 (R (.int .i64 3) w6) (R (.int .i64 0) w6))) [(.int .i64 0)] w2)
theorem c_spec_l06Code {v0 v1 : Value} {w : World} {R : Value → World → Prop} (h : S_spec_l06Code v0 v1 w R) : Cal Tryz.prog f_spec_l06Code #[v0, v1] w R := cD (h := (.node none .leaf (.node none .leaf (.node none (.node none .leaf (.node (some [5]) .leaf .leaf)) .leaf)))) Tryz.func54 h
abbrev f_spec_l06Valid : FuncId := 55
def S_spec_l06Valid (v0 v1 : Value) (w : World) (R : Value → World → Prop) : Prop :=
  xNew (Value.cells v0) 26 w fun v2 w1 =>
 xLdA w1 2 v2 fun v9 =>
 callV Tryz.prog (.func (.func 115) #[] #[]) [v9, v1] w1 fun v11 w2 =>
 xEx v11 0 fun _ =>
 xEx v11 1 fun _ =>
 xEx v11 2 fun v14 =>
 xNot v14 fun v16 =>
 R v16 w2
theorem c_spec_l06Valid {v0 v1 : Value} {w : World} {R : Value → World → Prop} (h : S_spec_l06Valid v0 v1 w R) : Cal Tryz.prog f_spec_l06Valid #[v0, v1] w R := cD (h := .leaf) Tryz.func55 h
abbrev f_impl_searchCode : FuncId := 56
def S_impl_searchCode (v0 v1 : Value) (w : World) (R : Value → World → Prop) : Prop :=
  xNew (Value.cells v0) 26 w fun v2 w1 =>
 jn (fun J2 =>
 xLdA w1 2 v2 fun v6 =>
 callV Tryz.prog (.func (.func 35) #[] #[]) [v6] w1 fun v7 w4 =>
 xNot v7 fun v8 =>
 cnd v8 (J2 [(.bool true)] w4) (callV Tryz.prog (.func (.func 116) #[] #[]) [v1] w4 fun v11 w5 =>
 xNot v11 fun v12 =>
 J2 [v12] w5)) (fun xs2 w3 =>
 ∀ _ : Nat → Value, cnd (gx xs2 0) (R (.int .i64 1) w3) (xFa 0 v2 fun v15 =>
 xLd w3 v15 fun v16 =>
 ∀ w6, Ext w3 w6 → callV Tryz.prog (.func (.func 117) #[] #[]) [v1] w6 fun v18 w7 =>
 Ext w6 w7 ∧ callQ Tryz.prog (.func (.func 83) #[] #[]) [v18] w7 fun v19 =>
 xMul .i64 v16 v19 fun v20 =>
 xLt .i64 (.int .i64 16) v20 fun v21 =>
 ∀ w8, Ext w7 w8 → cnd v21 (R (.int .i64 3) w8) (R (.int .i64 0) w8)))
theorem c_impl_searchCode {v0 v1 : Value} {w : World} {R : Value → World → Prop} (h : S_impl_searchCode v0 v1 w R) : Cal Tryz.prog f_impl_searchCode #[v0, v1] w R := cD (h := (.node none .leaf (.node none (.node none (.reg [] (some [5])) (.node none .leaf (.node none (.reg [4] none) .leaf))) .leaf))) Tryz.func56 h
abbrev f_impl_logicsOfFrame : FuncId := 58
def S_impl_logicsOfFrame (v0 : Value) (w : World) (R : Value → World → Prop) : Prop :=
  xNew (Value.cells v0) 26 w fun v1 w1 =>
 callV Tryz.prog (.func (.func 122) #[] #[]) [] w1 fun v3 w2 =>
 callV Tryz.prog (.func (.func 121) #[] #[]) [v3, (.func (.func 123) #[] #[v1])] w2 fun v5 w3 =>
 R v5 w3
theorem c_impl_logicsOfFrame {v0 : Value} {w : World} {R : Value → World → Prop} (h : S_impl_logicsOfFrame v0 w R) : Cal Tryz.prog f_impl_logicsOfFrame #[v0] w R := cD (h := .leaf) Tryz.func58 h
abbrev f_spec_l09LogicsOf : FuncId := 59
def S_spec_l09LogicsOf (v0 : Value) (w : World) (R : Value → World → Prop) : Prop :=
  xNew (Value.cells v0) 26 w fun v1 w1 =>
 xBs 9 (Value.cells (.string ⟨#[]⟩)) 1 0 [] w1 fun v6 w2 =>
 callV Tryz.prog (.func (.func 124) #[] #[]) [] w2 fun v7 w3 =>
 lp (fun K4 xs4 w5 =>
 ∀ _ : Nat → Value, xLenS v7 fun v10 =>
 xLt .i64 (gx xs4 1) v10 fun v11 =>
 cnd v11 (xLdA w5 2 v1 fun v14 =>
 xIa 1 v7 (gx xs4 1) fun v17 =>
 xLd w5 v17 fun v18 =>
 callQ Tryz.prog (.func (.func 125) #[] #[]) [v14, v18] w5 fun v19 =>
 ∀ w6, Ext w5 w6 → cnd v19 (xIa 1 v7 (gx xs4 1) fun v23 =>
 xLd w6 v23 fun v24 =>
 xBs 9 (Value.cells (.string ⟨#[]⟩)) 1 1 [(0, v24)] w6 fun v25 w7 =>
 xOp Tryz.prog (Builtin.append_ #[43, 43] 43 #[(gx xs4 0), v25]) w7 fun v26 w8 =>
 xAdd .i64 (gx xs4 1) (.int .i64 1) fun v13 =>
 K4 [v26, v13] w8) (xAdd .i64 (gx xs4 1) (.int .i64 1) fun v13 =>
 K4 [(gx xs4 0), v13] w6)) (R (gx xs4 0) w5)) [v6, (.int .i64 0)] w3
theorem c_spec_l09LogicsOf {v0 : Value} {w : World} {R : Value → World → Prop} (h : S_spec_l09LogicsOf v0 w R) : Cal Tryz.prog f_spec_l09LogicsOf #[v0] w R := cD (h := (.node none .leaf (.node none .leaf (.node none (.node none .leaf (.node (some [3, 5]) (.node none .leaf (.node none (.node none (.reg [5] none) .leaf) .leaf)) .leaf)) .leaf)))) Tryz.func59 h
abbrev f_impl_isLogic : FuncId := 60
def S_impl_isLogic (v0 : Value) (w : World) (R : Value → World → Prop) : Prop :=
  callV Tryz.prog (.func (.func 122) #[] #[]) [] w fun v3 w1 =>
 callV Tryz.prog (.func (.func 126) #[] #[]) [v3, v0] w1 fun v5 w2 =>
 R v5 w2
theorem c_impl_isLogic {v0 : Value} {w : World} {R : Value → World → Prop} (h : S_impl_isLogic v0 w R) : Cal Tryz.prog f_impl_isLogic #[v0] w R := cD (h := .leaf) Tryz.func60 h
abbrev f_impl_isFrameOf : FuncId := 61
def S_impl_isFrameOf (v0 v1 : Value) (w : World) (R : Value → World → Prop) : Prop :=
  xNew (Value.cells v0) 26 w fun v2 w1 =>
 callV Tryz.prog (.func (.func 127) #[] #[]) [v1] w1 fun v9 w2 =>
 xEx v9 0 fun v10 =>
 xEx v9 1 fun _ =>
 callV Tryz.prog (.func (.func 128) #[] #[]) [v10, (.func (.func 129) #[] #[v2])] w2 fun v14 w3 =>
 xNot v14 fun v15 =>
 R v15 w3
theorem c_impl_isFrameOf {v0 v1 : Value} {w : World} {R : Value → World → Prop} (h : S_impl_isFrameOf v0 v1 w R) : Cal Tryz.prog f_impl_isFrameOf #[v0, v1] w R := cD (h := .leaf) Tryz.func61 h
abbrev f_spec_l05Flag : FuncId := 68
def S_spec_l05Flag (v0 v1 : Value) (w : World) (R : Value → World → Prop) : Prop :=
  xNew (Value.cells v0) 26 w fun v2 w1 =>
 xFa 0 v2 fun v10 =>
 xLd w1 v10 fun v11 =>
 xFa 1 v2 fun v12 =>
 xLd w1 v12 fun v13 =>
 ∀ w2, Ext w1 w2 → lp (fun K3 xs3 w4 =>
 ∀ _ : Nat → Value, xLt .i64 (gx xs3 0) v11 fun v16 =>
 cnd v16 (xEq .i64 v1 (.int .i64 0) fun v21 =>
 jn (fun J5 =>
 cnd v21 (xIa 1 v13 (gx xs3 0) fun v24 =>
 xLd w4 v24 fun v25 =>
 callV Tryz.prog (.func (.func 145) #[] #[]) [v25, (gx xs3 0)] w4 fun v27 w7 =>
 xNot v27 fun v28 =>
 cnd v28 (R (.bool false) w7) (J5 [] w7)) (xEq .i64 v1 (.int .i64 1) fun v30 =>
 jn (fun J8 =>
 cnd v30 (xIa 1 v13 (gx xs3 0) fun v33 =>
 xLd w4 v33 fun v34 =>
 xEq .i64 v34 (.int .i64 0) fun v35 =>
 cnd v35 (R (.bool false) w4) (J8 [] w4)) (xEq .i64 v1 (.int .i64 2) fun v37 =>
 jn (fun J10 =>
 cnd v37 (xIa 1 v13 (gx xs3 0) fun v41 =>
 xLd w4 v41 fun v42 =>
 callQ Tryz.prog (.func (.func 146) #[] #[]) [v13, v42] w4 fun v43 =>
 xIa 1 v13 (gx xs3 0) fun v46 =>
 xLd w4 v46 fun v47 =>
 xBits iAndNot .i64 v43 v47 fun v48 =>
 xNe .i64 v48 (.int .i64 0) fun v49 =>
 ∀ w12, Ext w4 w12 → cnd v49 (R (.bool false) w12) (J10 [] w12)) (xEq .i64 v1 (.int .i64 7) fun v51 =>
 jn (fun J13 =>
 cnd v51 (callV Tryz.prog (.func (.func 133) #[] #[]) [v13] w4 fun v53 w15 =>
 xIa 1 v53 (gx xs3 0) fun v55 =>
 xLd w15 v55 fun v56 =>
 callV Tryz.prog (.func (.func 145) #[] #[]) [v56, (gx xs3 0)] w15 fun v58 w16 =>
 cnd v58 (R (.bool false) w16) (J13 [] w16)) (xEq .i64 v1 (.int .i64 10) fun v60 =>
 jn (fun J17 =>
 cnd v60 (xIa 1 v13 (gx xs3 0) fun v63 =>
 xLd w4 v63 fun v64 =>
 callV Tryz.prog (.func (.func 147) #[] #[]) [v64] w4 fun v65 w19 =>
 xLt .i64 (.int .i64 1) v65 fun v66 =>
 cnd v66 (R (.bool false) w19) (J17 [] w19)) (J17 [] w4)) (fun _ w18 =>
 ∀ _ : Nat → Value, J13 [] w18))) (fun _ w14 =>
 ∀ _ : Nat → Value, J10 [] w14))) (fun _ w11 =>
 ∀ _ : Nat → Value, J8 [] w11))) (fun _ w9 =>
 ∀ _ : Nat → Value, J5 [] w9))) (fun _ w6 =>
 ∀ _ : Nat → Value, lp (fun K20 xs20 w21 =>
 ∀ _ : Nat → Value, xLt .i64 (gx xs20 0) v11 fun v69 =>
 cnd v69 (xIa 1 v13 (gx xs3 0) fun v74 =>
 xLd w21 v74 fun v75 =>
 callV Tryz.prog (.func (.func 145) #[] #[]) [v75, (gx xs20 0)] w21 fun v77 w22 =>
 xNot v77 fun v78 =>
 cnd v78 (xAdd .i64 (gx xs20 0) (.int .i64 1) fun v71 =>
 K20 [v71] w22) (xEq .i64 v1 (.int .i64 3) fun v81 =>
 jn (fun J23 =>
 cnd v81 (xIa 1 v13 (gx xs20 0) fun v84 =>
 xLd w22 v84 fun v85 =>
 callV Tryz.prog (.func (.func 145) #[] #[]) [v85, (gx xs3 0)] w22 fun v87 w25 =>
 xNot v87 fun v88 =>
 cnd v88 (R (.bool false) w25) (J23 [] w25)) (xEq .i64 v1 (.int .i64 4) fun v90 =>
 jn (fun J26 =>
 cnd v90 (xIa 1 v13 (gx xs3 0) fun v93 =>
 xLd w22 v93 fun v94 =>
 xIa 1 v13 (gx xs20 0) fun v97 =>
 xLd w22 v97 fun v98 =>
 xBits iAndNot .i64 v94 v98 fun v99 =>
 xNe .i64 v99 (.int .i64 0) fun v100 =>
 ∀ w28, Ext w22 w28 → cnd v100 (R (.bool false) w28) (J26 [] w28)) (xEq .i64 v1 (.int .i64 8) fun v102 =>
 jn (fun J29 =>
 cnd v102 (jn (fun J31 =>
 xNe .i64 (gx xs3 0) (gx xs20 0) fun v105 =>
 cnd v105 (xIa 1 v13 (gx xs20 0) fun v109 =>
 xLd w22 v109 fun v110 =>
 callV Tryz.prog (.func (.func 145) #[] #[]) [v110, (gx xs3 0)] w22 fun v112 w33 =>
 J31 [v112] w33) (J31 [(.bool false)] w22)) (fun xs31 w32 =>
 ∀ _ : Nat → Value, cnd (gx xs31 0) (R (.bool false) w32) (J29 [] w32))) (xEq .i64 v1 (.int .i64 9) fun v115 =>
 jn (fun J34 =>
 cnd v115 (xIa 1 v13 (gx xs3 0) fun v118 =>
 xLd w22 v118 fun v119 =>
 ∀ w36, Ext w22 w36 → callV Tryz.prog (.func (.func 134) #[] #[]) [v13] w36 fun v121 w37 =>
 Ext w36 w37 ∧ xIa 1 v121 (gx xs20 0) fun v123 =>
 xLd w37 v123 fun v124 =>
 xBits iAnd .i64 v119 v124 fun v125 =>
 xEq .i64 v125 (.int .i64 0) fun v126 =>
 ∀ w38, Ext w37 w38 → cnd v126 (R (.bool false) w38) (J34 [] w38)) (J34 [] w22)) (fun _ w35 =>
 ∀ _ : Nat → Value, J29 [] w35))) (fun _ w30 =>
 ∀ _ : Nat → Value, J26 [] w30))) (fun _ w27 =>
 ∀ _ : Nat → Value, J23 [] w27))) (fun _ w24 =>
 ∀ _ : Nat → Value, lp (fun K39 xs39 w40 =>
 ∀ _ : Nat → Value, xLt .i64 (gx xs39 0) v11 fun v129 =>
 cnd v129 (xIa 1 v13 (gx xs3 0) fun v134 =>
 xLd w40 v134 fun v135 =>
 callV Tryz.prog (.func (.func 145) #[] #[]) [v135, (gx xs39 0)] w40 fun v137 w41 =>
 xNot v137 fun v138 =>
 cnd v138 (xAdd .i64 (gx xs39 0) (.int .i64 1) fun v131 =>
 K39 [v131] w41) (jn (fun J42 =>
 xEq .i64 v1 (.int .i64 5) fun v140 =>
 cnd v140 (xIa 1 v13 (gx xs20 0) fun v144 =>
 xLd w41 v144 fun v145 =>
 xIa 1 v13 (gx xs39 0) fun v148 =>
 xLd w41 v148 fun v149 =>
 xBits iAnd .i64 v145 v149 fun v150 =>
 xEq .i64 v150 (.int .i64 0) fun v151 =>
 cnd v151 (∀ w44, Ext w41 w44 → J42 [(.bool true)] w44) (xEq .i64 v1 (.int .i64 6) fun v155 =>
 cnd v155 (xIa 1 v13 (gx xs20 0) fun v159 =>
 xLd w41 v159 fun v160 =>
 callQ Tryz.prog (.func (.func 145) #[] #[]) [v160, (gx xs39 0)] w41 fun v162 =>
 xNot v162 fun v163 =>
 cnd v163 (xIa 1 v13 (gx xs39 0) fun v168 =>
 xLd w41 v168 fun v169 =>
 callQ Tryz.prog (.func (.func 145) #[] #[]) [v169, (gx xs20 0)] w41 fun v171 =>
 xNot v171 fun v172 =>
 ∀ w45, Ext w41 w45 → J42 [v172] w45) (∀ w46, Ext w41 w46 → J42 [(.bool false)] w46)) (∀ w47, Ext w41 w47 → J42 [(.bool false)] w47))) (xEq .i64 v1 (.int .i64 6) fun v155 =>
 cnd v155 (xIa 1 v13 (gx xs20 0) fun v159 =>
 xLd w41 v159 fun v160 =>
 callQ Tryz.prog (.func (.func 145) #[] #[]) [v160, (gx xs39 0)] w41 fun v162 =>
 xNot v162 fun v163 =>
 cnd v163 (xIa 1 v13 (gx xs39 0) fun v168 =>
 xLd w41 v168 fun v169 =>
 callQ Tryz.prog (.func (.func 145) #[] #[]) [v169, (gx xs20 0)] w41 fun v171 =>
 xNot v171 fun v172 =>
 ∀ w48, Ext w41 w48 → J42 [v172] w48) (∀ w49, Ext w41 w49 → J42 [(.bool false)] w49)) (∀ w50, Ext w41 w50 → J42 [(.bool false)] w50))) (fun xs42 w43 =>
 ∀ _ : Nat → Value, cnd (gx xs42 0) (R (.bool false) w43) (xAdd .i64 (gx xs39 0) (.int .i64 1) fun v131 =>
 K39 [v131] w43)))) (xAdd .i64 (gx xs20 0) (.int .i64 1) fun v71 =>
 K20 [v71] w40)) [(.int .i64 0)] w24))) (xAdd .i64 (gx xs3 0) (.int .i64 1) fun v18 =>
 K3 [v18] w21)) [(.int .i64 0)] w6)) (R (.bool true) w4)) [(.int .i64 0)] w2
theorem c_spec_l05Flag {v0 v1 : Value} {w : World} {R : Value → World → Prop} (h : S_spec_l05Flag v0 v1 w R) : Cal Tryz.prog f_spec_l05Flag #[v0, v1] w R := cD (h := (.node none .leaf (.node none .leaf (.node none (.node none .leaf (.node (some [7]) (.node none .leaf (.node none (.node none (.node none .leaf (.node none .leaf (.node (some []) .leaf (.node none .leaf (.node (some []) .leaf (.node none .leaf (.node (some []) (.node none (.reg [5] none) .leaf) (.node none .leaf (.node (some []) .leaf (.node none .leaf (.node (some []) .leaf .leaf))))))))))) (.node none .leaf (.node (some [8]) (.node none .leaf (.node none (.node none .leaf (.node none (.node none .leaf (.node none .leaf (.node (some []) .leaf (.node none .leaf (.node (some []) .leaf (.node none .leaf (.node (some []) (.node none (.reg [] (some [113])) .leaf) (.node none .leaf (.node (some []) .leaf .leaf))))))))) (.node none .leaf (.node (some [9]) (.node none .leaf (.node none (.node none .leaf (.node none (.reg [23, 32] (some [174])) .leaf)) .leaf)) .leaf)))) .leaf)) .leaf))) .leaf)) .leaf)) .leaf)))) Tryz.func68 h
abbrev f_spec_l05Some : FuncId := 78
def S_spec_l05Some (v0 v1 : Value) (w : World) (R : Value → World → Prop) : Prop :=
  xNew (Value.cells (.agg #[(.int .i64 0), (.slice none 0 0)])) 26 w fun v4 w1 =>
 xAdd .i64 v1 (.int .i64 1) fun v15 =>
 callV Tryz.prog (.func (.func 79) #[] #[]) [v0, v15] w1 fun v16 w2 =>
 xBs 2 (Value.cells (.int .i64 0)) 1 0 [] w2 fun v17 w3 =>
 callV Tryz.prog (.func (.func 79) #[] #[]) [v0, (.int .i64 3)] w3 fun v19 w4 =>
 lp (fun K5 xs5 w6 =>
 ∀ _ : Nat → Value, xLt .i64 (gx xs5 1) v16 fun v22 =>
 cnd v22 (callV Tryz.prog (.func (.func 81) #[] #[]) [v16] w6 fun v27 w7 =>
 xAdd .i64 v27 (.int .i64 1) fun v28 =>
 callV Tryz.prog (.func (.func 79) #[] #[]) [v0, v28] w7 fun v29 w8 =>
 lp (fun K9 xs9 w10 =>
 ∀ _ : Nat → Value, xLt .i64 (gx xs9 1) v19 fun v32 =>
 cnd v32 (callV Tryz.prog (.func (.func 81) #[] #[]) [v16] w10 fun v38 w11 =>
 xAdd .i64 v38 (.int .i64 1) fun v39 =>
 callV Tryz.prog (.func (.func 79) #[] #[]) [v0, v39] w11 fun v40 w12 =>
 xBits iAnd .i64 (gx xs9 0) v40 fun v41 =>
 xAdd .i64 (gx xs9 1) (.int .i64 1) fun v34 =>
 K9 [v41, v34] w12) (xBs 2 (Value.cells (.int .i64 0)) 1 1 [(0, (gx xs9 0))] w10 fun v44 w13 =>
 xOp Tryz.prog (Builtin.append_ #[24, 24] 24 #[(gx xs5 0), v44]) w13 fun v45 w14 =>
 xAdd .i64 (gx xs5 1) (.int .i64 1) fun v24 =>
 K5 [v45, v24] w14)) [v29, (.int .i64 0)] w8) (callV Tryz.prog (.func (.func 79) #[] #[]) [v0, (.int .i64 8)] w6 fun v47 w15 =>
 xEq .i64 v47 (.int .i64 0) fun v49 =>
 cnd v49 (callV Tryz.prog (.func (.func 166) #[] #[]) [(gx xs5 0)] w15 fun v51 w16 =>
 callV Tryz.prog (.func (.func 46) #[] #[]) [v51] w16 fun v100 w17 =>
 xStA Tryz.prog w17 2 v4 v100 fun w18 =>
 xLdA w18 2 v4 fun r19 =>
 R r19 w18) (xEq .i64 v47 (.int .i64 1) fun v53 =>
 cnd v53 (callV Tryz.prog (.func (.func 133) #[] #[]) [(gx xs5 0)] w15 fun v55 w20 =>
 callV Tryz.prog (.func (.func 46) #[] #[]) [v55] w20 fun v100 w21 =>
 xStA Tryz.prog w21 2 v4 v100 fun w22 =>
 xLdA w22 2 v4 fun r23 =>
 R r23 w22) (xEq .i64 v47 (.int .i64 2) fun v57 =>
 cnd v57 (callV Tryz.prog (.func (.func 133) #[] #[]) [(gx xs5 0)] w15 fun v59 w24 =>
 callV Tryz.prog (.func (.func 166) #[] #[]) [v59] w24 fun v60 w25 =>
 callV Tryz.prog (.func (.func 46) #[] #[]) [v60] w25 fun v100 w26 =>
 xStA Tryz.prog w26 2 v4 v100 fun w27 =>
 xLdA w27 2 v4 fun r28 =>
 R r28 w27) (xEq .i64 v47 (.int .i64 3) fun v62 =>
 cnd v62 (lp (fun K29 xs29 w30 =>
 ∀ _ : Nat → Value, xLt .i64 (gx xs29 0) v16 fun v65 =>
 cnd v65 (xIa 1 (gx xs5 0) (gx xs29 0) fun v72 =>
 xLd w30 v72 fun v73 =>
 xAdd .i64 (gx xs29 0) (.int .i64 1) fun v75 =>
 callQ Tryz.prog (.func (.func 81) #[] #[]) [v75] w30 fun v76 =>
 xBits iAndNot .i64 v73 v76 fun v77 =>
 xIa 1 (gx xs5 0) (gx xs29 0) fun v78 =>
 ∀ w31, Ext w30 w31 → xSt w31 v78 v77 fun w32 =>
 ∀ w33, Ext w32 w33 → xAdd .i64 (gx xs29 0) (.int .i64 1) fun v67 =>
 K29 [v67] w33) (callV Tryz.prog (.func (.func 46) #[] #[]) [(gx xs5 0)] w30 fun v100 w34 =>
 xStA Tryz.prog w34 2 v4 v100 fun w35 =>
 xLdA w35 2 v4 fun r36 =>
 R r36 w35)) [(.int .i64 0)] w15) (xEq .i64 v47 (.int .i64 4) fun v80 =>
 cnd v80 (lp (fun K37 xs37 w38 =>
 ∀ _ : Nat → Value, xLt .i64 (gx xs37 0) v16 fun v83 =>
 cnd v83 (xIa 1 (gx xs5 0) (gx xs37 0) fun v90 =>
 xLd w38 v90 fun v91 =>
 xAdd .i64 (gx xs37 0) (.int .i64 1) fun v93 =>
 callQ Tryz.prog (.func (.func 81) #[] #[]) [v93] w38 fun v94 =>
 xBits iAndNot .i64 v91 v94 fun v95 =>
 xIa 1 (gx xs5 0) (gx xs37 0) fun v96 =>
 ∀ w39, Ext w38 w39 → xSt w39 v96 v95 fun w40 =>
 ∀ w41, Ext w40 w41 → xAdd .i64 (gx xs37 0) (.int .i64 1) fun v85 =>
 K37 [v85] w41) (callV Tryz.prog (.func (.func 133) #[] #[]) [(gx xs5 0)] w38 fun v98 w42 =>
 callV Tryz.prog (.func (.func 46) #[] #[]) [v98] w42 fun v100 w43 =>
 xStA Tryz.prog w43 2 v4 v100 fun w44 =>
 xLdA w44 2 v4 fun r45 =>
 R r45 w44)) [(.int .i64 0)] w15) (callV Tryz.prog (.func (.func 46) #[] #[]) [(gx xs5 0)] w15 fun v100 w46 =>
 xStA Tryz.prog w46 2 v4 v100 fun w47 =>
 xLdA w47 2 v4 fun r48 =>
 R r48 w47))))))) [v17, (.int .i64 0)] w4
theorem c_spec_l05Some {v0 v1 : Value} {w : World} {R : Value → World → Prop} (h : S_spec_l05Some v0 v1 w R) : Cal Tryz.prog f_spec_l05Some #[v0, v1] w R := cD (h := (.node none .leaf (.node none .leaf (.node none .leaf (.node none .leaf (.node none (.node none .leaf (.node (some [6, 8]) (.node none .leaf (.node none (.node none .leaf (.node none (.node none .leaf (.node (some [9, 10]) .leaf .leaf)) .leaf)) .leaf)) .leaf)) (.node none (.node none .leaf (.node none .leaf (.node none .leaf (.node none .leaf (.node none .leaf (.node none .leaf (.node none .leaf (.node none .leaf (.node none (.node none .leaf (.node (some [11]) (.node none .leaf (.node none (.reg [8] none) .leaf)) .leaf)) (.node none .leaf (.node none (.node none (.node none .leaf (.node (some [12]) (.node none .leaf (.node none (.reg [8] none) .leaf)) .leaf)) .leaf) .leaf))))))))))) .leaf))))))) Tryz.func78 h
abbrev f_spec_l01Next : FuncId := 79
def S_spec_l01Next (v0 v1 : Value) (w : World) (R : Value → World → Prop) : Prop :=
  xLt .i64 v1 (.int .i64 1) fun v7 =>
 cnd v7 (R (.int .i64 0) w) (xNil v0 fun v10 =>
 xFa 2 v10 fun v11 =>
 xLd w v11 fun v12 =>
 xMul .u64 v12 (.int .u64 6364136223846793005) fun v13 =>
 xAdd .u64 v13 (.int .u64 1442695040888963407) fun v14 =>
 xNil v0 fun v15 =>
 xFa 2 v15 fun v16 =>
 xSt w v16 v14 fun w1 =>
 xNil v0 fun v18 =>
 xFa 2 v18 fun v19 =>
 xLd w1 v19 fun v20 =>
 xSh iShr .u64 v20 (.int .u64 33) fun v21 =>
 xBits iAnd .u64 v21 (.int .u64 16777215) fun v22 =>
 xConv .i64 v22 fun v23 =>
 xNil v0 fun v25 =>
 xFa 1 v25 fun v26 =>
 xLd w1 v26 fun v27 =>
 xNil v0 fun v29 =>
 xFa 0 v29 fun v30 =>
 xLd w1 v30 fun v31 =>
 xLenS v31 fun v32 =>
 xLt .i64 v27 v32 fun v33 =>
 ∀ w2, Ext w1 w2 → jn (fun J3 =>
 cnd v33 (xNil v0 fun v36 =>
 xFa 0 v36 fun v37 =>
 xLd w2 v37 fun v38 =>
 xNil v0 fun v40 =>
 xFa 1 v40 fun v41 =>
 xLd w2 v41 fun v42 =>
 xIa 1 v38 v42 fun v43 =>
 xLd w2 v43 fun v44 =>
 xConv .i64 v44 fun v45 =>
 xAdd .i64 v23 v45 fun v46 =>
 ∀ w5, Ext w2 w5 → xNil v0 fun v49 =>
 xFa 1 v49 fun v50 =>
 xLd w5 v50 fun v51 =>
 xAdd .i64 v51 (.int .i64 1) fun v52 =>
 xNil v0 fun v53 =>
 xFa 1 v53 fun v54 =>
 xSt w5 v54 v52 fun w6 =>
 J3 [v46] w6) (J3 [v23] w2)) (fun xs3 w4 =>
 ∀ _ : Nat → Value, xRem .i64 (gx xs3 0) v1 fun v57 =>
 R v57 w4))
theorem c_spec_l01Next {v0 v1 : Value} {w : World} {R : Value → World → Prop} (h : S_spec_l01Next v0 v1 w R) : Cal Tryz.prog f_spec_l01Next #[v0, v1] w R := cD (h := (.node none .leaf (.node none .leaf (.node none .leaf (.node none .leaf (.node none (.node none .leaf (.node (some [5]) .leaf .leaf)) .leaf)))))) Tryz.func79 h
abbrev f_spec_l01Own : FuncId := 80
def S_spec_l01Own (v0 : Value) (w : World) (R : Value → World → Prop) : Prop :=
  xBs 2 (Value.cells (.int .i64 0)) 1 0 [] w fun v3 w1 =>
 xOp Tryz.prog (Builtin.append_ #[24, 24] 24 #[v3, v0]) w1 fun v5 w2 =>
 R v5 w2
theorem c_spec_l01Own {v0 : Value} {w : World} {R : Value → World → Prop} (h : S_spec_l01Own v0 w R) : Cal Tryz.prog f_spec_l01Own #[v0] w R := cD (h := .leaf) Tryz.func80 h
abbrev f_spec_l01Full : FuncId := 81
def S_spec_l01Full (v0 : Value) (w : World) (R : Value → World → Prop) : Prop :=
  callV Tryz.prog (.func (.func 149) #[] #[]) [v0] w fun v4 w1 =>
 xSub .i64 v4 (.int .i64 1) fun v5 =>
 R v5 w1
theorem c_spec_l01Full {v0 : Value} {w : World} {R : Value → World → Prop} (h : S_spec_l01Full v0 w R) : Cal Tryz.prog f_spec_l01Full #[v0] w R := cD (h := .leaf) Tryz.func81 h
abbrev f_impl_inRange : FuncId := 82
def S_impl_inRange (v0 v1 v2 : Value) (w : World) (R : Value → World → Prop) : Prop :=
  jn (fun J1 =>
 xLe .i64 v1 v0 fun v9 =>
 cnd v9 (xLe .i64 v0 v2 fun v13 =>
 J1 [v13] w) (J1 [(.bool false)] w)) (fun xs1 w2 =>
 ∀ _ : Nat → Value, R (gx xs1 0) w2)
theorem c_impl_inRange {v0 v1 v2 : Value} {w : World} {R : Value → World → Prop} (h : S_impl_inRange v0 v1 v2 w R) : Cal Tryz.prog f_impl_inRange #[v0, v1, v2] w R := cD (h := (.node none .leaf (.node none (.reg [] (some [6])) .leaf))) Tryz.func82 h
abbrev f_impl_size_i64 : FuncId := 83
def S_impl_size_i64 (v0 : Value) (w : World) (R : Value → World → Prop) : Prop :=
  xLenS v0 fun v4 =>
 R v4 w
theorem c_impl_size_i64 {v0 : Value} {w : World} {R : Value → World → Prop} (h : S_impl_size_i64 v0 w R) : Cal Tryz.prog f_impl_size_i64 #[v0] w R := cD (h := .leaf) Tryz.func83 h
abbrev f_impl_isRelation : FuncId := 84
def S_impl_isRelation (v0 : Value) (w : World) (R : Value → World → Prop) : Prop :=
  xNew (Value.cells v0) 24 w fun v1 w1 =>
 xLd w1 v1 fun v3 =>
 callV Tryz.prog (.func (.func 167) #[] #[]) [v3, (.func (.func 168) #[] #[v1])] w1 fun v5 w2 =>
 xNot v5 fun v6 =>
 R v6 w2
theorem c_impl_isRelation {v0 : Value} {w : World} {R : Value → World → Prop} (h : S_impl_isRelation v0 w R) : Cal Tryz.prog f_impl_isRelation #[v0] w R := cD (h := .leaf) Tryz.func84 h
abbrev f_impl_allClasses : FuncId := 85
def S_impl_allClasses (v0 v1 : Value) (w : World) (R : Value → World → Prop) : Prop :=
  xNew (Value.cells v0) 2 w fun v2 w1 =>
 xNew (Value.cells v1) 113 w1 fun v3 w2 =>
 xLd w2 v2 fun v6 =>
 xMk 2 (Value.cells (.int .i64 0)) 1 8 (.int .i64 0) v6 w2 fun v7 w3 =>
 xNew (Value.cells (.slice none 0 0)) 24 w3 fun v4 w4 =>
 xSt w4 v4 v7 fun w5 =>
 xNew (Value.cells .nilFunc) 176 w5 fun v5 w6 =>
 xSt w6 v5 (.func (.func 170) #[] #[v4, v2, v3, v5]) fun w7 =>
 xLd w7 v5 fun v9 =>
 callV Tryz.prog v9 [(.int .i64 0)] w7 fun _ w8 =>
 R (.tuple #[]) w8
theorem c_impl_allClasses {v0 v1 : Value} {w : World} {R : Value → World → Prop} (h : S_impl_allClasses v0 v1 w R) : Cal Tryz.prog f_impl_allClasses #[v0, v1] w R := cD (h := .leaf) Tryz.func85 h
abbrev f_impl_congruences_1 : FuncId := 86
def S_impl_congruences_1 (v0 v1 v2 : Value) (w : World) (R : Value → World → Prop) : Prop :=
  xLdA w 2 v1 fun v4 =>
 callV Tryz.prog (.func (.func 87) #[] #[]) [v4, v0] w fun v6 w1 =>
 cnd v6 (xLd w1 v2 fun v7 =>
 ∀ w2, Ext w1 w2 → callV Tryz.prog (.func (.func 88) #[] #[]) [v0] w2 fun v9 w3 =>
 Ext w2 w3 ∧ ∀ w4, Ext w3 w4 → xBs 24 (Value.cells (.slice none 0 0)) 1 1 [(0, v9)] w4 fun v10 w5 =>
 Ext w4 w5 ∧ ∀ w6, Ext w5 w6 → xOp Tryz.prog (Builtin.append_ #[62, 62] 62 #[v7, v10]) w6 fun v11 w7 =>
 ∀ w8, Ext w7 w8 → xSt w8 v2 v11 fun w9 =>
 ∀ w10, Ext w9 w10 → R (.tuple #[]) w10) (R (.tuple #[]) w1)
theorem c_impl_congruences_1 {v0 v1 v2 : Value} {w : World} {R : Value → World → Prop} (h : S_impl_congruences_1 v0 v1 v2 w R) : Cal Tryz.prog f_impl_congruences_1 #[v0, v1, v2] w R := cD (h := .leaf) Tryz.func86 h
abbrev f_impl_isCongruence : FuncId := 87
def S_impl_isCongruence (v0 v1 : Value) (w : World) (R : Value → World → Prop) : Prop :=
  xNew (Value.cells v0) 26 w fun v2 w1 =>
 jn (fun J2 =>
 callQ Tryz.prog (.func (.func 83) #[] #[]) [v1] w1 fun v6 =>
 xFa 0 v2 fun v7 =>
 xLd w1 v7 fun v8 =>
 xNe .i64 v6 v8 fun v9 =>
 cnd v9 (∀ w4, Ext w1 w4 → J2 [(.bool true)] w4) (callQ Tryz.prog (.func (.func 171) #[] #[]) [v1] w1 fun v12 =>
 xNot v12 fun v13 =>
 ∀ w5, Ext w1 w5 → J2 [v13] w5)) (fun xs2 w3 =>
 ∀ _ : Nat → Value, cnd (gx xs2 0) (R (.bool false) w3) (xLdA w3 2 v2 fun v15 =>
 xFa 1 v2 fun v16 =>
 xLd w3 v16 fun v17 =>
 ∀ w6, Ext w3 w6 → callV Tryz.prog (.func (.func 39) #[] #[]) [v17, v1] w6 fun v19 w7 =>
 Ext w6 w7 ∧ ∀ w8, Ext w7 w8 → callV Tryz.prog (.func (.func 37) #[] #[]) [v19] w8 fun v20 w9 =>
 Ext w8 w9 ∧ callQ Tryz.prog (.func (.func 172) #[] #[]) [v15, v20, v1] w9 fun v22 =>
 ∀ w10, Ext w9 w10 → R v22 w10))
theorem c_impl_isCongruence {v0 v1 : Value} {w : World} {R : Value → World → Prop} (h : S_impl_isCongruence v0 v1 w R) : Cal Tryz.prog f_impl_isCongruence #[v0, v1] w R := cD (h := (.node none .leaf (.node none (.node none (.reg [1, 7] (some [14])) .leaf) (.node none (.reg [7] none) .leaf)))) Tryz.func87 h
abbrev f_slices_Clone_Si64_i64 : FuncId := 88
def S_slices_Clone_Si64_i64 (v0 : Value) (w : World) (R : Value → World → Prop) : Prop :=
  xNilS true v0 (.slice none 0 0) fun v4 =>
 cnd v4 (R (.slice none 0 0) w) (xBs 2 (Value.cells (.int .i64 0)) 1 0 [] w fun v5 w1 =>
 xOp Tryz.prog (Builtin.append_ #[24, 24] 24 #[v5, v0]) w1 fun v7 w2 =>
 R v7 w2)
theorem c_slices_Clone_Si64_i64 {v0 : Value} {w : World} {R : Value → World → Prop} (h : S_slices_Clone_Si64_i64 v0 w R) : Cal Tryz.prog f_slices_Clone_Si64_i64 #[v0] w R := cD (h := .leaf) Tryz.func88 h
abbrev f_impl_permutations : FuncId := 89
def S_impl_permutations (v0 v1 : Value) (w : World) (R : Value → World → Prop) : Prop :=
  xNew (Value.cells v0) 2 w fun v2 w1 =>
 xNew (Value.cells v1) 113 w1 fun v3 w2 =>
 xLd w2 v2 fun v6 =>
 xMk 2 (Value.cells (.int .i64 0)) 1 8 (.int .i64 0) v6 w2 fun v7 w3 =>
 xNew (Value.cells (.slice none 0 0)) 24 w3 fun v4 w4 =>
 xSt w4 v4 v7 fun w5 =>
 xNew (Value.cells .nilFunc) 176 w5 fun v5 w6 =>
 xSt w6 v5 (.func (.func 173) #[] #[v4, v2, v3, v5]) fun w7 =>
 xLd w7 v5 fun v9 =>
 callV Tryz.prog v9 [(.int .i64 0)] w7 fun _ w8 =>
 R (.tuple #[]) w8
theorem c_impl_permutations {v0 v1 : Value} {w : World} {R : Value → World → Prop} (h : S_impl_permutations v0 v1 w R) : Cal Tryz.prog f_impl_permutations #[v0, v1] w R := cD (h := .leaf) Tryz.func89 h
abbrev f_impl_leastRelation_1 : FuncId := 90
def S_impl_leastRelation_1 (v0 v1 v2 : Value) (w : World) (R : Value → World → Prop) : Prop :=
  xLd w v1 fun v5 =>
 callV Tryz.prog (.func (.func 91) #[] #[]) [v5, v0] w fun v7 w1 =>
 xLd w1 v2 fun v9 =>
 callV Tryz.prog (.func (.func 92) #[] #[]) [v7, v9] w1 fun v10 w2 =>
 xLt .i64 v10 (.int .i64 0) fun v11 =>
 cnd v11 (xSt w2 v2 v7 fun w3 =>
 R (.tuple #[]) w3) (R (.tuple #[]) w2)
theorem c_impl_leastRelation_1 {v0 v1 v2 : Value} {w : World} {R : Value → World → Prop} (h : S_impl_leastRelation_1 v0 v1 v2 w R) : Cal Tryz.prog f_impl_leastRelation_1 #[v0, v1, v2] w R := cD (h := .leaf) Tryz.func90 h
abbrev f_impl_reordered : FuncId := 91
def S_impl_reordered (v0 v1 : Value) (w : World) (R : Value → World → Prop) : Prop :=
  xLenS v1 fun v14 =>
 xMk 2 (Value.cells (.int .i64 0)) 1 8 v14 v14 w fun v15 w1 =>
 xLenS v1 fun v17 =>
 lp (fun K2 xs2 w3 =>
 ∀ _ : Nat → Value, xLt .i64 (gx xs2 0) v17 fun v19 =>
 cnd v19 (xIa 1 v1 (gx xs2 0) fun v21 =>
 xLd w3 v21 fun v22 =>
 xIa 1 v15 v22 fun v26 =>
 xSt w3 v26 (gx xs2 0) fun w4 =>
 xAdd .i64 (gx xs2 0) (.int .i64 1) fun v27 =>
 K2 [v27] w4) (xLenS v1 fun v29 =>
 xMk 2 (Value.cells (.int .i64 0)) 1 8 v29 v29 w3 fun v30 w5 =>
 xLenS v1 fun v32 =>
 lp (fun K6 xs6 w7 =>
 ∀ _ : Nat → Value, xLt .i64 (gx xs6 0) v32 fun v34 =>
 cnd v34 (xIa 1 v1 (gx xs6 0) fun v36 =>
 xLd w7 v36 fun v37 =>
 xIa 1 v0 v37 fun v40 =>
 xLd w7 v40 fun v41 =>
 callV Tryz.prog (.func (.func 174) #[] #[]) [v41] w7 fun v42 w8 =>
 xLenS v42 fun v43 =>
 lp (fun K9 xs9 w10 =>
 ∀ _ : Nat → Value, xLt .i64 (gx xs9 0) v43 fun v45 =>
 cnd v45 (xIa 1 v42 (gx xs9 0) fun v46 =>
 xLd w10 v46 fun v47 =>
 xIa 1 v30 (gx xs6 0) fun v50 =>
 xLd w10 v50 fun v51 =>
 xIa 1 v15 v47 fun v54 =>
 xLd w10 v54 fun v55 =>
 xSh iShl .i64 (.int .i64 1) v55 fun v56 =>
 xBits iOr .i64 v51 v56 fun v57 =>
 xIa 1 v30 (gx xs6 0) fun v58 =>
 ∀ w11, Ext w10 w11 → xSt w11 v58 v57 fun w12 =>
 ∀ w13, Ext w12 w13 → xAdd .i64 (gx xs9 0) (.int .i64 1) fun v59 =>
 K9 [v59] w13) (xAdd .i64 (gx xs6 0) (.int .i64 1) fun v60 =>
 K6 [v60] w10)) [(.int .i64 0)] w8) (R v30 w7)) [(.int .i64 0)] w5)) [(.int .i64 0)] w1
theorem c_impl_reordered {v0 v1 : Value} {w : World} {R : Value → World → Prop} (h : S_impl_reordered v0 v1 w R) : Cal Tryz.prog f_impl_reordered #[v0, v1] w R := cD (h := (.node none .leaf (.node none .leaf (.node none (.node none .leaf (.node (some [18]) .leaf .leaf)) (.node none .leaf (.node none (.node none .leaf (.node (some [33]) (.node none .leaf (.node none .leaf (.node none (.node none .leaf (.node none .leaf (.node (some [44]) .leaf .leaf))) .leaf))) .leaf)) .leaf)))))) Tryz.func91 h
abbrev f_slices_Compare_Si64_i64 : FuncId := 92
def S_slices_Compare_Si64_i64 (v0 v1 : Value) (w : World) (R : Value → World → Prop) : Prop :=
  xLenS v0 fun v10 =>
 lp (fun K1 xs1 w2 =>
 ∀ _ : Nat → Value, xLt .i64 (gx xs1 0) v10 fun v12 =>
 cnd v12 (xIa 1 v0 (gx xs1 0) fun v14 =>
 xLd w2 v14 fun v15 =>
 xLenS v1 fun v18 =>
 xLe .i64 v18 (gx xs1 0) fun v19 =>
 cnd v19 (R (.int .i64 1) w2) (xIa 1 v1 (gx xs1 0) fun v22 =>
 xLd w2 v22 fun v23 =>
 callV Tryz.prog (.func (.func 98) #[] #[]) [v15, v23] w2 fun v26 w3 =>
 xNe .i64 v26 (.int .i64 0) fun v28 =>
 cnd v28 (R v26 w3) (xAdd .i64 (gx xs1 0) (.int .i64 1) fun v30 =>
 K1 [v30] w3))) (xLenS v0 fun v32 =>
 xLenS v1 fun v34 =>
 xLt .i64 v32 v34 fun v35 =>
 cnd v35 (R (.int .i64 (-1)) w2) (R (.int .i64 0) w2))) [(.int .i64 0)] w
theorem c_slices_Compare_Si64_i64 {v0 v1 : Value} {w : World} {R : Value → World → Prop} (h : S_slices_Compare_Si64_i64 v0 v1 w R) : Cal Tryz.prog f_slices_Compare_Si64_i64 #[v0, v1] w R := cD (h := (.node none .leaf (.node none (.node none .leaf (.node (some [11]) .leaf .leaf)) .leaf))) Tryz.func92 h
abbrev f_impl_classCount : FuncId := 93
def S_impl_classCount (v0 : Value) (w : World) (R : Value → World → Prop) : Prop :=
  xLenS v0 fun v4 =>
 xEq .i64 v4 (.int .i64 0) fun v5 =>
 cnd v5 (R (.int .i64 0) w) (callV Tryz.prog (.func (.func 175) #[] #[]) [v0] w fun v7 w1 =>
 xAdd .i64 v7 (.int .i64 1) fun v8 =>
 R v8 w1)
theorem c_impl_classCount {v0 : Value} {w : World} {R : Value → World → Prop} (h : S_impl_classCount v0 w R) : Cal Tryz.prog f_impl_classCount #[v0] w R := cD (h := .leaf) Tryz.func93 h
abbrev f_impl_mapMask : FuncId := 94
def S_impl_mapMask (v0 v1 : Value) (w : World) (R : Value → World → Prop) : Prop :=
  callV Tryz.prog (.func (.func 174) #[] #[]) [v1] w fun v9 w1 =>
 xLenS v9 fun v10 =>
 lp (fun K2 xs2 w3 =>
 ∀ _ : Nat → Value, xLt .i64 (gx xs2 1) v10 fun v12 =>
 cnd v12 (xIa 1 v9 (gx xs2 1) fun v13 =>
 xLd w3 v13 fun v14 =>
 xIa 1 v0 v14 fun v18 =>
 xLd w3 v18 fun v19 =>
 xSh iShl .i64 (.int .i64 1) v19 fun v20 =>
 xBits iOr .i64 (gx xs2 0) v20 fun v21 =>
 xAdd .i64 (gx xs2 1) (.int .i64 1) fun v22 =>
 K2 [v21, v22] w3) (R (gx xs2 0) w3)) [(.int .i64 0), (.int .i64 0)] w1
theorem c_impl_mapMask {v0 v1 : Value} {w : World} {R : Value → World → Prop} (h : S_impl_mapMask v0 v1 w R) : Cal Tryz.prog f_impl_mapMask #[v0, v1] w R := cD (h := (.node none .leaf (.node none .leaf (.node none (.node none .leaf (.node (some [5, 11]) .leaf .leaf)) .leaf)))) Tryz.func94 h
abbrev f_slices_pdqsortCmpFunc_impl_Frame : FuncId := 95
def S_slices_pdqsortCmpFunc_impl_Frame (v0 v1 v2 v3 v4 : Value) (w : World) (R : Value → World → Prop) : Prop :=
  lp (fun K1 xs1 w2 =>
 ∀ _ : Nat → Value, xSub .i64 (gx xs1 1) (gx xs1 0) fun v23 =>
 xLe .i64 v23 (.int .i64 12) fun v25 =>
 cnd v25 (callV Tryz.prog (.func (.func 176) #[] #[]) [v0, (gx xs1 0), (gx xs1 1), v4] w2 fun _ w3 =>
 R (.tuple #[]) w3) (xEq .i64 (gx xs1 2) (.int .i64 0) fun v32 =>
 cnd v32 (callV Tryz.prog (.func (.func 177) #[] #[]) [v0, (gx xs1 0), (gx xs1 1), v4] w2 fun _ w4 =>
 R (.tuple #[]) w4) (xNot (gx xs1 3) fun v39 =>
 jn (fun J5 =>
 cnd v39 (callV Tryz.prog (.func (.func 178) #[] #[]) [v0, (gx xs1 0), (gx xs1 1), v4] w2 fun _ w7 =>
 xSub .i64 (gx xs1 2) (.int .i64 1) fun v46 =>
 J5 [v46] w7) (J5 [(gx xs1 2)] w2)) (fun xs5 w6 =>
 ∀ _ : Nat → Value, callV Tryz.prog (.func (.func 179) #[] #[]) [v0, (gx xs1 0), (gx xs1 1), v4] w6 fun v52 w8 =>
 xEx v52 0 fun v53 =>
 xEx v52 1 fun v54 =>
 xEq .i64 v54 (.int .i64 2) fun v56 =>
 jn (fun J9 =>
 cnd v56 (callV Tryz.prog (.func (.func 180) #[] #[]) [v0, (gx xs1 0), (gx xs1 1), v4] w8 fun _ w11 =>
 xSub .i64 (gx xs1 1) (.int .i64 1) fun v63 =>
 xSub .i64 v53 (gx xs1 0) fun v66 =>
 xSub .i64 v63 v66 fun v67 =>
 J9 [v67, (.int .i64 1)] w11) (J9 [v53, v54] w8)) (fun xs9 w10 =>
 ∀ _ : Nat → Value, jn (fun J12 =>
 cnd (gx xs1 3) (cnd (gx xs1 4) (xEq .i64 (gx xs9 1) (.int .i64 1) fun v74 =>
 J12 [v74] w10) (J12 [(.bool false)] w10)) (J12 [(.bool false)] w10)) (fun xs12 w13 =>
 ∀ _ : Nat → Value, jn (fun J14 =>
 cnd (gx xs12 0) (callV Tryz.prog (.func (.func 181) #[] #[]) [v0, (gx xs1 0), (gx xs1 1), v4] w13 fun v80 w16 =>
 cnd v80 (R (.tuple #[]) w16) (J14 [] w16)) (J14 [] w13)) (fun _ w15 =>
 ∀ _ : Nat → Value, jn (fun J17 =>
 xLt .i64 (.int .i64 0) (gx xs1 0) fun v82 =>
 cnd v82 (xSub .i64 (gx xs1 0) (.int .i64 1) fun v87 =>
 xIa 2 v0 v87 fun v88 =>
 xLdA w15 2 v88 fun v89 =>
 xIa 2 v0 (gx xs9 0) fun v92 =>
 xLdA w15 2 v92 fun v93 =>
 ∀ w19, Ext w15 w19 → callV Tryz.prog v4 [v89, v93] w19 fun v94 w20 =>
 xLt .i64 v94 (.int .i64 0) fun v95 =>
 xNot v95 fun v96 =>
 ∀ w21, Ext w20 w21 → J17 [v96] w21) (∀ w22, Ext w15 w22 → ∀ w23, Ext w22 w23 → J17 [(.bool false)] w23)) (fun xs17 w18 =>
 ∀ _ : Nat → Value, cnd (gx xs17 0) (callV Tryz.prog (.func (.func 182) #[] #[]) [v0, (gx xs1 0), (gx xs1 1), (gx xs9 0), v4] w18 fun v103 w24 =>
 K1 [v103, (gx xs1 1), (gx xs5 0), (gx xs1 3), (gx xs1 4)] w24) (callV Tryz.prog (.func (.func 183) #[] #[]) [v0, (gx xs1 0), (gx xs1 1), (gx xs9 0), v4] w18 fun v111 w25 =>
 xEx v111 0 fun v112 =>
 xEx v111 1 fun v113 =>
 xSub .i64 v112 (gx xs1 0) fun v117 =>
 xSub .i64 (gx xs1 1) v112 fun v120 =>
 xQuo .i64 v23 (.int .i64 8) fun v122 =>
 xLt .i64 v117 v120 fun v125 =>
 cnd v125 (xLe .i64 v122 v117 fun v128 =>
 callV Tryz.prog (.func (.func 95) #[] #[]) [v0, (gx xs1 0), v112, (gx xs5 0), v4] w25 fun _ w26 =>
 xAdd .i64 v112 (.int .i64 1) fun v136 =>
 K1 [v136, (gx xs1 1), (gx xs5 0), v128, v113] w26) (xLe .i64 v122 v120 fun v139 =>
 xAdd .i64 v112 (.int .i64 1) fun v142 =>
 callV Tryz.prog (.func (.func 95) #[] #[]) [v0, v142, (gx xs1 1), (gx xs5 0), v4] w25 fun _ w27 =>
 K1 [(gx xs1 0), v112, (gx xs5 0), v139, v113] w27)))))))))) [v1, v2, v3, (.bool true), (.bool true)] w
theorem c_slices_pdqsortCmpFunc_impl_Frame {v0 v1 v2 v3 v4 : Value} {w : World} {R : Value → World → Prop} (h : S_slices_pdqsortCmpFunc_impl_Frame v0 v1 v2 v3 v4 w R) : Cal Tryz.prog f_slices_pdqsortCmpFunc_impl_Frame #[v0, v1, v2, v3, v4] w R := cD (h := (.node none .leaf (.node none .leaf (.node (some [1, 2, 3, 10, 11]) (.node none .leaf (.node none .leaf (.node none .leaf (.node none (.node none .leaf (.node (some [3]) .leaf .leaf)) (.node none .leaf (.node none (.node none .leaf (.node (some [13, 14]) .leaf .leaf)) (.node none (.node none (.reg [] (some [75])) (.node (some []) .leaf .leaf)) (.node none (.node none (.reg [] (some [97])) .leaf) .leaf)))))))) .leaf)))) Tryz.func95 h
abbrev f_math_bits_Len : FuncId := 96
def S_math_bits_Len (v0 : Value) (w : World) (R : Value → World → Prop) : Prop :=
  callV Tryz.prog (.func (.func 185) #[] #[]) [v0] w fun v7 w1 =>
 R v7 w1
theorem c_math_bits_Len {v0 : Value} {w : World} {R : Value → World → Prop} (h : S_math_bits_Len v0 w R) : Cal Tryz.prog f_math_bits_Len #[v0] w R := cD (h := .leaf) Tryz.func96 h
abbrev f_cmp_Or_int : FuncId := 97
def S_cmp_Or_int (v0 : Value) (w : World) (R : Value → World → Prop) : Prop :=
  xLenS v0 fun v7 =>
 lp (fun K1 xs1 w2 =>
 ∀ _ : Nat → Value, xLt .i64 (gx xs1 0) v7 fun v9 =>
 cnd v9 (xIa 1 v0 (gx xs1 0) fun v10 =>
 xLd w2 v10 fun v11 =>
 xNe .i64 v11 (.int .i64 0) fun v14 =>
 cnd v14 (R v11 w2) (xAdd .i64 (gx xs1 0) (.int .i64 1) fun v16 =>
 K1 [v16] w2)) (R (.int .i64 0) w2)) [(.int .i64 0)] w
theorem c_cmp_Or_int {v0 : Value} {w : World} {R : Value → World → Prop} (h : S_cmp_Or_int v0 w R) : Cal Tryz.prog f_cmp_Or_int #[v0] w R := cD (h := (.node none .leaf (.node none .leaf (.node none (.node none .leaf (.node (some [8]) .leaf .leaf)) .leaf)))) Tryz.func97 h
abbrev f_cmp_Compare_i64 : FuncId := 98
def S_cmp_Compare_i64 (v0 v1 : Value) (w : World) (R : Value → World → Prop) : Prop :=
  callV Tryz.prog (.func (.func 186) #[] #[]) [v0] w fun v8 w1 =>
 callV Tryz.prog (.func (.func 186) #[] #[]) [v1] w1 fun v10 w2 =>
 cnd v8 (cnd v10 (R (.int .i64 0) w2) (R (.int .i64 (-1)) w2)) (cnd v10 (R (.int .i64 1) w2) (xLt .i64 v0 v1 fun v16 =>
 cnd v16 (R (.int .i64 (-1)) w2) (xLt .i64 v1 v0 fun v19 =>
 cnd v19 (R (.int .i64 1) w2) (R (.int .i64 0) w2))))
theorem c_cmp_Compare_i64 {v0 v1 : Value} {w : World} {R : Value → World → Prop} (h : S_cmp_Compare_i64 v0 v1 w R) : Cal Tryz.prog f_cmp_Compare_i64 #[v0, v1] w R := cD (h := .leaf) Tryz.func98 h
abbrev f_spec_l01In : FuncId := 99
def S_spec_l01In (v0 v1 v2 : Value) (w : World) (R : Value → World → Prop) : Prop :=
  jn (fun J1 =>
 xLe .i64 v1 v0 fun v9 =>
 cnd v9 (xLe .i64 v0 v2 fun v13 =>
 J1 [v13] w) (J1 [(.bool false)] w)) (fun xs1 w2 =>
 ∀ _ : Nat → Value, R (gx xs1 0) w2)
theorem c_spec_l01In {v0 v1 v2 : Value} {w : World} {R : Value → World → Prop} (h : S_spec_l01In v0 v1 v2 w R) : Cal Tryz.prog f_spec_l01In #[v0, v1, v2] w R := cD (h := (.node none .leaf (.node none (.reg [] (some [6])) .leaf))) Tryz.func99 h
abbrev f_spec_l01Masks : FuncId := 100
def S_spec_l01Masks (v0 v1 : Value) (w : World) (R : Value → World → Prop) : Prop :=
  lp (fun K1 xs1 w2 =>
 ∀ _ : Nat → Value, xLenS v1 fun v8 =>
 xLt .i64 (gx xs1 0) v8 fun v9 =>
 cnd v9 (xIa 1 v1 (gx xs1 0) fun v14 =>
 xLd w2 v14 fun v15 =>
 callQ Tryz.prog (.func (.func 81) #[] #[]) [v0] w2 fun v17 =>
 callQ Tryz.prog (.func (.func 99) #[] #[]) [v15, (.int .i64 0), v17] w2 fun v18 =>
 xNot v18 fun v19 =>
 ∀ w3, Ext w2 w3 → cnd v19 (R (.bool false) w3) (xAdd .i64 (gx xs1 0) (.int .i64 1) fun v11 =>
 K1 [v11] w3)) (R (.bool true) w2)) [(.int .i64 0)] w
theorem c_spec_l01Masks {v0 v1 : Value} {w : World} {R : Value → World → Prop} (h : S_spec_l01Masks v0 v1 w R) : Cal Tryz.prog f_spec_l01Masks #[v0, v1] w R := cD (h := (.node none .leaf (.node none (.node none .leaf (.node (some [5]) (.node none .leaf (.node none (.node none (.reg [5, 6] none) .leaf) .leaf)) .leaf)) .leaf))) Tryz.func100 h
abbrev f_spec_l08Parts : FuncId := 101
def S_spec_l08Parts (v0 v1 v2 v3 : Value) (w : World) (R : Value → World → Prop) : Prop :=
  xLenS v1 fun v11 =>
 xEq .i64 v11 v0 fun v13 =>
 cnd v13 (xBs 24 (Value.cells (.slice none 0 0)) 1 1 [(0, v1)] w fun v16 w1 =>
 xOp Tryz.prog (Builtin.append_ #[62, 62] 62 #[v3, v16]) w1 fun v17 w2 =>
 R v17 w2) (lp (fun K3 xs3 w4 =>
 ∀ _ : Nat → Value, xLe .i64 (gx xs3 1) v2 fun v20 =>
 cnd v20 (callV Tryz.prog (.func (.func 80) #[] #[]) [v1] w4 fun v25 w5 =>
 xBs 2 (Value.cells (.int .i64 0)) 1 1 [(0, (gx xs3 1))] w5 fun v27 w6 =>
 xOp Tryz.prog (Builtin.append_ #[24, 24] 24 #[v25, v27]) w6 fun v28 w7 =>
 xAdd .i64 (gx xs3 1) (.int .i64 1) fun v31 =>
 xMax v2 v31 fun v32 =>
 callV Tryz.prog (.func (.func 101) #[] #[]) [v0, v28, v32, (gx xs3 0)] w7 fun v34 w8 =>
 xAdd .i64 (gx xs3 1) (.int .i64 1) fun v22 =>
 K3 [v34, v22] w8) (R (gx xs3 0) w4)) [v3, (.int .i64 0)] w)
theorem c_spec_l08Parts {v0 v1 v2 v3 : Value} {w : World} {R : Value → World → Prop} (h : S_spec_l08Parts v0 v1 v2 v3 w R) : Cal Tryz.prog f_spec_l08Parts #[v0, v1, v2, v3] w R := cD (h := (.node none .leaf (.node none .leaf (.node none (.node none .leaf (.node (some [3, 9]) .leaf .leaf)) .leaf)))) Tryz.func101 h
abbrev f_spec_l08Congruence : FuncId := 102
def S_spec_l08Congruence (v0 v1 : Value) (w : World) (R : Value → World → Prop) : Prop :=
  xNew (Value.cells v0) 26 w fun v2 w1 =>
 xLdA w1 2 v2 fun v7 =>
 callV Tryz.prog (.func (.func 187) #[] #[]) [v7, v1] w1 fun v9 w2 =>
 xNot v9 fun v10 =>
 cnd v10 (R (.bool false) w2) (lp (fun K3 xs3 w4 =>
 ∀ _ : Nat → Value, xLenS v1 fun v13 =>
 xLt .i64 (gx xs3 0) v13 fun v14 =>
 cnd v14 (lp (fun K5 xs5 w6 =>
 ∀ _ : Nat → Value, xLt .i64 (gx xs5 0) (gx xs3 0) fun v19 =>
 cnd v19 (jn (fun J7 =>
 xIa 1 v1 (gx xs3 0) fun v24 =>
 xLd w6 v24 fun v25 =>
 xIa 1 v1 (gx xs5 0) fun v28 =>
 xLd w6 v28 fun v29 =>
 xEq .i64 v25 v29 fun v30 =>
 cnd v30 (xFa 1 v2 fun v33 =>
 xLd w6 v33 fun v34 =>
 xIa 1 v34 (gx xs3 0) fun v36 =>
 xLd w6 v36 fun v37 =>
 callQ Tryz.prog (.func (.func 106) #[] #[]) [v1, v37] w6 fun v38 =>
 xFa 1 v2 fun v40 =>
 xLd w6 v40 fun v41 =>
 xIa 1 v41 (gx xs5 0) fun v43 =>
 xLd w6 v43 fun v44 =>
 callQ Tryz.prog (.func (.func 106) #[] #[]) [v1, v44] w6 fun v45 =>
 xNe .i64 v38 v45 fun v46 =>
 ∀ w9, Ext w6 w9 → J7 [v46] w9) (∀ w10, Ext w6 w10 → J7 [(.bool false)] w10)) (fun xs7 w8 =>
 ∀ _ : Nat → Value, cnd (gx xs7 0) (R (.bool false) w8) (xAdd .i64 (gx xs5 0) (.int .i64 1) fun v21 =>
 K5 [v21] w8))) (xAdd .i64 (gx xs3 0) (.int .i64 1) fun v16 =>
 K3 [v16] w6)) [(.int .i64 0)] w4) (R (.bool true) w4)) [(.int .i64 0)] w2)
theorem c_spec_l08Congruence {v0 v1 : Value} {w : World} {R : Value → World → Prop} (h : S_spec_l08Congruence v0 v1 w R) : Cal Tryz.prog f_spec_l08Congruence #[v0, v1] w R := cD (h := (.node none .leaf (.node none .leaf (.node none (.node none .leaf (.node (some [5]) (.node none .leaf (.node none (.node none .leaf (.node (some [6]) (.node none .leaf (.node none (.node none (.reg [16, 23] (some [47])) .leaf) .leaf)) .leaf)) .leaf)) .leaf)) .leaf)))) Tryz.func102 h
abbrev f_spec_l05Orders : FuncId := 103
def S_spec_l05Orders (v0 : Value) (w : World) (R : Value → World → Prop) : Prop :=
  xBs 2 (Value.cells (.int .i64 0)) 1 0 [] w fun v8 w1 =>
 xBs 24 (Value.cells (.slice none 0 0)) 1 1 [(0, v8)] w1 fun v9 w2 =>
 lp (fun K3 xs3 w4 =>
 ∀ _ : Nat → Value, xLt .i64 (gx xs3 1) v0 fun v12 =>
 cnd v12 (xBs 24 (Value.cells (.slice none 0 0)) 1 0 [] w4 fun v15 w5 =>
 lp (fun K6 xs6 w7 =>
 ∀ _ : Nat → Value, xLenS (gx xs3 0) fun v18 =>
 xLt .i64 (gx xs6 1) v18 fun v19 =>
 cnd v19 (lp (fun K8 xs8 w9 =>
 ∀ _ : Nat → Value, xLt .i64 (gx xs8 1) v0 fun v24 =>
 cnd v24 (xIa 1 (gx xs3 0) (gx xs6 1) fun v29 =>
 xLd w9 v29 fun v30 =>
 callV Tryz.prog (.func (.func 188) #[] #[]) [v30, (gx xs8 1)] w9 fun v32 w10 =>
 xNot v32 fun v33 =>
 cnd v33 (xIa 1 (gx xs3 0) (gx xs6 1) fun v37 =>
 xLd w10 v37 fun v38 =>
 callV Tryz.prog (.func (.func 80) #[] #[]) [v38] w10 fun v39 w11 =>
 xBs 2 (Value.cells (.int .i64 0)) 1 1 [(0, (gx xs8 1))] w11 fun v41 w12 =>
 xOp Tryz.prog (Builtin.append_ #[24, 24] 24 #[v39, v41]) w12 fun v42 w13 =>
 xBs 24 (Value.cells (.slice none 0 0)) 1 1 [(0, v42)] w13 fun v43 w14 =>
 xOp Tryz.prog (Builtin.append_ #[62, 62] 62 #[(gx xs8 0), v43]) w14 fun v44 w15 =>
 xAdd .i64 (gx xs8 1) (.int .i64 1) fun v26 =>
 K8 [v44, v26] w15) (xAdd .i64 (gx xs8 1) (.int .i64 1) fun v26 =>
 K8 [(gx xs8 0), v26] w10)) (xAdd .i64 (gx xs6 1) (.int .i64 1) fun v21 =>
 K6 [(gx xs8 0), v21] w9)) [(gx xs6 0), (.int .i64 0)] w7) (xAdd .i64 (gx xs3 1) (.int .i64 1) fun v14 =>
 K3 [(gx xs6 0), v14] w7)) [v15, (.int .i64 0)] w5) (R (gx xs3 0) w4)) [v9, (.int .i64 0)] w2
theorem c_spec_l05Orders {v0 : Value} {w : World} {R : Value → World → Prop} (h : S_spec_l05Orders v0 w R) : Cal Tryz.prog f_spec_l05Orders #[v0] w R := cD (h := (.node none .leaf (.node none .leaf (.node none (.node none .leaf (.node (some [3, 4]) (.node none .leaf (.node none (.node none .leaf (.node none (.node none .leaf (.node (some [5, 6]) (.node none .leaf (.node none (.node none .leaf (.node (some [5, 7]) .leaf .leaf)) .leaf)) .leaf)) .leaf)) .leaf)) .leaf)) .leaf)))) Tryz.func103 h
abbrev f_spec_l05Renumber : FuncId := 104
def S_spec_l05Renumber (v0 v1 : Value) (w : World) (R : Value → World → Prop) : Prop :=
  xBs 2 (Value.cells (.int .i64 0)) 1 0 [] w fun v7 w1 =>
 lp (fun K2 xs2 w3 =>
 ∀ _ : Nat → Value, xLenS v1 fun v10 =>
 xLt .i64 (gx xs2 1) v10 fun v11 =>
 cnd v11 (xIa 1 v1 (gx xs2 1) fun v19 =>
 xLd w3 v19 fun v20 =>
 xIa 1 v0 v20 fun v21 =>
 xLd w3 v21 fun v22 =>
 callV Tryz.prog (.func (.func 189) #[] #[]) [v1, v22] w3 fun v23 w4 =>
 xBs 2 (Value.cells (.int .i64 0)) 1 1 [(0, v23)] w4 fun v24 w5 =>
 xOp Tryz.prog (Builtin.append_ #[24, 24] 24 #[(gx xs2 0), v24]) w5 fun v25 w6 =>
 xAdd .i64 (gx xs2 1) (.int .i64 1) fun v13 =>
 K2 [v25, v13] w6) (R (gx xs2 0) w3)) [v7, (.int .i64 0)] w1
theorem c_spec_l05Renumber {v0 v1 : Value} {w : World} {R : Value → World → Prop} (h : S_spec_l05Renumber v0 v1 w R) : Cal Tryz.prog f_spec_l05Renumber #[v0, v1] w R := cD (h := (.node none .leaf (.node none .leaf (.node none (.node none .leaf (.node (some [5, 6]) .leaf .leaf)) .leaf)))) Tryz.func104 h
abbrev f_spec_l01Less : FuncId := 105
def S_spec_l01Less (v0 v1 : Value) (w : World) (R : Value → World → Prop) : Prop :=
  lp (fun K1 xs1 w2 =>
 ∀ _ : Nat → Value, jn (fun J3 =>
 xLenS v0 fun v8 =>
 xLt .i64 (gx xs1 0) v8 fun v9 =>
 cnd v9 (xLenS v1 fun v13 =>
 xLt .i64 (gx xs1 0) v13 fun v14 =>
 J3 [v14] w2) (J3 [(.bool false)] w2)) (fun xs3 w4 =>
 ∀ _ : Nat → Value, cnd (gx xs3 0) (xIa 1 v0 (gx xs1 0) fun v20 =>
 xLd w4 v20 fun v21 =>
 xIa 1 v1 (gx xs1 0) fun v24 =>
 xLd w4 v24 fun v25 =>
 xNe .i64 v21 v25 fun v26 =>
 ∀ w5, Ext w4 w5 → cnd v26 (xIa 1 v0 (gx xs1 0) fun v29 =>
 xLd w5 v29 fun v30 =>
 xIa 1 v1 (gx xs1 0) fun v33 =>
 xLd w5 v33 fun v34 =>
 xLt .i64 v30 v34 fun v35 =>
 ∀ w6, Ext w5 w6 → R v35 w6) (xAdd .i64 (gx xs1 0) (.int .i64 1) fun v17 =>
 K1 [v17] w5)) (xLenS v0 fun v37 =>
 xLenS v1 fun v39 =>
 xLt .i64 v37 v39 fun v40 =>
 R v40 w4))) [(.int .i64 0)] w
theorem c_spec_l01Less {v0 v1 : Value} {w : World} {R : Value → World → Prop} (h : S_spec_l01Less v0 v1 w R) : Cal Tryz.prog f_spec_l01Less #[v0, v1] w R := cD (h := (.node none .leaf (.node none (.node none .leaf (.node (some [5]) (.node none (.node none (.reg [] (some [15])) .leaf) .leaf) .leaf)) .leaf))) Tryz.func105 h
abbrev f_spec_l08Image : FuncId := 106
def S_spec_l08Image (v0 v1 : Value) (w : World) (R : Value → World → Prop) : Prop :=
  lp (fun K1 xs1 w2 =>
 ∀ _ : Nat → Value, xLenS v0 fun v9 =>
 xLt .i64 (gx xs1 1) v9 fun v10 =>
 cnd v10 (callV Tryz.prog (.func (.func 145) #[] #[]) [v1, (gx xs1 1)] w2 fun v15 w3 =>
 cnd v15 (xIa 1 v0 (gx xs1 1) fun v19 =>
 xLd w3 v19 fun v20 =>
 callV Tryz.prog (.func (.func 149) #[] #[]) [v20] w3 fun v21 w4 =>
 xBits iOr .i64 (gx xs1 0) v21 fun v22 =>
 xAdd .i64 (gx xs1 1) (.int .i64 1) fun v12 =>
 K1 [v22, v12] w4) (xAdd .i64 (gx xs1 1) (.int .i64 1) fun v12 =>
 K1 [(gx xs1 0), v12] w3)) (R (gx xs1 0) w2)) [(.int .i64 0), (.int .i64 0)] w
theorem c_spec_l08Image {v0 v1 : Value} {w : World} {R : Value → World → Prop} (h : S_spec_l08Image v0 v1 w R) : Cal Tryz.prog f_spec_l08Image #[v0, v1] w R := cD (h := (.node none .leaf (.node none .leaf (.node none (.node none .leaf (.node (some [5, 6]) .leaf .leaf)) .leaf)))) Tryz.func106 h
abbrev f_impl_firstMorphism_1 : FuncId := 107
def S_impl_firstMorphism_1 (v0 v1 v2 : Value) (w : World) (R : Value → World → Prop) : Prop :=
  callV Tryz.prog (.func (.func 88) #[] #[]) [v0] w fun v6 w1 =>
 xSt w1 v1 v6 fun w2 =>
 xSt w2 v2 (.bool true) fun w3 =>
 R (.bool false) w3
theorem c_impl_firstMorphism_1 {v0 v1 v2 : Value} {w : World} {R : Value → World → Prop} (h : S_impl_firstMorphism_1 v0 v1 v2 w R) : Cal Tryz.prog f_impl_firstMorphism_1 #[v0, v1, v2] w R := cD (h := .leaf) Tryz.func107 h
abbrev f_impl_morphismSearch_run : FuncId := 108
def S_impl_morphismSearch_run (v0 : Value) (w : World) (R : Value → World → Prop) : Prop :=
  callV Tryz.prog (.func (.func 190) #[] #[]) [v0] w fun v6 w1 =>
 xNot v6 fun v7 =>
 cnd v7 (R (.bool true) w1) (xNil v0 fun v9 =>
 xFa 4 v9 fun v10 =>
 xLd w1 v10 fun v11 =>
 xLenS v11 fun v12 =>
 xNil v0 fun v14 =>
 xFa 0 v14 fun v15 =>
 xFa 0 v15 fun v16 =>
 xLd w1 v16 fun v17 =>
 xEq .i64 v12 v17 fun v18 =>
 ∀ w2, Ext w1 w2 → cnd v18 (xNil v0 fun v20 =>
 xFa 5 v20 fun v21 =>
 xLd w2 v21 fun v22 =>
 xNil v0 fun v24 =>
 xFa 4 v24 fun v25 =>
 xLd w2 v25 fun v26 =>
 ∀ w3, Ext w2 w3 → callV Tryz.prog v22 [v26] w3 fun v27 w4 =>
 ∀ w5, Ext w4 w5 → R v27 w5) (xNil v0 fun v29 =>
 xFa 2 v29 fun v30 =>
 xFa 0 v30 fun v31 =>
 xLd w2 v31 fun v32 =>
 lp (fun K6 xs6 w7 =>
 ∀ _ : Nat → Value, xLt .i64 (gx xs6 0) v32 fun v34 =>
 cnd v34 (xNil v0 fun v38 =>
 xFa 4 v38 fun v39 =>
 xLd w7 v39 fun v40 =>
 xBs 2 (Value.cells (.int .i64 0)) 1 1 [(0, (gx xs6 0))] w7 fun v42 w8 =>
 xOp Tryz.prog (Builtin.append_ #[24, 24] 24 #[v40, v42]) w8 fun v43 w9 =>
 xNil v0 fun v44 =>
 xFa 4 v44 fun v45 =>
 xSt w9 v45 v43 fun w10 =>
 callV Tryz.prog (.func (.func 108) #[] #[]) [v0] w10 fun v47 w11 =>
 xNil v0 fun v50 =>
 xFa 4 v50 fun v51 =>
 xLd w11 v51 fun v52 =>
 xNil v0 fun v54 =>
 xFa 4 v54 fun v55 =>
 xLd w11 v55 fun v56 =>
 xLenS v56 fun v57 =>
 xSub .i64 v57 (.int .i64 1) fun v58 =>
 xSl 1 v52 none (some v58) fun v59 =>
 xNil v0 fun v60 =>
 xFa 4 v60 fun v61 =>
 ∀ w12, Ext w11 w12 → xSt w12 v61 v59 fun w13 =>
 ∀ w14, Ext w13 w14 → xNot v47 fun v63 =>
 cnd v63 (R (.bool false) w14) (xAdd .i64 (gx xs6 0) (.int .i64 1) fun v64 =>
 K6 [v64] w14)) (R (.bool true) w7)) [(.int .i64 0)] w2))
theorem c_impl_morphismSearch_run {v0 : Value} {w : World} {R : Value → World → Prop} (h : S_impl_morphismSearch_run v0 w R) : Cal Tryz.prog f_impl_morphismSearch_run #[v0] w R := cD (h := (.node none .leaf (.node none .leaf (.node none .leaf (.node none (.node none .leaf (.node (some [33]) .leaf .leaf)) .leaf))))) Tryz.func108 h
abbrev f_spec_l08Go : FuncId := 109
def S_spec_l08Go (v0 v1 : Value) (w : World) (R : Value → World → Prop) : Prop :=
  xLenS v1 fun v7 =>
 xNil v0 fun v9 =>
 xFa 0 v9 fun v10 =>
 xFa 0 v10 fun v11 =>
 xLd w v11 fun v12 =>
 xEq .i64 v7 v12 fun v13 =>
 cnd v13 (xNil v0 fun v16 =>
 xFa 7 v16 fun v17 =>
 xLd w v17 fun v18 =>
 xBs 24 (Value.cells (.slice none 0 0)) 1 1 [(0, v1)] w fun v20 w1 =>
 xOp Tryz.prog (Builtin.append_ #[62, 62] 62 #[v18, v20]) w1 fun v21 w2 =>
 xNil v0 fun v22 =>
 xFa 7 v22 fun v23 =>
 xSt w2 v23 v21 fun w3 =>
 R (.tuple #[]) w3) (lp (fun K4 xs4 w5 =>
 ∀ _ : Nat → Value, jn (fun J6 =>
 xNil v0 fun v26 =>
 xFa 2 v26 fun v27 =>
 xFa 0 v27 fun v28 =>
 xLd w5 v28 fun v29 =>
 xLt .i64 (gx xs4 0) v29 fun v30 =>
 cnd v30 (xNil v0 fun v33 =>
 xFa 7 v33 fun v34 =>
 xLd w5 v34 fun v35 =>
 xLenS v35 fun v36 =>
 xNil v0 fun v38 =>
 xFa 6 v38 fun v39 =>
 xLd w5 v39 fun v40 =>
 xLt .i64 v36 v40 fun v41 =>
 ∀ w8, Ext w5 w8 → J6 [v41] w8) (∀ w9, Ext w5 w9 → J6 [(.bool false)] w9)) (fun xs6 w7 =>
 ∀ _ : Nat → Value, cnd (gx xs6 0) (callV Tryz.prog (.func (.func 80) #[] #[]) [v1] w7 fun v46 w10 =>
 xBs 2 (Value.cells (.int .i64 0)) 1 1 [(0, (gx xs4 0))] w10 fun v48 w11 =>
 xOp Tryz.prog (Builtin.append_ #[24, 24] 24 #[v46, v48]) w11 fun v49 w12 =>
 callV Tryz.prog (.func (.func 191) #[] #[]) [v0, v49] w12 fun v52 w13 =>
 cnd v52 (callV Tryz.prog (.func (.func 109) #[] #[]) [v0, v49] w13 fun _ w14 =>
 xAdd .i64 (gx xs4 0) (.int .i64 1) fun v44 =>
 K4 [v44] w14) (xAdd .i64 (gx xs4 0) (.int .i64 1) fun v44 =>
 K4 [v44] w13)) (R (.tuple #[]) w7))) [(.int .i64 0)] w)
theorem c_spec_l08Go {v0 v1 : Value} {w : World} {R : Value → World → Prop} (h : S_spec_l08Go v0 v1 w R) : Cal Tryz.prog f_spec_l08Go #[v0, v1] w R := cD (h := (.node none .leaf (.node none .leaf (.node (some [4]) (.node none (.node none (.reg [] (some [42])) .leaf) .leaf) .leaf)))) Tryz.func109 h
abbrev f_spec_l02Draw : FuncId := 110
def S_spec_l02Draw (v0 v1 v2 v3 : Value) (w : World) (R : Value → World → Prop) : Prop :=
  jn (fun J1 =>
 xLe .i64 v1 (.int .i64 2) fun v12 =>
 cnd v12 (J1 [(.bool true)] w) (callV Tryz.prog (.func (.func 79) #[] #[]) [v0, (.int .i64 9)] w fun v15 w3 =>
 xEq .i64 v15 (.int .i64 0) fun v16 =>
 J1 [v16] w3)) (fun xs1 w2 =>
 ∀ _ : Nat → Value, cnd (gx xs1 0) (callV Tryz.prog (.func (.func 79) #[] #[]) [v0, (.int .i64 8)] w2 fun v19 w4 =>
 xEq .i64 v19 (.int .i64 0) fun v20 =>
 cnd v20 (callV Tryz.prog (.func (.func 192) #[] #[]) [] w4 fun v21 w5 =>
 R v21 w5) (callV Tryz.prog (.func (.func 79) #[] #[]) [v0, v2] w4 fun v24 w6 =>
 callV Tryz.prog (.func (.func 193) #[] #[]) [v24] w6 fun v25 w7 =>
 R v25 w7)) (jn (fun J8 =>
 cnd v3 (callV Tryz.prog (.func (.func 79) #[] #[]) [v0, (.int .i64 3)] w2 fun v29 w10 =>
 xEq .i64 v29 (.int .i64 0) fun v30 =>
 J8 [v30] w10) (J8 [(.bool false)] w2)) (fun xs8 w9 =>
 ∀ _ : Nat → Value, cnd (gx xs8 0) (callV Tryz.prog (.func (.func 79) #[] #[]) [v0, (.int .i64 2)] w9 fun v33 w11 =>
 xAdd .i64 (.int .i64 5) v33 fun v34 =>
 xSub .i64 v1 (.int .i64 1) fun v37 =>
 callV Tryz.prog (.func (.func 110) #[] #[]) [v0, v37, v2, v3] w11 fun v40 w12 =>
 callV Tryz.prog (.func (.func 194) #[] #[]) [v34, v40] w12 fun v41 w13 =>
 R v41 w13) (callV Tryz.prog (.func (.func 79) #[] #[]) [v0, (.int .i64 6)] w9 fun v43 w14 =>
 xEq .i64 v43 (.int .i64 0) fun v44 =>
 cnd v44 (xSub .i64 v1 (.int .i64 2) fun v47 =>
 callV Tryz.prog (.func (.func 110) #[] #[]) [v0, v47, v2, v3] w14 fun v50 w15 =>
 callV Tryz.prog (.func (.func 195) #[] #[]) [v50] w15 fun v51 w16 =>
 R v51 w16) (xSub .i64 v1 (.int .i64 2) fun v54 =>
 callV Tryz.prog (.func (.func 79) #[] #[]) [v0, v54] w14 fun v55 w17 =>
 xAdd .i64 (.int .i64 1) v55 fun v56 =>
 callV Tryz.prog (.func (.func 110) #[] #[]) [v0, v56, v2, v3] w17 fun v61 w18 =>
 callV Tryz.prog (.func (.func 79) #[] #[]) [v0, (.int .i64 3)] w18 fun v63 w19 =>
 xAdd .i64 (.int .i64 2) v63 fun v64 =>
 xSub .i64 v1 (.int .i64 1) fun v68 =>
 xSub .i64 v68 v56 fun v70 =>
 callV Tryz.prog (.func (.func 110) #[] #[]) [v0, v70, v2, v3] w19 fun v73 w20 =>
 callV Tryz.prog (.func (.func 112) #[] #[]) [v64, v61, v73] w20 fun v74 w21 =>
 R v74 w21)))))
theorem c_spec_l02Draw {v0 v1 v2 v3 : Value} {w : World} {R : Value → World → Prop} (h : S_spec_l02Draw v0 v1 v2 v3 w R) : Cal Tryz.prog f_spec_l02Draw #[v0, v1, v2, v3] w R := cD (h := (.node none .leaf (.node none (.node none (.reg [] (some [17])) .leaf) (.node none (.node none (.reg [] (some [31])) .leaf) .leaf)))) Tryz.func110 h
abbrev f_spec_l02Bend : FuncId := 111
def S_spec_l02Bend (v0 v1 : Value) (w : World) (R : Value → World → Prop) : Prop :=
  callV Tryz.prog (.func (.func 196) #[] #[]) [v1] w fun v8 w1 =>
 xLenS v8 fun v11 =>
 callV Tryz.prog (.func (.func 79) #[] #[]) [v0, v11] w1 fun v12 w2 =>
 callV Tryz.prog (.func (.func 79) #[] #[]) [v0, (.int .i64 5)] w2 fun v14 w3 =>
 xEq .i64 v14 (.int .i64 0) fun v16 =>
 cnd v16 (callV Tryz.prog (.func (.func 79) #[] #[]) [v0, (.int .i64 9)] w3 fun v20 w4 =>
 xSub .i64 v20 (.int .i64 1) fun v21 =>
 xIa 2 v8 v12 fun v22 =>
 xFa 0 v22 fun v23 =>
 xSt w4 v23 v21 fun w5 =>
 R v8 w5) (xEq .i64 v14 (.int .i64 1) fun v25 =>
 cnd v25 (xBs 2 (Value.cells (.int .i64 0)) 1 5 [(0, (.int .i64 (-1))), (1, (.int .i64 0)), (2, (.int .i64 1)), (3, (.int .i64 5)), (4, (.int .i64 6))] w3 fun v29 w6 =>
 callV Tryz.prog (.func (.func 34) #[] #[]) [v0, v29] w6 fun v30 w7 =>
 xIa 2 v8 v12 fun v31 =>
 xFa 1 v31 fun v32 =>
 xSt w7 v32 v30 fun w8 =>
 R v8 w8) (xEq .i64 v14 (.int .i64 2) fun v34 =>
 cnd v34 (callV Tryz.prog (.func (.func 79) #[] #[]) [v0, (.int .i64 7)] w3 fun v37 w9 =>
 xBuild #[(.int .i64 0), (.int .i64 0)] #[(0, 1), (1, 1)] [(0, v37)] fun v38 =>
 xBs 163 (Value.cells (.agg #[(.int .i64 0), (.int .i64 0)])) 2 1 [(0, v38)] w9 fun v39 w10 =>
 xOp Tryz.prog (Builtin.append_ #[39, 39] 39 #[v8, v39]) w10 fun v40 w11 =>
 R v40 w11) (xEq .i64 v14 (.int .i64 3) fun v42 =>
 cnd v42 (xSl 2 v8 none (some v12) fun v45 =>
 R v45 w3) (xEq .i64 v14 (.int .i64 4) fun v47 =>
 cnd v47 (xSl 2 v8 none (some v12) fun v50 =>
 xAdd .i64 v12 (.int .i64 1) fun v53 =>
 xSl 2 v8 (some v53) none fun v54 =>
 ∀ w12, Ext w3 w12 → xOp Tryz.prog (Builtin.append_ #[39, 39] 39 #[v50, v54]) w12 fun v55 w13 =>
 ∀ w14, Ext w13 w14 → R v55 w14) (R v8 w3)))))
theorem c_spec_l02Bend {v0 v1 : Value} {w : World} {R : Value → World → Prop} (h : S_spec_l02Bend v0 v1 w R) : Cal Tryz.prog f_spec_l02Bend #[v0, v1] w R := cD (h := .leaf) Tryz.func111 h
abbrev f_spec_l02Pair : FuncId := 112
def S_spec_l02Pair (v0 v1 v2 : Value) (w : World) (R : Value → World → Prop) : Prop :=
  xBuild #[(.int .i64 0), (.int .i64 0)] #[(0, 1), (1, 1)] [(0, v0)] fun v8 =>
 xBs 163 (Value.cells (.agg #[(.int .i64 0), (.int .i64 0)])) 2 1 [(0, v8)] w fun v9 w1 =>
 xOp Tryz.prog (Builtin.append_ #[39, 39] 39 #[v9, v1]) w1 fun v11 w2 =>
 xOp Tryz.prog (Builtin.append_ #[39, 39] 39 #[v11, v2]) w2 fun v13 w3 =>
 R v13 w3
theorem c_spec_l02Pair {v0 v1 v2 : Value} {w : World} {R : Value → World → Prop} (h : S_spec_l02Pair v0 v1 v2 w R) : Cal Tryz.prog f_spec_l02Pair #[v0, v1, v2] w R := cD (h := .leaf) Tryz.func112 h
abbrev f_spec_l02Is : FuncId := 113
def S_spec_l02Is (v0 : Value) (w : World) (R : Value → World → Prop) : Prop :=
  jn (fun J1 =>
 xLenS v0 fun v4 =>
 xLe .i64 v4 (.int .i64 40) fun v5 =>
 cnd v5 (callV Tryz.prog (.func (.func 197) #[] #[]) [v0] w fun v8 w3 =>
 J1 [v8] w3) (J1 [(.bool false)] w)) (fun xs1 w2 =>
 ∀ _ : Nat → Value, R (gx xs1 0) w2)
theorem c_spec_l02Is {v0 : Value} {w : World} {R : Value → World → Prop} (h : S_spec_l02Is v0 w R) : Cal Tryz.prog f_spec_l02Is #[v0] w R := cD (h := (.node none .leaf (.node none (.reg [] (some [2])) .leaf))) Tryz.func113 h
abbrev f_spec_l06Fits : FuncId := 114
def S_spec_l06Fits (v0 v1 : Value) (w : World) (R : Value → World → Prop) : Prop :=
  xNew (Value.cells v0) 26 w fun v2 w1 =>
 xFa 0 v2 fun v5 =>
 xLd w1 v5 fun v6 =>
 ∀ w2, Ext w1 w2 → callV Tryz.prog (.func (.func 198) #[] #[]) [v1] w2 fun v8 w3 =>
 Ext w2 w3 ∧ xLenS v8 fun v9 =>
 xMul .i64 v6 v9 fun v10 =>
 xLe .i64 v10 (.int .i64 16) fun v11 =>
 ∀ w4, Ext w3 w4 → R v11 w4
theorem c_spec_l06Fits {v0 v1 : Value} {w : World} {R : Value → World → Prop} (h : S_spec_l06Fits v0 v1 w R) : Cal Tryz.prog f_spec_l06Fits #[v0, v1] w R := cD (h := .leaf) Tryz.func114 h
end Go.Proofs.YtaipnnkpplinoaaGreatDoor
