/- The proof of FnExactRefuteClauses, part 1 of 4. Conditions: none. -/
import Derived.Scope
import Derived.Still
import Derived.Below
import Derived.KernelRfl
import Derived.Deep.LoopGhost
import Derived.Laws.AppendOwn
import Derived.Laws.OwnMore
import Derived.Laws.MakeOwn
import Derived.IntWalk
import Derived.Maps.AppendAt
import Derived.Laws.Concat
import Derived.Laws.Strings
import Derived.Laws.RangeString
import Derived.Laws.RangeAny
import Derived.Lib.OthersKept
/- A verified compiler from a Go function's code to a plain proposition without frames: 'den'. Conditions: none; it is stated over any program. -/
namespace Go.Vc
open Go.RowKit (Below)

/-- Nothing that lay in memory has turned; there may be new blocks. -/
def Ext (w w' : World) : Prop := Below w.heap.size w w'
theorem Ext.refl (w : World) : Ext w w := Below.refl _ _
theorem Ext.trans {a b c : World} (h : Ext a b) (k : Ext b c) : Ext a c := Below.trans h (Below.mono k h.size)
theorem Ext.size {a b : World} (h : Ext a b) : a.heap.size ≤ b.heap.size := Below.size h
theorem Ext.cell {a b : World} (h : Ext a b) {p : Addr} {v : Value} (hp : a.cell? p = some v) : b.cell? p = some v := by
  rw [Below.cell h (World.block_lt_of_cell? a p hp)]; exact hp
theorem Ext.alloc (w : World) (o : Obj) : Ext w (w.alloc o) := Below.alloc (Below.refl _ _) (Nat.le_refl _) o
theorem Ext.drew (w : World) : Ext w w.drew := Below.drew (Below.refl _ _)

/-! ### The names of a frame -/
structure En where
  s : Nat
  v : Value
  k : Option (Option Bool)
abbrev Env := List En
def look : Env → Nat → Value
  | [], _ => undef
  | e :: r, n => bif Nat.beq e.s n then e.v else look r n
/-- What is known of a slot beforehand: nothing, that it holds a bool, or that it was passed over. -/
def known : Env → Nat → Option (Option Bool)
  | [], _ => none
  | e :: r, n => bif Nat.beq e.s n then e.k else known r n
def ev (env : Env) : Operand → Value
  | .tmp t => look env t
  | .const v => v
  | .global g => .pointer (some ⟨g, 0, none⟩)
  | .func f => .func (.func f) #[] #[]
def kv : Option Bool → Value
  | some b => .bool b
  | none => undef
def evk (env : Env) : Operand → Option (Option Bool)
  | .tmp t => known env t
  | .const (.bool b) => some (some b)
  | _ => none
def oev (env : Env) : Option Operand → Option Value
  | none => none
  | some x => some (ev env x)
def EnvOk (env : Env) : Prop := ∀ s x, known env s = some x → look env s = kv x

/-! ### What is asked of a value -/
def xPick (c a b : Value) (K : Value → Prop) : Prop := ∃ t, c = .bool t ∧ K (if t then a else b)
def okNil : Value → Prop
  | .pointer (some _) => True
  | .func (.func _) _ _ => True
  | _ => False
def xNil (x : Value) (K : Value → Prop) : Prop := okNil x ∧ K x
def xLd (w : World) (x : Value) (K : Value → Prop) : Prop := ∃ ad v, x = .pointer (some ad) ∧ w.cell? ad = some v ∧ K v
def xLdA (w : World) (n : Nat) (x : Value) (K : Value → Prop) : Prop := ∃ ad cs, x = .pointer (some ad) ∧ cs.size = n ∧ (∀ i, i < n → w.cell? (ad.add i) = cs[i]?) ∧ K (.agg cs)
def xFa (off : Nat) (x : Value) (K : Value → Prop) : Prop := ∃ ad, x = .pointer (some ad) ∧ K (.pointer (some (ad.add off)))
def xFd (off : Nat) (x : Value) (K : Value → Prop) : Prop := ∃ cs v, x = .agg cs ∧ cs[off]? = some v ∧ K v
def xFdA (off n : Nat) (x : Value) (K : Value → Prop) : Prop := ∃ cs, x = .agg cs ∧ K (.agg (cs.extract off (off + n)))
def xIa (sz : Nat) (x i : Value) (K : Value → Prop) : Prop := ∃ ad n c k j, x = .slice (some ad) n c ∧ i = .int k j ∧ 0 ≤ j ∧ j < n ∧ K (.pointer (some (ad.add (j.toNat * sz))))
def xIaA (len sz : Nat) (x i : Value) (K : Value → Prop) : Prop := ∃ ad k j, x = .pointer (some ad) ∧ i = .int k j ∧ 0 ≤ j ∧ j < len ∧ K (.pointer (some (ad.add (j.toNat * sz))))
def xIs (x i : Value) (K : Value → Prop) : Prop := ∃ s k j b, x = .string s ∧ i = .int k j ∧ 0 ≤ j ∧ s[j.toNat]? = some b ∧ K (.int .u8 (b.toNat : Nat))
def xAdd (k : IntKind) (x y : Value) (K : Value → Prop) : Prop := ∃ a b, x = .int k a ∧ y = .int k b ∧ K (.int k (k.wrap (a + b)))
def xSub (k : IntKind) (x y : Value) (K : Value → Prop) : Prop := ∃ a b, x = .int k a ∧ y = .int k b ∧ K (.int k (k.wrap (a - b)))
def xMul (k : IntKind) (x y : Value) (K : Value → Prop) : Prop := ∃ a b, x = .int k a ∧ y = .int k b ∧ K (.int k (k.wrap (a * b)))
def xQuo (k : IntKind) (x y : Value) (K : Value → Prop) : Prop := ∃ a b, x = .int k a ∧ y = .int k b ∧ b ≠ 0 ∧ K (.int k (k.wrap (a.tdiv b)))
def xRem (k : IntKind) (x y : Value) (K : Value → Prop) : Prop := ∃ a b, x = .int k a ∧ y = .int k b ∧ b ≠ 0 ∧ K (.int k (a.tmod b))
def iAnd (k : IntKind) (a b : Int) : Int := k.wrap ((BitVec.ofInt k.bits a &&& BitVec.ofInt k.bits b).toNat : Nat)
def iOr (k : IntKind) (a b : Int) : Int := k.wrap ((BitVec.ofInt k.bits a ||| BitVec.ofInt k.bits b).toNat : Nat)
def iXor (k : IntKind) (a b : Int) : Int := k.wrap ((BitVec.ofInt k.bits a ^^^ BitVec.ofInt k.bits b).toNat : Nat)
def iAndNot (k : IntKind) (a b : Int) : Int := k.wrap ((BitVec.ofInt k.bits a &&& ~~~ BitVec.ofInt k.bits b).toNat : Nat)
def iShl (k : IntKind) (a b : Int) : Int := k.wrap (a * 2 ^ min b.toNat k.bits)
def iShr (k : IntKind) (a b : Int) : Int := a.fdiv (2 ^ min b.toNat k.bits)
def xBits (f : IntKind → Int → Int → Int) (k : IntKind) (x y : Value) (K : Value → Prop) : Prop := ∃ a b, x = .int k a ∧ y = .int k b ∧ K (.int k (f k a b))
def xSh (f : IntKind → Int → Int → Int) (k : IntKind) (x y : Value) (K : Value → Prop) : Prop := ∃ a yk b, x = .int k a ∧ y = .int yk b ∧ 0 ≤ b ∧ K (.int k (f k a b))
def xEq (k : IntKind) (x y : Value) (K : Value → Prop) : Prop := ∃ a b, x = .int k a ∧ y = .int k b ∧ K (.bool (decide (a = b)))
def xNe (k : IntKind) (x y : Value) (K : Value → Prop) : Prop := ∃ a b, x = .int k a ∧ y = .int k b ∧ K (.bool (decide (¬ a = b)))
def xLt (k : IntKind) (x y : Value) (K : Value → Prop) : Prop := ∃ a b, x = .int k a ∧ y = .int k b ∧ K (.bool (decide (a < b)))
def xLe (k : IntKind) (x y : Value) (K : Value → Prop) : Prop := ∃ a b, x = .int k a ∧ y = .int k b ∧ K (.bool (decide (a ≤ b)))
def xBoolEq (p : Bool) (x y : Value) (K : Value → Prop) : Prop := ∃ a b, x = .bool a ∧ y = .bool b ∧ K (.bool (p == (a == b)))
def xStr (op : BinOp) (x y : Value) (K : Value → Prop) : Prop := ∃ a b v, x = .string a ∧ y = .string b ∧ Op.stringOp op a b = .pure v ∧ K v
def isNilS : Value → Bool
  | .slice none _ _ => true
  | _ => false
def isSl : Value → Prop
  | .slice _ _ _ => True
  | _ => False
def xNilS (p : Bool) (x y : Value) (K : Value → Prop) : Prop := isSl x ∧ y = .slice none 0 0 ∧ K (.bool (p == isNilS x))
def xNot (x : Value) (K : Value → Prop) : Prop := ∃ b, x = .bool b ∧ K (.bool (!b))
def xConv (k : IntKind) (x : Value) (K : Value → Prop) : Prop := ∃ k' a, x = .int k' a ∧ K (.int k (k.wrap a))
/-- A bound of 's[lo:hi]'. -/
def bnd (d : Nat) (r : Nat) : Option Value → Prop
  | none => r = d
  | some v => ∃ k, v = .int k (r : Int)
def xSl (sz : Nat) (x : Value) (lo hi : Option Value) (K : Value → Prop) : Prop :=
  ∃ a n c l h, x = .slice a n c ∧ bnd n h hi ∧ bnd 0 l lo ∧ l ≤ h ∧ h ≤ c ∧ K (.slice (if c = l then a else a.map (·.add (l * sz))) (h - l) (c - l))
def xSlS (x : Value) (lo hi : Option Value) (K : Value → Prop) : Prop :=
  ∃ s l h, x = .string s ∧ bnd s.size h hi ∧ bnd 0 l lo ∧ l ≤ h ∧ h ≤ s.size ∧ K (.string (s.extract l h))
def xEx (x : Value) (i : Nat) (K : Value → Prop) : Prop := ∃ vs v, x = .tuple vs ∧ vs[i]? = some v ∧ K v
def xBuild (z : Array Value) (places : Array (Nat × Nat)) (ps : List (Nat × Value)) (K : Value → Prop) : Prop := ∃ cs, Instr.fill (places[·]?) z ps = some cs ∧ K (.agg cs)
def xLenS (x : Value) (K : Value → Prop) : Prop := ∃ a n c, x = .slice a n c ∧ K (.int .i64 (n : Nat))
def xLenT (x : Value) (K : Value → Prop) : Prop := ∃ s, x = .string s ∧ K (.int .i64 (s.size : Nat))
def xMax (x y : Value) (K : Value → Prop) : Prop := ∃ k a k' b, x = .int k a ∧ y = .int k' b ∧ K (.int k (if b > a then b else a))
def xMin (x y : Value) (K : Value → Prop) : Prop := ∃ k a k' b, x = .int k a ∧ y = .int k' b ∧ K (.int k (if b < a then b else a))
/-- Whatever else leaves memory alone. -/
def xR (P : Program) (w : World) (s : Sem Value) (K : Value → Prop) : Prop := ∃ v, (∀ w', Ext w w' → s.run P w' = .ok v w') ∧ K v

/-! ### What writes, makes memory or calls -/
def xNew (cs : Array Value) (e : TypeId) (w : World) (K : Value → World → Prop) : Prop := K (.pointer (some ⟨w.heap.size, 0, none⟩)) (w.alloc (.cells cs e))
def isCell : Value → Bool
  | .agg _ | .tuple _ => false
  | _ => true
def xSt (w : World) (a v : Value) (K : World → Prop) : Prop := ∃ ad old, a = .pointer (some ad) ∧ w.cell? ad = some old ∧ w.frozen? ad = false ∧ isCell v = true ∧ K (w.setCell ad v)
def xStA (P : Program) (w : World) (n : Nat) (a v : Value) (K : World → Prop) : Prop :=
  ∃ ad w', a = .pointer (some ad) ∧ v.cells.size = n ∧ (storeCells ad v.cells.toList).run P w = .ok () w' ∧ K w'
def xMk (e : TypeId) (z : Array Value) (sz bytes : Nat) (l c : Value) (w : World) (K : Value → World → Prop) : Prop :=
  ∃ k k' ln cn, l = .int k (ln : Nat) ∧ c = .int k' (cn : Nat) ∧ ln ≤ cn ∧ (cn : Int) ≤ 9223372036854775807 ∧ (bytes : Int) * cn ≤ 2 ^ 48 ∧
    K (.slice (some ⟨w.heap.size, 0, none⟩) ln cn) (w.alloc (.cells ((Array.range (cn * sz)).map (fun i => z[i % z.size]!)) e))
def xBs (e : TypeId) (z : Array Value) (sz n : Nat) (ps : List (Nat × Value)) (w : World) (K : Value → World → Prop) : Prop :=
  ∃ cs, Instr.fill (fun i => some (i * sz, sz)) ((Array.range (n * sz)).map (fun i => z[i % z.size]!)) ps = some cs ∧
    K (.slice (some ⟨w.heap.size, 0, none⟩) n n) (w.alloc (.cells cs e))
def xOp (P : Program) (s : Sem Value) (w : World) (K : Value → World → Prop) : Prop := ∃ v w', s.run P w = .ok v w' ∧ K v w'
def xOpU (P : Program) (s : Sem Unit) (w : World) (K : World → Prop) : Prop := ∃ w', s.run P w = .ok () w' ∧ K w'
def HasB (P : Program) (f : FuncId) : Prop := ∃ fn, P.funcs[f]? = some fn ∧ (fn.name == "runtime.NumGoroutine") = false ∧ fn.body.isNone = false
/-- A call that returns. -/
def Cal (P : Program) (f : FuncId) (args : Array Value) (w : World) (R : Value → World → Prop) : Prop :=
  HasB P f ∧ Calls P f args w fun e w' => ∃ v, e = .returned v ∧ R v w'
def callT (P : Program) (fv : Value) (args : List Value) (w : World) (T : Value → World → Prop) : Prop :=
  (∃ f first cap, fv = .func (.func f) first cap ∧ Cal P f (first ++ args.toArray ++ cap) w T) ∨
  ∃ f first cap v, fv = .func (.func f) first cap ∧ (callFunc f (first ++ args.toArray ++ cap)).run P w = .ok (.value v) w ∧ T v w
def callV (P : Program) (fv : Value) (args : List Value) (w : World) (R : Value → World → Prop) : Prop := ∃ T, callT P fv args w T ∧ ∀ v w', T v w' → R v w'
def callQ (P : Program) (fv : Value) (args : List Value) (w : World) (K : Value → Prop) : Prop :=
  ∃ v, (∀ w', Ext w w' → callV P fv args w' fun v' w'' => v' = v ∧ Ext w' w'') ∧ K v
theorem Cal.mono {P : Program} {f : FuncId} {args : Array Value} {w : World} {R R' : Value → World → Prop} (h : Cal P f args w R) (hr : ∀ v w', R v w' → R' v w') : Cal P f args w R' :=
  ⟨h.1, h.2.mono fun _ _ ⟨v, he, hR⟩ => ⟨v, he, hr _ _ hR⟩⟩

/-! ### Control -/
def cnd (v : Value) (A B : Prop) : Prop := ∃ b, v = .bool b ∧ (b = true → A) ∧ (b = false → B)
def gx : List Value → Nat → Value
  | [], _ => undef
  | x :: _, 0 => x
  | _ :: r, i + 1 => gx r i
theorem gx_eq : ∀ (xs : List Value) (i : Nat), gx xs i = xs.getD i undef
  | [], _ => rfl
  | _ :: _, 0 => rfl
  | _ :: r, i + 1 => by simpa [gx] using gx_eq r i
def jn (F : (List Value → World → Prop) → Prop) (K : List Value → World → Prop) : Prop := F K
def lp (body : (List Value → World → Prop) → List Value → World → Prop) (xs0 : List Value) (w0 : World) : Prop :=
  ∃ I : Nat → List Value → World → Prop, (∃ m, I m xs0 w0) ∧ ∀ m xs w, I m xs w → body (fun xs' w' => ∃ m', m' < m ∧ I m' xs' w') xs w

/-! ### One operation -/
def isAgg? (P : Program) (t : TypeId) : Option Bool :=
  match P.underlying t with
  | some (.struct _) => some true
  | some (.array _ _) => some true
  | some _ => some false
  | none => none
def intD (op : BinOp) (k : IntKind) (x y : Value) (K : Value → Prop) : Prop :=
  match op with
  | .add => xAdd k x y K
  | .sub => xSub k x y K
  | .mul => xMul k x y K
  | .quo => xQuo k x y K
  | .rem => xRem k x y K
  | .and => xBits iAnd k x y K
  | .or => xBits iOr k x y K
  | .xor => xBits iXor k x y K
  | .andNot => xBits iAndNot k x y K
  | .shl => xSh iShl k x y K
  | .shr => xSh iShr k x y K
  | .eql => xEq k x y K
  | .neq => xNe k x y K
  | .lss => xLt k x y K
  | .leq => xLe k x y K
  | .gtr => xLt k y x K
  | .geq => xLe k y x K
def binD (P : Program) (w : World) (op : BinOp) (t : TypeId) (xo yo : Operand) (x y : Value) (K : Value → Prop) : Prop :=
  match P.underlying t with
  | some (.int k) => intD op k x y K
  | some .bool => (match op with | .eql => xBoolEq true x y K | .neq => xBoolEq false x y K | _ => False)
  | some .string => xStr op x y K
  | some (.slice _) => (match op with | .eql => xNilS true x y K | .neq => xNilS false x y K | _ => False)
  | some _ => xR P w (do eqGuard op t xo yo x y; binOp op t x y) K
  | none => False
def ldD (P : Program) (w : World) (t : TypeId) (x : Value) (K : Value → Prop) : Prop :=
  match isAgg? P t, P.info? t with
  | some true, some i => xLdA w i.size x K
  | some false, _ => xLd w x K
  | _, _ => False
def fldD (P : Program) (s : TypeId) (f : Nat) (K : Nat → Nat → Bool → Prop) : Prop :=
  match P.underlying s with
  | some (.struct fs) => (match fs[f]? with
    | some fl => (match P.info? fl.type, isAgg? P fl.type with
      | some i, some g => if Nat.beq i.size 0 then False else K fl.offset i.size g
      | _, _ => False)
    | none => False)
  | _ => False
def elemD (P : Program) (t : TypeId) (S A : Nat → Nat → Prop) (T : Prop) : Prop :=
  match P.underlying t with
  | some (.slice e) => (match P.info? e with | some i => S i.size i.bytes | none => False)
  | some (.array len e) => (match P.info? e with | some i => A len i.size | none => False)
  | some .string => T
  | _ => False
def placesOf (P : Program) : List Field → Option (List (Nat × Nat))
  | [] => some []
  | f :: r => match P.info? f.type, placesOf P r with
    | some i, some l => some ((f.offset, i.size) :: l)
    | _, _ => none
def partsOf (env : Env) (ps : Array (Nat × Operand)) : List (Nat × Value) := ps.toList.map fun p => (p.1, ev env p.2)
def evs (env : Env) (l : Array Operand) : List Value := l.toList.map (ev env)

/-- The operations that leave memory alone. -/
def isSoft (o : Oper) : Bool :=
  match o.op with
  | .move _ | .assign _ | .pick .. | .load .. | .nilCheck _ | .binOp .. | .unOp .. | .convert .. | .makeFunc .. | .slice .. | .fieldAddr .. | .field .. | .indexAddr .. | .index .. | .extract .. | .build .. | .lookup .. => true
  | .call c => (match c.callee with | .builtin .len | .builtin .cap | .builtin .max | .builtin .min => true | _ => false)
  | _ => false
def softD (P : Program) (o : Oper) (env : Env) (w : World) (K : Value → Option (Option Bool) → Prop) : Prop :=
  match o.op with
  | .move x => K (ev env x) (evk env x)
  | .assign x => K (ev env x) (evk env x)
  | .pick c a b => (match evk env c with
    | some (some t) => K (ev env (bif t then a else b)) (evk env (bif t then a else b))
    | some none => False
    | none => xPick (ev env c) (ev env a) (ev env b) fun v => K v none)
  | .load t a => ldD P w t (ev env a) fun v => K v none
  | .nilCheck x => xNil (ev env x) fun v => K v none
  | .binOp op t x y _ => binD P w op t x y (ev env x) (ev env y) fun v => K v none
  | .unOp op _ x => (match op with
    | .not => (match evk env x with | some (some b) => K (.bool !b) (some (some !b)) | some none => False | none => xNot (ev env x) fun v => K v none)
    | .neg => xR P w (Op.unary .neg (ev env x)) fun v => K v none
    | .xor => xR P w (Op.unary .xor (ev env x)) fun v => K v none
    | .plus => False)
  | .convert s d x => (match P.underlying s, P.underlying d with
    | some (.int _), some (.int k) => xConv k (ev env x) fun v => K v none
    | _, _ => xR P w (convert s d (ev env x)) fun v => K v none)
  | .makeFunc fn first cap => K (.func fn (evs env first).toArray (evs env cap).toArray) none
  | .slice t x lo hi mx => (match mx with
    | none => elemD P t (fun sz _ => xSl sz (ev env x) (oev env lo) (oev env hi) fun v => K v none) (fun _ _ => xR P w (Instr.sliceAt t (ev env x) (oev env lo) (oev env hi) none) fun v => K v none) (xSlS (ev env x) (oev env lo) (oev env hi) fun v => K v none)
    | some _ => xR P w (Instr.sliceAt t (ev env x) (oev env lo) (oev env hi) (oev env mx)) fun v => K v none)
  | .fieldAddr s x f => fldD P s f fun off _ _ => xFa off (ev env x) fun v => K v none
  | .field s x f => fldD P s f fun off n g => bif g then xFdA off n (ev env x) fun v => K v none else xFd off (ev env x) fun v => K v none
  | .indexAddr t x i => elemD P t (fun sz _ => xIa sz (ev env x) (ev env i) fun v => K v none) (fun len sz => xIaA len sz (ev env x) (ev env i) fun v => K v none) False
  | .index t x i => elemD P t (fun _ _ => False) (fun _ _ => xR P w (Instr.index t (ev env x) (ev env i)) fun v => K v none) (xIs (ev env x) (ev env i) fun v => K v none)
  | .extract x i => xEx (ev env x) i fun v => K v none
  | .build t ps => (match P.underlying t, P.info? t with
    | some (.struct fs), some ti => (match ti.zero, placesOf P fs.toList with
      | some z, some l => xBuild z.cells l.toArray (partsOf env ps) fun v => K v none
      | _, _ => False)
    | _, _ => xR P w (Instr.build t (partsOf env ps).toArray) fun v => K v none)
  | .lookup t x i ok => xR P w (Instr.lookup t (ev env x) (ev env i) ok) fun v => K v none
  | .call c => (match c.callee with
    | .builtin .len => (match (c.argTypes[0]?), evs env c.args with
      | some t, [x] => (match P.underlying t with
        | some (.slice _) => xLenS x fun v => K v none
        | some .string => xLenT x fun v => K v none
        | _ => xR P w (Builtin.len_ c.argTypes o.type #[x]) fun v => K v none)
      | _, _ => False)
    | .builtin .cap => xR P w (Builtin.cap_ c.argTypes o.type (evs env c.args).toArray) fun v => K v none
    | .builtin .max => (match evs env c.args with
      | [x, y] => xMax x y fun v => K v none
      | _ => xR P w (Builtin.max_ c.argTypes o.type (evs env c.args).toArray) fun v => K v none)
    | .builtin .min => (match evs env c.args with
      | [x, y] => xMin x y fun v => K v none
      | _ => xR P w (Builtin.min_ c.argTypes o.type (evs env c.args).toArray) fun v => K v none)
    | _ => False)
  | _ => False

def hardD (P : Program) (o : Oper) (env : Env) (w : World) (K : Value → World → Prop) : Prop :=
  match o.op with
  | .box e x => (match P.info? e with | some _ => xNew (ev env x).cells e w K | none => False)
  | .alloc e => (match P.info? e with | some i => (match i.zero with | some z => xNew z.cells e w K | none => False) | none => False)
  | .store t a v => (match isAgg? P t, P.info? t with
    | some false, some i => if Nat.beq i.size 1 then xSt w (ev env a) (ev env v) (K undef) else False
    | some true, some i => xStA P w i.size (ev env a) (ev env v) (K undef)
    | _, _ => False)
  | .makeSlice t l c => (match P.underlying t with
    | some (.slice e) => (match P.info? e with
      | some i => (match i.zero with
        | some z => xMk e z.cells i.size i.bytes (ev env l) (ev env c) w K
        | none => False)
      | none => False)
    | _ => False)
  | .buildSlice t n ps => (match P.underlying t with
    | some (.slice e) => (match P.info? e with
      | some i => (match i.zero with
        | some z => if Nat.ble (n * i.size) 16777216 then xBs e z.cells i.size n (partsOf env ps) w K else False
        | none => False)
      | none => False)
    | _ => False)
  | .makeMap t r => xOp P (Instr.makeMap t (oev env r)) w K
  | .mapUpdate t m k v => xOpU P (Instr.mapUpdate t (ev env m) (ev env k) (ev env v)) w (K undef)
  | .insert t m k v => xOpU P (Instr.mapUpdate t (ev env m) (ev env k) (ev env v)) w (K undef)
  | .mapEntry t m k => xOp P (Instr.mapEntry t (ev env m) (ev env k)) w K
  | .entryStore t m s v => xOpU P (Instr.entryStore t (ev env m) (ev env s) (ev env v)) w (K undef)
  | .range t x => xOp P (Instr.range t (ev env x)) w K
  | .next it s => xOp P (Instr.next (ev env it) s o.type) w K
  | .entry it => xOp P (Instr.entry (ev env it)) w K
  | .convert s d x => xOp P (convert s d (ev env x)) w K
  | .call c => (match c.callee with
    | .value f => callV P (ev env f) (evs env c.args) w K
    | .builtin .append => xOp P (Builtin.append_ c.argTypes o.type (evs env c.args).toArray) w K
    | .builtin .copy => xOp P (Builtin.copy_ c.argTypes o.type (evs env c.args).toArray) w K
    | .builtin .delete => xOp P (Builtin.delete_ c.argTypes o.type (evs env c.args).toArray) w K
    | .builtin .clear => xOp P (Builtin.clear_ c.argTypes o.type (evs env c.args).toArray) w K
    | .builtin .unsafeSliceData => xOp P (Builtin.unsafeSliceData_ c.argTypes o.type (evs env c.args).toArray) w K
    | .builtin .unsafeString => xOp P (Builtin.unsafeString_ c.argTypes o.type (evs env c.args).toArray) w K
    | _ => False)
  | _ => False
/-- Convert to a slice makes memory: a hard operation. -/
def isSoftIn (P : Program) (o : Oper) : Bool :=
  match o.op with
  | .convert _ d _ => (match P.underlying d with | some (.slice _) => false | _ => true)
  | _ => isSoft o

end Go.Vc

/- The compiler of Vc is sound: one operation. Conditions: none. -/
namespace Go.Vc

theorem evs_eq {a : Act} {env : Env} (he : a.eval = ev env) (l : Array Operand) : (evs env l).toArray = l.map a.eval := by
  rw [he]; apply Array.ext' ; simp [evs]
theorem partsOf_eq {a : Act} {env : Env} (he : a.eval = ev env) (ps : Array (Nat × Operand)) : (partsOf env ps).toArray = ps.map fun (i, x) => (i, a.eval x) := by
  rw [he]; apply Array.ext'; simp [partsOf]
theorem oev_eq {a : Act} {env : Env} (he : a.eval = ev env) (x : Option Operand) : oev env x = x.map a.eval := by
  rw [he]; cases x <;> rfl

/-- In every world beyond 'w' the thing yields v and leaves the world. -/
def Yes (P : Program) (w : World) (s : Sem Value) (v : Value) : Prop := ∀ w', Ext w w' → s.run P w' = .ok v w'

section
variable {P : Program} {w : World} {K : Value → Prop}

theorem run_und {t : TypeId} {d : TypeDesc} (h : P.underlying t = some d) (w : World) : (underlying t).run P w = .ok d w := by simp [underlying, h]
theorem run_info {t : TypeId} {i : TypeInfo} (h : P.info? t = some i) (w : World) : (typeInfo t).run P w = .ok i w := by simp [typeInfo, h]
theorem run_size {t : TypeId} {i : TypeInfo} (h : P.info? t = some i) (w : World) : (sizeOf t).run P w = .ok i.size w := by simp [sizeOf, run_info h]

theorem isAgg_run {t : TypeId} {b : Bool} (h : isAgg? P t = some b) (w : World) : (isAgg t).run P w = .ok b w := by
  unfold isAgg? at h
  cases hu : P.underlying t with
  | none => simp [hu] at h
  | some d => cases d <;> simp [hu] at h <;> subst h <;> simp [isAgg, run_und hu]

theorem loadCellsFrom_run {w : World} {ad : Addr} {cs : Array Value} : ∀ (m i : Nat) (acc : Array Value), (∀ j, i ≤ j → j < i + m → w.cell? (ad.add j) = cs[j]?) → i + m ≤ cs.size →
    (loadCellsFrom ad i m acc).run P w = .ok (acc ++ cs.extract i (i + m)) w := by
  intro m
  induction m with
  | zero => intro i acc _ hm; simp [loadCellsFrom]; omega
  | succ m ih =>
    intro i acc h hm
    have h0 : w.cell? (ad.add i) = some cs[i] := by rw [h i (Nat.le_refl _) (by omega)]; simp
    simp only [loadCellsFrom, Sem.run_bind, run_load, h0, Result.andThen_ok]
    rw [ih (i + 1) _ (fun j h1 h2 => h j (by omega) (by omega)) (by omega)]
    congr 1
    apply Array.ext
    · simp; omega
    · intro k h1 h2
      simp only [Array.getElem_append, Array.size_push, Array.getElem_push, Array.getElem_extract]
      by_cases hk : k < acc.size
      · simp [hk, Nat.lt_succ_of_lt hk]
      · by_cases hk2 : k = acc.size
        · subst hk2; simp
        · have : ¬ k < acc.size + 1 := by omega
          simp only [this, hk, dif_neg, not_false_eq_true]
          congr 1; omega

theorem ext_cells {w w' : World} (h : Ext w w') {ad : Addr} {cs : Array Value} {n : Nat} (hn : cs.size = n) (hc : ∀ i, i < n → w.cell? (ad.add i) = cs[i]?) : ∀ i, i < n → w'.cell? (ad.add i) = cs[i]? := by
  intro i hi
  have h1 : w.cell? (ad.add i) = some cs[i] := by rw [hc i hi]; simp
  rw [h.cell h1]; simp

theorem ldD_ok {t : TypeId} {x : Value} (h : ldD P w t x K) : ∃ v, Yes P w (Instr.loadAt t x) v ∧ K v := by
  unfold ldD at h
  split at h
  · rename_i i hg hi
    obtain ⟨ad, cs, rfl, hn, hc, hk⟩ := h
    refine ⟨_, fun w' hw' => ?_, hk⟩
    simp only [Instr.loadAt, Instr.sureAddr, loadVar, Sem.run_bind, Sem.run_pure, Result.andThen_ok, isAgg_run hg, if_true, run_size hi, loadCells]
    rw [loadCellsFrom_run (cs := cs) i.size 0 #[] (fun j _ hj => ext_cells hw' hn hc j (by omega)) (by omega)]
    simp [← hn]
  · rename_i hg
    obtain ⟨ad, v, rfl, hc, hk⟩ := h
    refine ⟨v, fun w' hw' => ?_, hk⟩
    simp [Instr.loadAt, Instr.sureAddr, loadVar, isAgg_run hg, hw'.cell hc]
  · exact h.elim

theorem intD_ok {op : BinOp} {k : IntKind} {x y : Value} {t : TypeId} {xo yo : Operand} (h : intD op k x y K) :
    ∃ v, (∀ w, (do eqGuard op t xo yo x y; binOp op t x y : Sem Value).run P w = .ok v w) ∧ K v := by
  cases op
  case shl => obtain ⟨a, yk, b, rfl, rfl, hb, hk⟩ := h; refine ⟨_, fun w => ?_, hk⟩; simp [eqGuard, binOp, Op.shift, show ¬ b < 0 by omega, iShl]
  case shr => obtain ⟨a, yk, b, rfl, rfl, hb, hk⟩ := h; refine ⟨_, fun w => ?_, hk⟩; simp [eqGuard, binOp, Op.shift, show ¬ b < 0 by omega, iShr]
  case quo => obtain ⟨a, b, rfl, rfl, hb, hk⟩ := h; refine ⟨_, fun w => ?_, hk⟩; simp [eqGuard, binOp, Op.intDiv, hb]
  case rem => obtain ⟨a, b, rfl, rfl, hb, hk⟩ := h; refine ⟨_, fun w => ?_, hk⟩; simp [eqGuard, binOp, Op.intDiv, hb]
  case and => obtain ⟨a, b, rfl, rfl, hk⟩ := h; refine ⟨_, fun w => ?_, hk⟩; simp [eqGuard, binOp, Op.intBits, iAnd]
  case or => obtain ⟨a, b, rfl, rfl, hk⟩ := h; refine ⟨_, fun w => ?_, hk⟩; simp [eqGuard, binOp, Op.intBits, iOr]
  case xor => obtain ⟨a, b, rfl, rfl, hk⟩ := h; refine ⟨_, fun w => ?_, hk⟩; simp [eqGuard, binOp, Op.intBits, iXor]
  case andNot => obtain ⟨a, b, rfl, rfl, hk⟩ := h; refine ⟨_, fun w => ?_, hk⟩; simp [eqGuard, binOp, Op.intBits, iAndNot]
  case eql => obtain ⟨a, b, rfl, rfl, hk⟩ := h; refine ⟨_, fun w => ?_, hk⟩; simp [eqGuard, binOp, Op.intCmp]; by_cases hab : a = b <;> simp [hab]
  case neq => obtain ⟨a, b, rfl, rfl, hk⟩ := h; refine ⟨_, fun w => ?_, hk⟩; simp [eqGuard, binOp, Op.intCmp]; by_cases hab : a = b <;> simp [hab]
  all_goals (obtain ⟨a, b, rfl, rfl, hk⟩ := h; refine ⟨_, fun w => ?_, hk⟩; simp [eqGuard, binOp, Op.intArith, Op.intCmp])

theorem equalIn_bool {t : TypeId} (hu : P.underlying t = some .bool) (d : Nat) (a b : Bool) (w : World) : (Op.equalIn (d + 1) t (.bool a) (.bool b)).run P w = .ok (a == b) w := by
  simp [Op.equalIn, run_und hu]
theorem equalIn_nilS {t e : TypeId} (hu : P.underlying t = some (.slice e)) (d : Nat) (a : Option Addr) (n c : Nat) (w : World) : (Op.equalIn (d + 1) t (.slice a n c) (.slice none 0 0)).run P w = .ok (isNilS (.slice a n c)) w := by
  cases a <;> simp [Op.equalIn, run_und hu, isNilS]
theorem equal_bool {t : TypeId} (hu : P.underlying t = some .bool) (a b : Bool) (w : World) : (Op.equal t (.bool a) (.bool b)).run P w = .ok (a == b) w := equalIn_bool hu 9999 a b w
theorem equal_nilS {t e : TypeId} (hu : P.underlying t = some (.slice e)) (a : Option Addr) (n c : Nat) (w : World) : (Op.equal t (.slice a n c) (.slice none 0 0)).run P w = .ok (isNilS (.slice a n c)) w := equalIn_nilS hu 9999 a n c w
theorem binOp_str (op : BinOp) (t : TypeId) (a b : ByteArray) : binOp op t (.string a) (.string b) = Op.stringOp op a b := by cases op <;> rfl
theorem eqGuard_str (op : BinOp) (t : TypeId) (xo yo : Operand) (a b : ByteArray) (w : World) : (eqGuard op t xo yo (.string a) (.string b)).run P w = .ok () w := by
  cases op <;> simp [eqGuard]
theorem eqGuard_bool (op : BinOp) (t : TypeId) (xo yo : Operand) (a b : Bool) (w : World) : (eqGuard op t xo yo (.bool a) (.bool b)).run P w = .ok () w := by
  cases op <;> simp [eqGuard]
theorem eqGuard_sl (op : BinOp) (t : TypeId) (xo yo : Operand) (a b : Option Addr) (n c m d : Nat) (w : World) : (eqGuard op t xo yo (.slice a n c) (.slice b m d)).run P w = .ok () w := by
  cases op <;> simp [eqGuard]
theorem binOp_eql_bool (t : TypeId) (a b : Bool) : binOp .eql t (.bool a) (.bool b) = (do pure (.bool (← Op.equal t (.bool a) (.bool b)))) := rfl
theorem binOp_neq_bool (t : TypeId) (a b : Bool) : binOp .neq t (.bool a) (.bool b) = (do pure (.bool (!(← Op.equal t (.bool a) (.bool b))))) := rfl
theorem binOp_eql_sl (t : TypeId) (a b : Option Addr) (n c m d : Nat) : binOp .eql t (.slice a n c) (.slice b m d) = (do pure (.bool (← Op.equal t (.slice a n c) (.slice b m d)))) := rfl
theorem binOp_neq_sl (t : TypeId) (a b : Option Addr) (n c m d : Nat) : binOp .neq t (.slice a n c) (.slice b m d) = (do pure (.bool (!(← Op.equal t (.slice a n c) (.slice b m d))))) := rfl

theorem binD_ok {op : BinOp} {x y : Value} {t : TypeId} {xo yo : Operand} (h : binD P w op t xo yo x y K) :
    ∃ v, Yes P w (do eqGuard op t xo yo x y; binOp op t x y) v ∧ K v := by
  unfold binD at h
  split at h
  · obtain ⟨v, h1, h2⟩ := intD_ok h; exact ⟨v, fun w' _ => h1 w', h2⟩
  · rename_i hu
    split at h
    · obtain ⟨a, b, rfl, rfl, hk⟩ := h; refine ⟨_, fun w' _ => ?_, hk⟩
      rw [binOp_eql_bool]
      simp only [Sem.run_bind, Sem.run_pure, Result.andThen_ok, eqGuard_bool, equal_bool hu]
      simp
    · obtain ⟨a, b, rfl, rfl, hk⟩ := h; refine ⟨_, fun w' _ => ?_, hk⟩
      rw [binOp_neq_bool]
      simp only [Sem.run_bind, Sem.run_pure, Result.andThen_ok, eqGuard_bool, equal_bool hu]
      simp
    · exact h.elim
  · rename_i hu
    obtain ⟨a, b, v, rfl, rfl, hv, hk⟩ := h
    refine ⟨v, fun w' _ => ?_, hk⟩
    rw [binOp_str, hv]
    simp only [Sem.run_bind, Sem.run_pure', Result.andThen_ok, eqGuard_str]
  · rename_i e hu
    split at h
    · obtain ⟨hx, rfl, hk⟩ := h; refine ⟨_, fun w' _ => ?_, hk⟩
      cases x <;> simp only [isSl] at hx
      rw [binOp_eql_sl]
      simp only [Sem.run_bind, Sem.run_pure, Result.andThen_ok, eqGuard_sl, equal_nilS hu]
      simp
    · obtain ⟨hx, rfl, hk⟩ := h; refine ⟨_, fun w' _ => ?_, hk⟩
      cases x <;> simp only [isSl] at hx
      rw [binOp_neq_sl]
      simp only [Sem.run_bind, Sem.run_pure, Result.andThen_ok, eqGuard_sl, equal_nilS hu]
      simp
    · exact h.elim
  · obtain ⟨v, hv, hk⟩ := h; exact ⟨v, hv, hk⟩
  · exact h.elim

theorem fldD_ok {s : TypeId} {f : Nat} {K : Nat → Nat → Bool → Prop} (h : fldD P s f K) : ∃ fs fl i g, P.underlying s = some (.struct fs) ∧ fs[f]? = some fl ∧ P.info? fl.type = some i ∧ isAgg? P fl.type = some g ∧ i.size ≠ 0 ∧ K fl.offset i.size g := by
  unfold fldD at h
  split at h
  · rename_i fs hu
    split at h
    · rename_i fl hf
      split at h
      · rename_i i g hi hg
        split at h
        · exact h.elim
        · rename_i h0
          exact ⟨fs, fl, i, g, hu, hf, hi, hg, fun e => h0 (by simp [e]), h⟩
      · exact h.elim
    · exact h.elim
  · exact h.elim

theorem bnd_run {d r : Nat} {o : Option Value} (h : bnd d r o) : (o = none ∧ r = d) ∨ ∃ k, o = some (.int k (r : Int)) := by
  cases o with
  | none => exact .inl ⟨rfl, h⟩
  | some v => obtain ⟨k, rfl⟩ := h; exact .inr ⟨k, rfl⟩

theorem sliceBounds_run {n c l h : Nat} {lo hi : Option Value} (isS : Bool) (h1 : bnd n h hi) (h2 : bnd 0 l lo) (h3 : l ≤ h) (h4 : h ≤ c) (w : World) :
    (Instr.sliceBounds isS n c lo hi none).run P w = .ok (l, h, c) w := by
  unfold Instr.sliceBounds
  rcases bnd_run h1 with ⟨rfl, rfl⟩ | ⟨k, rfl⟩ <;> rcases bnd_run h2 with ⟨rfl, rfl⟩ | ⟨k', rfl⟩ <;>
    simp [Instr.sliceBound, asIntOf, h3, h4]

theorem placesOf_run : ∀ (l : List Field) {r : List (Nat × Nat)}, placesOf P l = some r → ∀ w, (l.mapM (m := Sem) fun f => do pure (f.offset, ← sizeOf f.type)).run P w = .ok r w
  | [], r, h, w => by simp [placesOf] at h; subst h; simp
  | f :: l, r, h, w => by
    unfold placesOf at h
    split at h
    · rename_i i r' hi hr
      cases h
      have ih := placesOf_run l hr w
      simp only [bind_pure_comp] at ih
      simp [List.mapM_cons, run_size hi, ih]
    · cases h

/-- An operation that leaves memory alone. -/
theorem soft_ok {o : Oper} {env : Env} {a : Act} {K : Value → Option (Option Bool) → Prop} (he : a.eval = ev env) (hk : EnvOk env) (hs : isSoftIn P o = true) (h : softD P o env w K) :
    ∃ v kb, (∀ w', Ext w w' → (execOp a.eval o).run P w' = .ok (.value v) w') ∧ K v kb ∧ (∀ b, kb = some b → v = kv b) := by
  have evb : ∀ x b, evk env x = some b → ev env x = kv b := by
    intro x b hx
    cases x with
    | tmp t => exact hk t b hx
    | const v => cases v <;> simp [evk] at hx; subst hx; rfl
    | _ => simp [evk] at hx
  -- a step that yields by a reckoning of its own
  have fin : ∀ (s : Sem Value), execOp a.eval o = (do pure (.value (← s))) → (∃ v, Yes P w s v ∧ K v none) → ∃ v kb, (∀ w', Ext w w' → (execOp a.eval o).run P w' = .ok (.value v) w') ∧ K v kb ∧ (∀ b, kb = some b → v = kv b) := by
    intro s hs ⟨v, hv, hK⟩
    exact ⟨v, none, fun w' hw' => by rw [hs]; simp [hv w' hw'], hK, fun b hb => by cases hb⟩
  obtain ⟨dst, op, type, pos, after, guard⟩ := o
  cases op <;> (try (simp [isSoftIn, isSoft] at hs; done))
  case move x => exact ⟨_, _, fun w' _ => by simp [execOp, he], h, fun b hb => evb x b hb⟩
  case assign x => exact ⟨_, _, fun w' _ => by simp [execOp, he], h, fun b hb => evb x b hb⟩
  case pick c x y =>
    simp only [softD] at h
    split at h
    · rename_i t ht
      refine ⟨_, _, fun w' _ => ?_, h, fun b hb => ?_⟩
      · simp only [execOp, he, evb c (some t) ht, kv]; cases t <;> simp [asBool]
      · exact evb _ b hb
    · exact h.elim
    · obtain ⟨t, ht, hK⟩ := h
      refine ⟨_, none, fun w' _ => ?_, hK, fun b hb => by cases hb⟩
      simp only [execOp, he, ht]; cases t <;> simp [asBool]
  case load t x => exact fin _ (by simp only [execOp]; rfl) (by rw [he]; exact ldD_ok h)
  case nilCheck x =>
    obtain ⟨hx, hK⟩ := h
    refine ⟨_, none, fun w' _ => ?_, hK, fun b hb => by cases hb⟩
    simp only [execOp, he]
    generalize ev env x = v at *
    unfold okNil at hx
    split at hx <;> first | exact hx.elim | simp
  case binOp op t x y yt => exact fin _ (by simp only [execOp]; rfl) (by rw [he]; exact binD_ok h)
  case unOp op t x =>
    simp only [softD] at h
    cases op <;> simp only [] at h
    · exact fin _ (by simp only [execOp]; rfl) (by rw [he]; exact h)
    · exact fin _ (by simp only [execOp]; rfl) (by rw [he]; exact h)
    · split at h
      · rename_i b hb
        exact ⟨_, _, fun w' _ => by simp [execOp, he, evb x (some b) hb, Op.unary, kv], h, fun b' hb' => by cases hb'; rfl⟩
      · exact h.elim
      · obtain ⟨b, hb, hK⟩ := h
        exact ⟨_, _, fun w' _ => by simp [execOp, he, hb, Op.unary], hK, fun b' hb' => by cases hb'⟩
  case convert s d x =>
    simp only [softD] at h
    split at h
    · rename_i k0 k hs hd
      obtain ⟨k', n, hx, hK⟩ := h
      refine fin _ (by simp only [execOp]; rfl) ⟨_, fun w' _ => ?_, hK⟩
      simp [he, hx, convert, run_und hs, run_und hd, Conv.intToInt]
    · exact fin _ (by simp only [execOp]; rfl) (by rw [he]; exact h)
  case makeFunc fn first cap =>
    refine ⟨_, _, fun w' _ => ?_, h, fun b hb => by cases hb⟩
    simp [execOp, Instr.makeFunc, evs_eq he]
  case slice t x lo hi' mx =>
    simp only [softD] at h
    refine fin _ (by simp only [execOp]; rfl) ?_
    rw [← oev_eq he, ← oev_eq he, ← oev_eq he, he]
    cases mx with
    | some m => exact h
    | none =>
      simp only [elemD] at h
      split at h
      · rename_i e hu
        split at h
        · rename_i i hi
          obtain ⟨ad, n, c, l, hh, hx, h1, h2, h3, h4, hK⟩ := h
          refine ⟨_, fun w' _ => ?_, hK⟩
          rw [hx, show oev env none = none from rfl]
          generalize oev env lo = lo' at *
          generalize oev env hi' = hi2 at *
          simp [Instr.sliceAt, Instr.slice, run_und hu, sliceBounds_run true h1 h2 h3 h4, run_size hi]
        · exact h.elim
      · rename_i len e hu
        split at h
        · exact h
        · exact h.elim
      · rename_i hu
        obtain ⟨s, l, hh, hx, h1, h2, h3, h4, hK⟩ := h
        refine ⟨_, fun w' _ => ?_, hK⟩
        rw [hx, show oev env none = none from rfl]
        generalize oev env lo = lo' at *
        generalize oev env hi' = hi2 at *
        simp [Instr.sliceAt, Instr.slice, run_und hu, sliceBounds_run false h1 h2 h3 h4]
      · exact h.elim
  case fieldAddr s x f =>
    simp only [softD] at h
    obtain ⟨fs, fl, i, g, hu, hf, hi, hg, h0, ad, hx, hK⟩ := fldD_ok h
    refine fin _ (by simp only [execOp]; rfl) ⟨_, fun w' _ => ?_, hK⟩
    simp [he, hx, Instr.fieldAt, run_und hu, hf, Instr.sureAddr, fieldPlace, run_size hi, h0]
  case field s x f =>
    simp only [softD] at h
    obtain ⟨fs, fl, i, g, hu, hf, hi, hg, h0, hc⟩ := fldD_ok h
    refine fin _ (by simp only [execOp]; rfl) ?_
    cases g
    · obtain ⟨cs, v, hx, hv, hK⟩ := hc
      refine ⟨_, fun w' _ => ?_, hK⟩
      simp [he, hx, Instr.field, run_und hu, hf, asAgg, part, isAgg_run hg, hv]
    · obtain ⟨cs, hx, hK⟩ := hc
      refine ⟨_, fun w' _ => ?_, hK⟩
      simp [he, hx, Instr.field, run_und hu, hf, asAgg, part, isAgg_run hg, run_size hi]
  case indexAddr t x i =>
    simp only [softD, elemD] at h
    refine fin _ (by simp only [execOp]; rfl) ?_
    rw [he]
    split at h
    · rename_i e hu
      split at h
      · rename_i ti hi
        obtain ⟨ad, n, c, k, j, hx, hj, h1, h2, hK⟩ := h
        refine ⟨_, fun w' _ => ?_, hK⟩
        rw [hx, hj]
        simp [Instr.indexAt, run_und hu, asIntOf, run_size hi, h1, h2]
      · exact h.elim
    · rename_i len e hu
      split at h
      · rename_i ti hi
        obtain ⟨ad, k, j, hx, hj, h1, h2, hK⟩ := h
        refine ⟨_, fun w' _ => ?_, hK⟩
        rw [hx, hj]
        simp [Instr.indexAt, run_und hu, asIntOf, Instr.sureAddr, run_size hi, h1, h2]
      · exact h.elim
    · exact h.elim
    · exact h.elim
  case index t x i =>
    simp only [softD, elemD] at h
    refine fin _ (by simp only [execOp]; rfl) ?_
    rw [he]
    split at h
    · split at h <;> exact h.elim
    · split at h
      · exact h
      · exact h.elim
    · rename_i hu
      obtain ⟨s, k, j, b, hx, hj, h1, h2, hK⟩ := h
      refine ⟨_, fun w' _ => ?_, hK⟩
      rw [hx, hj]
      simp [Instr.index, run_und hu, asIntOf, h1, h2]
    · exact h.elim
  case extract x i =>
    obtain ⟨vs, v, hx, hv, hK⟩ := h
    refine fin _ (by simp only [execOp]; rfl) ⟨_, fun w' _ => ?_, hK⟩
    simp [he, hx, Instr.extract, hv]
  case build t ps =>
    simp only [softD] at h
    refine fin _ (by simp only [execOp]; rfl) ?_
    rw [← partsOf_eq he]
    split at h
    · rename_i fs ti hu hi
      split at h
      · rename_i z l hz hl
        obtain ⟨cs, hcs, hK⟩ := h
        refine ⟨_, fun w' _ => ?_, hK⟩
        have hp := placesOf_run fs.toList hl w'
        have hm : (fs.mapM (m := Sem) fun f => do pure (f.offset, ← sizeOf f.type)).run P w' = .ok l.toArray w' := by
          rw [← Array.toArray_toList (xs := fs)]
          rw [List.mapM_toArray]
          simp only [Sem.run_map, hp, Result.andThen_ok]
        simp only [bind_pure_comp] at hm
        simp [Instr.build, zeroValue, run_info hi, hz, run_und hu, hm]
        simp only [List.getElem?_toArray] at hcs
        simp [hcs]
      · exact h.elim
    · exact h
  case lookup t x i ok => exact fin _ (by simp only [execOp]; rfl) (by rw [he]; exact h)
  case call c =>
    obtain ⟨callee, args, argTypes⟩ := c
    cases callee <;> (try (simp [isSoftIn, isSoft] at hs; done))
    rename_i b
    have ex : ∀ s, (∀ cs, builtin b argTypes type cs (args.map a.eval) = (do pure (.value (← s)))) → execOp a.eval ⟨dst, .call ⟨.builtin b, args, argTypes⟩, type, pos, after, guard⟩ = (do pure (.value (← s))) := by
      intro s hs
      simp only [execOp, resolve]
      exact hs _
    cases b <;> (try (simp [isSoftIn, isSoft] at hs; done))
    all_goals (simp only [softD] at h; refine fin _ (ex _ fun _ => rfl) ?_; rw [← evs_eq he])
    · exact h
    · split at h
      · rename_i t x ht hx
        rw [hx]
        split at h
        · rename_i e hu
          obtain ⟨ad, n, c, rfl, hK⟩ := h
          refine ⟨_, fun w' _ => ?_, hK⟩
          simp [Builtin.len_, ht, run_und hu, goInt]
        · rename_i hu
          obtain ⟨s, rfl, hK⟩ := h
          refine ⟨_, fun w' _ => ?_, hK⟩
          simp [Builtin.len_, ht, run_und hu, goInt]
        · exact h
      · exact h.elim
    · split at h
      · rename_i x y hx
        obtain ⟨k, m, k', n, rfl, rfl, hK⟩ := h
        refine ⟨_, fun w' _ => ?_, hK⟩
        simp [hx, Builtin.max_, Builtin.max2]
      · exact h
    · split at h
      · rename_i x y hx
        obtain ⟨k, m, k', n, rfl, rfl, hK⟩ := h
        refine ⟨_, fun w' _ => ?_, hK⟩
        simp [hx, Builtin.min_, Builtin.min2]
      · exact h

end
end Go.Vc

/- The compiler of Vc is sound: one operation that writes, makes memory or calls. Conditions: none. -/
namespace Go.Vc
section
variable {P : Program} {w : World}

theorem isCell_one {v : Value} (h : isCell v = true) : v.oneCell' = true := by cases v <;> first | rfl | (simp [isCell] at h)
theorem isCell_cells {v : Value} (h : isCell v = true) : v.cells = #[v] := by cases v <;> first | rfl | (simp [isCell] at h)

theorem callFunc_run {f : FuncId} {args : Array Value} (h : HasB P f) (w : World) : (callFunc f args).run P w = .ok (.enter f args) w := by
  obtain ⟨fn, hf, hn, hb⟩ := h
  have hn' : ¬ fn.name = "runtime.NumGoroutine" := by simpa using hn
  have hb' : ¬ fn.body = none := by intro e; simp [e] at hb
  simp [callFunc, hf, hn', hb']

theorem invoke_run {fv : Value} {args : List Value} {f : FuncId} {first cap : Array Value} (hv : fv = .func (.func f) first cap) (h : HasB P f) (w : World) :
    (do let d ← Deferred.ofValue fv args.toArray; invoke d.target d.args : Sem Next).run P w = .ok (.enter f (first ++ args.toArray ++ cap)) w := by
  subst hv
  simp [Deferred.ofValue, invoke, callFunc_run h]

theorem invoke_runX {fv : Value} {args : List Value} {f : FuncId} {first cap : Array Value} (hv : fv = .func (.func f) first cap) (w : World) :
    (do let d ← Deferred.ofValue fv args.toArray; invoke d.target d.args : Sem Next).run P w = (callFunc f (first ++ args.toArray ++ cap)).run P w := by
  subst hv
  simp [Deferred.ofValue, invoke]

/-- The next state of a walk behind one operation. -/
def Nx (o : Oper) (a : Act) (K : Value → World → Prop) : Act → World → Prop := fun a' w' => ∃ v, a' = a.put o.dst v ∧ K v w'

theorem upon_call {o : Oper} {a : Act} {fv : Value} {args : List Value} {K : Value → World → Prop} {Q : Exit → Act → World → Prop}
    (hx : execOp a.eval o = (do let d ← Deferred.ofValue fv args.toArray; invoke d.target d.args)) (h : callV P fv args w K) : o.wp P a w (Nx o a K) Q := by
  unfold Oper.wp
  obtain ⟨T, ⟨f, first, cap, hv, hb, hc⟩ | ⟨f, first, cap, v, hv, hr, hK⟩, hT⟩ := h
  · rw [hx, invoke_run hv hb, Oper.upon_enter]
    refine hc.mono fun e w' ⟨v, he, hK⟩ => ?_
    subst he
    exact ⟨v, rfl, hT _ _ hK⟩
  · rw [hx, invoke_runX hv, hr, Oper.upon_value]
    exact ⟨v, rfl, hT _ _ hK⟩


theorem hard_ok {o : Oper} {env : Env} {a : Act} {K : Value → World → Prop} {Q : Exit → Act → World → Prop} (he : a.eval = ev env) (h : hardD P o env w K) : o.wp P a w (Nx o a K) Q := by
  have finV : ∀ (s : Sem Value), execOp a.eval o = (do pure (.value (← s))) → (∃ v w', s.run P w = .ok v w' ∧ K v w') → o.wp P a w (Nx o a K) Q := by
    intro s hs ⟨v, w', hv, hK⟩
    unfold Oper.wp
    rw [hs]
    simp only [Sem.run_bind, Sem.run_pure, hv, Result.andThen_ok, Oper.upon_value]
    exact ⟨v, rfl, hK⟩
  have finU : ∀ (s : Sem Unit), execOp a.eval o = (do s; pure .skip) → (∃ w', s.run P w = .ok () w' ∧ K undef w') → o.wp P a w (Nx o a K) Q := by
    intro s hs ⟨w', hv, hK⟩
    unfold Oper.wp
    rw [hs]
    simp only [Sem.run_bind, Sem.run_pure, hv, Result.andThen_ok, Oper.upon_skip]
    exact ⟨undef, rfl, hK⟩
  obtain ⟨dst, op, type, pos, after, guard⟩ := o
  cases op <;> first | exact h.elim | skip
  case alloc e =>
    simp only [hardD] at h
    split at h
    · rename_i i hi
      split at h
      · rename_i z hz
        refine finV _ (by simp only [execOp]; rfl) ⟨_, _, ?_, h⟩
        simp [Instr.alloc, zeroValue, run_info hi, hz, newVar, newRow]
      · exact h.elim
    · exact h.elim
  case box e x =>
    simp only [hardD] at h
    split at h
    · refine finV _ (by simp only [execOp]; rfl) ⟨_, _, ?_, h⟩
      simp [Instr.box, newVar, newRow, he]
    · exact h.elim
  case store t x y =>
    simp only [hardD] at h
    refine finU _ (by simp only [execOp]; rfl) ?_
    rw [he]
    split at h
    · rename_i i hg hi
      split at h
      · rename_i h1
        obtain ⟨ad, old, hx, hc, hf, hy, hK⟩ := h
        refine ⟨_, ?_, hK⟩
        have h1' : i.size = 1 := by simpa using h1
        simp [Instr.storeAt, Instr.sureAddr, hx, storeVar, isCell_cells hy, run_size hi, h1', storeCells, run_store P w _ _ _ (isCell_one hy), hc, hf, Addr.add]
      · exact h.elim
    · rename_i i hg hi
      obtain ⟨ad, w', hx, hn, hs, hK⟩ := h
      refine ⟨w', ?_, hK⟩
      simp [Instr.storeAt, Instr.sureAddr, hx, storeVar, run_size hi, hn, hs]
    · exact h.elim
  case makeSlice t l c =>
    simp only [hardD] at h
    split at h
    · rename_i e hu
      split at h
      · rename_i i hi
        split at h
        · rename_i z hz
          obtain ⟨k, k', ln, cn, hl, hc, h1, h2, h3, hK⟩ := h
          refine finV _ (by simp only [execOp]; rfl) ⟨_, _, ?_, hK⟩
          have w1 : IntKind.i64.wrap (ln : Int) = ln := by rw [IntKind.wrap_i64]; omega
          have w2 : IntKind.i64.wrap (cn : Int) = cn := by rw [IntKind.wrap_i64]; omega
          rw [he, hl, hc]
          have n1 : ¬ ((cn : Int) < 0) := by omega
          have n2 : ¬ ((ln : Int) < 0) := by omega
          have n3 : ¬ ((ln : Int) > cn) := by omega
          have n4 : ¬ ((i.bytes : Int) * cn > 2 ^ 48) := by omega
          simp only [Instr.makeSlice, Sem.run_bind, run_und hu, Result.andThen_ok, asInt, asIntOf, Sem.run_pure, run_info hi, w1, w2, n1, n2, n3, n4, decide_false, Bool.or_false, Bool.false_eq_true, if_false, run_askRoom, run_size hi, Int.toNat_natCast]
          by_cases h0 : cn * i.size = 0
          · simp [h0, newRow, show Array.range 0 = #[] from rfl]
          · simp [h0, zeroValue, run_info hi, hz, newRow]
        · exact h.elim
      · exact h.elim
    · exact h.elim
  case buildSlice t n ps =>
    simp only [hardD] at h
    split at h
    · rename_i e hu
      split at h
      · rename_i i hi
        split at h
        · rename_i z hz
          split at h
          · rename_i hle
            obtain ⟨cs, hcs, hK⟩ := h
            refine finV _ (by simp only [execOp]; rfl) ⟨_, _, ?_, hK⟩
            rw [← partsOf_eq he]
            have hle' : ¬ n * i.size > 2 ^ 24 := by have := Nat.le_of_ble_eq_true hle; omega
            simp only [Instr.buildSlice, Sem.run_bind, run_und hu, Result.andThen_ok, run_size hi, hle', if_false]
            by_cases h0 : n * i.size = 0
            · simp [h0, show Array.range 0 = #[] from rfl] at hcs
              simp [h0, show Array.range 0 = #[] from rfl, hcs, newRow]
            · simp [h0, zeroValue, run_info hi, hz]
              simp [hcs, newRow]
          · exact h.elim
        · exact h.elim
      · exact h.elim
    · exact h.elim
  case makeMap t r =>
    refine finV _ (by simp only [execOp]; rfl) ?_
    rw [← oev_eq he]; exact h
  case mapUpdate t m k v => refine finU _ (by simp only [execOp]; rfl) ?_; rw [he]; exact h
  case insert t m k v => refine finU _ (by simp only [execOp]; rfl) ?_; rw [he]; exact h
  case mapEntry t m k => refine finV _ (by simp only [execOp]; rfl) ?_; rw [he]; exact h
  case entryStore t m s v => refine finU _ (by simp only [execOp]; rfl) ?_; rw [he]; exact h
  case range t x => refine finV _ (by simp only [execOp]; rfl) ?_; rw [he]; exact h
  case next it s => refine finV _ (by simp only [execOp]; rfl) ?_; rw [he]; exact h
  case entry it => refine finV _ (by simp only [execOp]; rfl) ?_; rw [he]; exact h
  case convert s d x => refine finV _ (by simp only [execOp]; rfl) ?_; rw [he]; exact h
  case call c =>
    obtain ⟨callee, args, argTypes⟩ := c
    cases callee with
    | value f =>
      refine upon_call ?_ h
      rw [evs_eq he, ← he]
      simp only [execOp, resolve]
    | invoke r m => exact h.elim
    | builtin b =>
      have ex : ∀ s, (∀ cs, builtin b argTypes type cs (args.map a.eval) = (do pure (.value (← s)))) → execOp a.eval ⟨dst, .call ⟨.builtin b, args, argTypes⟩, type, pos, after, guard⟩ = (do pure (.value (← s))) := by
        intro s hs
        simp only [execOp, resolve]
        exact hs _
      cases b <;> first | exact h.elim | skip
      all_goals (refine finV _ (ex _ fun _ => rfl) ?_; rw [← evs_eq he]; exact h)

end
end Go.Vc

/- The compiler 'den' for a whole function body, and that it is sound. Conditions: none. -/
namespace Go.Vc

/-- Old blocks outside S are as before. -/
structure Ch (S : Nat → Prop) (w w' : World) : Prop where
  os : w'.os = w.os
  tape : w'.tape = w.tape
  output : w'.output = w.output
  size : w.heap.size ≤ w'.heap.size
  block : ∀ k, k < w.heap.size → ¬ S k → w'.heap[k]? = w.heap[k]?
inductive Ex where
  | nrm
  | ext (id : Nat)
  | ret
/-- What the text of the proposition needs to be told: which calls are quiet, where ways meet again and which slots are read there. -/
inductive Hint where
  | leaf
  | reg (quiet : List Nat) (join : Option (List Nat))
  | regE (quiet : List Nat) (join : Option (List Nat))
  | node (keep : Option (List Nat)) (l r : Hint)
abbrev Cont := Env → World → Prop

def putD (n : Nat) (env : Env) (dst : Option Nat) (v : Value) (kb : Option (Option Bool)) (K : Env → Prop) : Prop :=
  match dst with
  | none => K env
  | some d => match Nat.blt d n with
    | true => K (⟨d, v, kb⟩ :: env)
    | false => False
def wantD (ops : Array Oper) (o : Oper) (env : Env) (A B : Env → Prop) : Prop :=
  match o.guard with
  | none => A env
  | some (j, want) => match (ops[j]?).bind (·.dst) with
    | none => B env
    | some s => match known env s with
      | some (some b) => (match b == want with | true => A env | false => B env)
      | some none => B env
      | none => (match want with
        | true => cnd (look env s) (A (⟨s, .bool true, some (some true)⟩ :: env)) (B (⟨s, .bool false, some (some false)⟩ :: env))
        | false => cnd (look env s) (B (⟨s, .bool true, some (some true)⟩ :: env)) (A (⟨s, .bool false, some (some false)⟩ :: env)))
def opsD (P : Program) (n : Nat) (ops : Array Oper) : List Oper → Env → World → Cont → Prop
  | [], env, w, K => K env w
  | o :: r, env, w, K => wantD ops o env
    (fun env => match isSoftIn P o with
      | true => softD P o env w fun v kb => putD n env o.dst v kb fun env' => opsD P n ops r env' w K
      | false => hardD P o env w fun v w' => putD n env o.dst v none fun env' => opsD P n ops r env' w' K)
    (fun env => putD n env o.dst undef (some none) fun env' => opsD P n ops r env' w K)
/-- Operations whose value no memory decides (with the mark 1000000: the addresses of fields, too). -/
def isMove (P : Program) (quiet : List Nat) (o : Oper) : Bool :=
  match o.op with
  | .move _ | .assign _ => true
  | .fieldAddr .. => quiet.contains 1000000
  | .indexAddr t _ _ => (match P.underlying t with | some (.slice _) => quiet.contains 1000000 | _ => false)
  | .binOp _ t _ _ _ => (match P.underlying t with | some (.int _) => true | _ => false)
  | _ => false
def isQuiet (P : Program) (quiet : List Nat) (i : Nat) (o : Oper) : Bool := isSoftIn P o || quiet.contains i
/-- Of each operation, as bits, those that must come before it. -/
def bfStep (acc : List Nat) (o : Oper) : Nat :=
  o.after.toList.foldl (fun s e => match Region.binds .any e with | true => s ||| 2 ^ e.on ||| acc.getD e.on 0 | false => s) 0
def bf : List Oper → List Nat → List Nat
  | [], acc => acc
  | o :: r, acc => bf r (acc ++ [bfStep acc o])
/-- Must operation j leave old memory alone? -/
def needE (P : Program) (quiet : List Nat) (ops : Array Oper) (j : Nat) : Bool :=
  (List.range ops.size).any fun i => match ops[i]? with
    | some o => isQuiet P quiet i o && !isMove P quiet o && !(i == j) && !((bf ops.toList []).getD j 0).testBit i && !((bf ops.toList []).getD i 0).testBit j
    | none => false
def isSoftAt (P : Program) (ops : Array Oper) (j : Nat) : Bool := match ops[j]? with | some o => isSoftIn P o | none => false
/-- Must what operation i reads stand under what others may turn? With the mark only if another one may come before or behind. -/
def needS (P : Program) (quiet : List Nat) (ops : Array Oper) (i : Nat) : Bool :=
  match quiet.contains 1000000 with
  | false => true
  | true => (List.range ops.size).any fun j => match ops[j]? with
    | some o => !isSoftIn P o && !(i == j) && !((bf ops.toList []).getD j 0).testBit i && !((bf ops.toList []).getD i 0).testBit j
    | none => false
def exq (b : Bool) (w w' : World) (A : Prop) : Prop :=
  match b with
  | true => Ext w w' ∧ A
  | false => A
def pickSoft (P : Program) (quiet : List Nat) (ops : Array Oper) (listed : Array Bool) : List Nat → Option Nat
  | [] => none
  | i :: r => match ops[i]? with
    | some o => (match isQuiet P quiet i o && Region.free .any ops listed i with
      | true => some i
      | false => pickSoft P quiet ops listed r)
    | none => pickSoft P quiet ops listed r
def allD : List Nat → (Nat → Prop) → Prop
  | [], _ => True
  | i :: r, F => match r with
    | [] => F i
    | _ :: _ => F i ∧ allD r F
def quietD (P : Program) (o : Oper) (env : Env) (w : World) (K : Value → Prop) : Prop :=
  match o.op with
  | .call c => (match c.callee with
    | .value f => callQ P (ev env f) (evs env c.args) w K
    | _ => False)
  | _ => False
def drD (P : Program) (n : Nat) (quiet : List Nat) (ops : Array Oper) : Nat → Array Bool → Env → World → Cont → Prop
  | 0, listed, env, w, K => match Region.ready .any ops listed with
    | [] => ∀ w1, Ext w w1 → K env w1
    | _ :: _ => False
  | m + 1, listed, env, w, K => match Region.ready .any ops listed with
    | [] => ∀ w1, Ext w w1 → K env w1
    | r0 :: rs => match pickSoft P quiet ops listed (r0 :: rs) with
      | some i => (match ops[i]? with
        | some o => wantD ops o env
          (fun env => match isSoftIn P o with
            | true => softD P o env w fun v kb => putD n env o.dst v kb fun env' => drD P n quiet ops m (listed.setIfInBounds i true) env' w K
            | false => quietD P o env w fun v => putD n env o.dst v none fun env' => drD P n quiet ops m (listed.setIfInBounds i true) env' w K)
          (fun env => putD n env o.dst undef (some none) fun env' => drD P n quiet ops m (listed.setIfInBounds i true) env' w K)
        | none => False)
      | none => ∀ w1, Ext w w1 → allD (r0 :: rs) fun i => match ops[i]? with
        | some o => wantD ops o env
          (fun env => match isSoftIn P o with
            | true => False
            | false => hardD P o env w1 fun v w2 => exq (needE P quiet ops i) w1 w2 (putD n env o.dst v none fun env' => drD P n quiet ops m (listed.setIfInBounds i true) env' w2 K))
          (fun env => putD n env o.dst undef (some none) fun env' => drD P n quiet ops m (listed.setIfInBounds i true) env' w1 K)
        | none => False
/-- The world without its memory. -/
def bare (w : World) : World := { w with heap := #[] }
/-- The same for regions in which a call may turn blocks of D: what is read lies elsewhere. -/
def softE (P : Program) (D : Nat → Prop) (o : Oper) (env : Env) (w : World) (K : Value → Option (Option Bool) → Prop) : Prop :=
  match o.op with
  | .load t a => ldD P w t (ev env a) fun v => (∀ w', Ch D w w' → ldD P w' t (ev env a) fun u => u = v) ∧ K v none
  | _ => softD P o env (bare w) K
def softF (P : Program) (D : Nat → Prop) (b : Bool) (o : Oper) (env : Env) (w : World) (K : Value → Option (Option Bool) → Prop) : Prop :=
  match b with
  | true => softE P D o env w K
  | false => softD P o env w K
def callQE (P : Program) (D : Nat → Prop) (fv : Value) (args : List Value) (w : World) (K : Value → Prop) : Prop :=
  ∃ v, (∀ w', Ch D w w' → callV P fv args w' fun u w3 => u = v ∧ Ext w' w3) ∧ K v
def quietE (P : Program) (D : Nat → Prop) (o : Oper) (env : Env) (w : World) (K : Value → Prop) : Prop :=
  match o.op with
  | .call c => (match c.callee with
    | .value f => callQE P D (ev env f) (evs env c.args) w K
    | _ => False)
  | _ => False
def exqE (D : Nat → Prop) (b : Bool) (w w' : World) (A : Prop) : Prop :=
  match b with
  | true => Ch D w w' ∧ A
  | false => A
def drE (P : Program) (n : Nat) (quiet : List Nat) (ops : Array Oper) (D : Nat → Prop) : Nat → Array Bool → Env → World → Cont → Prop
  | 0, listed, env, w, K => match Region.ready .any ops listed with
    | [] => ∀ w1, Ext w w1 → K env w1
    | _ :: _ => False
  | m + 1, listed, env, w, K => match Region.ready .any ops listed with
    | [] => ∀ w1, Ext w w1 → K env w1
    | r0 :: rs => match pickSoft P quiet ops listed (r0 :: rs) with
      | some i => (match ops[i]? with
        | some o => wantD ops o env
          (fun env => match isSoftIn P o with
            | true => softF P D (needS P quiet ops i) o env w fun v kb => putD n env o.dst v kb fun env' => drE P n quiet ops D m (listed.setIfInBounds i true) env' w K
            | false => quietE P D o env w fun v => putD n env o.dst v none fun env' => drE P n quiet ops D m (listed.setIfInBounds i true) env' w K)
          (fun env => putD n env o.dst undef (some none) fun env' => drE P n quiet ops D m (listed.setIfInBounds i true) env' w K)
        | none => False)
      | none => ∀ w1, Ext w w1 → allD (r0 :: rs) fun i => match ops[i]? with
        | some o => wantD ops o env
          (fun env => match isSoftIn P o with
            | true => False
            | false => hardD P o env w1 fun v w2 => exqE D (needE P quiet ops i) w1 w2 (putD n env o.dst v none fun env' => drE P n quiet ops D m (listed.setIfInBounds i true) env' w2 K))
          (fun env => putD n env o.dst undef (some none) fun env' => drE P n quiet ops D m (listed.setIfInBounds i true) env' w1 K)
        | none => False
def dsts (ops : List Oper) : List Nat := ops.filterMap (·.dst)
def wr : Code → List Nat
  | .region _ ops _ => dsts ops.toList
  | .seq a b => wr a ++ wr b
  | .cond _ a b => wr a ++ wr b
  | .block _ b => wr b
  | .loop b => wr b
  | .scope b => wr b
  | _ => []
def bindK : List Nat → Nat → List Value → Env → Env
  | [], _, _, env => env
  | s :: r, i, xs, env => ⟨s, gx xs i, none⟩ :: bindK r (i + 1) xs env
def bindY : List Nat → (Nat → Value) → Env → Env
  | [], _, env => env
  | s :: r, ys, env => ⟨s, ys s, none⟩ :: bindY r ys env
def getK (keep : List Nat) (env : Env) : List Value := keep.map (look env)
def slotsOk (n : Nat) (l : List Nat) : Bool := l.all fun s => Nat.blt s n
/-- Where ways meet again: the slots of 'keep' are handed over, the others that were written may hold anything. -/
def joinD (n : Nat) (keep W : List Nat) (env : Env) (K : Cont) (F : Cont → Prop) : Prop :=
  match slotsOk n keep && slotsOk n W with
  | true => jn (fun J => F fun env' w' => J (getK keep env') w') (fun xs w => ∀ ys : Nat → Value, K (bindK keep 0 xs (bindY W ys env)) w)
  | false => False
def regD (P : Program) (n : Nat) (ops : Array Oper) (draw eh : Bool) (quiet : List Nat) (env : Env) (w : World) (K : Cont) : Prop :=
  match draw with
  | false => opsD P n ops ops.toList env w K
  | true => match eh with
    | false => drD P n quiet ops ops.size (Array.replicate ops.size false) env w K
    | true => ∃ D : Nat → Prop, drE P n quiet ops D ops.size (Array.replicate ops.size false) env w K
def hL : Hint → Hint | .node _ l _ => l | _ => .leaf
def hR : Hint → Hint | .node _ _ r => r | _ => .leaf
def hK : Hint → Option (List Nat) | .node k _ _ => k | .reg _ k => k | .regE _ k => k | _ => none
def hQ : Hint → List Nat | .reg q _ => q | .regE q _ => q | _ => []
def hE : Hint → Bool | .regE _ _ => true | _ => false
def thenD (next : Cont) (Q : Ex → Cont) : Ex → Cont
  | .nrm, env, w => next env w
  | e, env, w => Q e env w
def blockD (id : Nat) (Q : Ex → Cont) : Ex → Cont
  | .ext i, env, w => match Nat.beq i id with
    | true => Q .nrm env w
    | false => Q (.ext i) env w
  | e, env, w => Q e env w
def condD (env : Env) (c : Operand) (A B : Env → Prop) : Prop :=
  match evk env c with
  | some (some true) => A env
  | some (some false) => B env
  | some none => False
  | none => match c with
    | .tmp s => cnd (look env s) (A (⟨s, .bool true, some (some true)⟩ :: env)) (B (⟨s, .bool false, some (some false)⟩ :: env))
    | _ => cnd (ev env c) (A env) (B env)
def den (P : Program) (n : Nat) : Code → Hint → (Ex → Cont) → Env → World → Prop
  | .skip, _, Q, env, w => Q .nrm env w
  | .label _, _, Q, env, w => Q .nrm env w
  | .ret, _, Q, env, w => Q .ret env w
  | .exit id, _, Q, env, w => Q (.ext id) env w
  | .region _ ops draw, h, Q, env, w => match hK h with
    | none => regD P n ops draw (hE h) (hQ h) env w (Q .nrm)
    | some keep => joinD n keep (dsts ops.toList) env (Q .nrm) fun J => regD P n ops draw (hE h) (hQ h) env w J
  | .seq a b, h, Q, env, w => den P n a (hL h) (thenD (den P n b (hR h) Q) Q) env w
  | .cond c x y, h, Q, env, w => match hK h with
    | none => condD env c (fun env => den P n x (hL h) Q env w) (fun env => den P n y (hR h) Q env w)
    | some keep => joinD n keep (wr x ++ wr y) env (Q .nrm) fun J => condD env c (fun env => den P n x (hL h) (thenD J Q) env w) (fun env => den P n y (hR h) (thenD J Q) env w)
  | .block id b, h, Q, env, w => den P n b h (blockD id Q) env w
  | .scope b, h, Q, env, w => den P n b h Q env w
  | .loop b, h, Q, env, w => match slotsOk n ((hK h).getD []) && slotsOk n (wr b) with
    | true => lp (fun Kn xs w => ∀ ys : Nat → Value, den P n b (hL h) (thenD (fun env' w' => Kn (getK ((hK h).getD []) env') w') Q) (bindK ((hK h).getD []) 0 xs (bindY (wr b) ys env)) w) (getK ((hK h).getD []) env) w
    | false => False
  | _, _, _, _, _ => False
def resD (P : Program) (env : Env) (w : World) : List ResultVar → (List Value → Prop) → Prop
  | [], K => K []
  | .tmp t :: r, K => resD P env w r fun vs => K (look env t :: vs)
  | .cell a t :: r, K => ldD P w t (look env a) fun v => resD P env w r fun vs => K (v :: vs)
def retV : List Value → Value
  | [v] => v
  | vs => .tuple vs.toArray
def initEnv : Nat → List Value → Env
  | _, [] => []
  | i, v :: r => ⟨i, v, none⟩ :: initEnv (i + 1) r
/-- A whole function. -/
def denF (P : Program) (fn : Func) (c : Code) (h : Hint) (args : List Value) (w : World) (R : Value → World → Prop) : Prop :=
  den P fn.ntmps c h (fun e env w => match e with
    | .nrm => resD P env w fn.results.toList fun vs => R (retV vs) w
    | .ret => resD P env w fn.results.toList fun vs => R (retV vs) w
    | .ext _ => False) (initEnv 0 args) w

end Go.Vc

/- 'den' is sound: regions. Conditions: none. -/
namespace Go.Vc

structure Ag (n : Nat) (env : Env) (a : Act) : Prop where
  defers : a.defers = []
  size : a.tmps.size = n
  vals : ∀ s, a.tmps.getD s undef = look env s
  ok : EnvOk env
/-- Outside W the two name the same values. -/
def Same (W : List Nat) (env env' : Env) : Prop := ∀ s, s ∉ W → look env' s = look env s
theorem Same.refl (W : List Nat) (env : Env) : Same W env env := fun _ _ => rfl
theorem Same.trans {W : List Nat} {a b c : Env} (h : Same W a b) (k : Same W b c) : Same W a c := fun s hs => (k s hs).trans (h s hs)
theorem Same.mono {W W' : List Nat} {a b : Env} (h : Same W a b) (hw : ∀ s, s ∈ W → s ∈ W') : Same W' a b := fun s hs => h s fun e => hs (hw s e)

theorem Ag.eval {n : Nat} {env : Env} {a : Act} (h : Ag n env a) : a.eval = ev env := by
  funext x; cases x <;> first | exact h.vals _ | rfl

theorem beq_false {a b : Nat} (h : a ≠ b) : Nat.beq a b = false := by
  cases e : Nat.beq a b with
  | false => rfl
  | true => exact absurd (Nat.eq_of_beq_eq_true e) h
theorem look_cons (s : Nat) (v : Value) (k : Option (Option Bool)) (env : Env) (t : Nat) : look (⟨s, v, k⟩ :: env) t = if s = t then v else look env t := by
  by_cases h : s = t
  · subst h; simp [look]
  · simp [look, h, beq_false h]
theorem known_cons (s : Nat) (v : Value) (k : Option (Option Bool)) (env : Env) (t : Nat) : known (⟨s, v, k⟩ :: env) t = if s = t then k else known env t := by
  by_cases h : s = t
  · subst h; simp [known]
  · simp [known, h, beq_false h]
theorem EnvOk.cons {env : Env} (h : EnvOk env) {s : Nat} {v : Value} {k : Option (Option Bool)} (hk : ∀ b, k = some b → v = kv b) : EnvOk (⟨s, v, k⟩ :: env) := by
  intro t b hb
  rw [known_cons] at hb
  rw [look_cons]
  split at hb
  · rename_i e; simp [e]; exact hk b hb
  · rename_i e; simp [e]; exact h t b hb

theorem Ag.put {n : Nat} {env : Env} {a : Act} (h : Ag n env a) {d : Nat} (hd : d < n) {v : Value} {k : Option (Option Bool)} (hk : ∀ b, k = some b → v = kv b) : Ag n (⟨d, v, k⟩ :: env) (a.put (some d) v) := by
  refine ⟨h.defers, by simp [Act.put, h.size], fun s => ?_, h.ok.cons hk⟩
  rw [look_cons]
  have hs : d < a.tmps.size := by rw [h.size]; exact hd
  by_cases e : d = s
  · subst e; simp [Act.put, hs]
  · simp only [e, if_false]
    rw [← h.vals s]
    simp [Act.put, Array.getElem?_setIfInBounds_ne e]

/-- A slot's value is learnt. -/
theorem Ag.learn {n : Nat} {env : Env} {a : Act} (h : Ag n env a) {s : Nat} {b : Bool} (hs : look env s = .bool b) : Ag n (⟨s, .bool b, some (some b)⟩ :: env) a :=
  ⟨h.defers, h.size, fun t => by
    rw [look_cons, h.vals t]
    split
    · rename_i e; subst e; exact hs
    · rfl, h.ok.cons fun b' e => by cases e; rfl⟩
theorem same_learn {W : List Nat} {env : Env} {s : Nat} {b : Bool} {k : Option (Option Bool)} (hs : look env s = .bool b) : Same W env (⟨s, .bool b, k⟩ :: env) := fun t _ => by
  rw [look_cons]
  split
  · rename_i e; subst e; exact hs.symm
  · rfl
theorem same_cons {W : List Nat} {env : Env} {s : Nat} (hs : s ∈ W) (v : Value) (k : Option (Option Bool)) : Same W env (⟨s, v, k⟩ :: env) := fun t ht => by
  rw [look_cons, if_neg]
  rintro rfl; exact ht hs

theorem putD_ok {n : Nat} {env : Env} {a : Act} {dst : Option Nat} {v : Value} {kb : Option (Option Bool)} {K : Env → Prop} {W : List Nat} (h : putD n env dst v kb K) (ha : Ag n env a)
    (hk : ∀ b, kb = some b → v = kv b) (hw : ∀ d, dst = some d → d ∈ W) : ∃ env', K env' ∧ Ag n env' (a.put dst v) ∧ Same W env env' := by
  unfold putD at h
  cases dst with
  | none => exact ⟨env, h, ha, Same.refl _ _⟩
  | some d =>
    simp only [] at h
    split at h
    · rename_i hlt
      exact ⟨_, h, ha.put (Nat.le_of_ble_eq_true hlt) hk, same_cons (hw d rfl) _ _⟩
    · exact h.elim

theorem yielded_some {n : Nat} {env : Env} {a : Act} (ha : Ag n env a) {ops : Array Oper} {j s : Nat} {b : Bool} (hs : (ops[j]?).bind (·.dst) = some s) (hb : look env s = .bool b) :
    yielded ops a.tmps j = some b := by
  have hv := ha.vals s
  rw [hb] at hv
  have : a.tmps[s]? = some (.bool b) := by
    cases e : a.tmps[s]? with
    | none => simp [e, undef] at hv
    | some x => simp [e] at hv; rw [hv]
  simp [yielded, hs, this]

/-- What 'wantD' says. -/
theorem wantD_ok {n : Nat} {env : Env} {a : Act} {ops : Array Oper} {o : Oper} {A B : Env → Prop} (h : wantD ops o env A B) (ha : Ag n env a) (W : List Nat) :
    ∃ env', Ag n env' a ∧ Same W env env' ∧ ((Region.wanted o (yielded ops a.tmps) = true ∧ A env') ∨ (Region.wanted o (yielded ops a.tmps) = false ∧ B env')) := by
  unfold wantD at h
  cases hg : o.guard with
  | none => simp only [hg] at h; exact ⟨env, ha, Same.refl _ _, .inl ⟨by simp [Region.wanted, hg], h⟩⟩
  | some jw =>
    obtain ⟨j, want⟩ := jw
    simp only [hg] at h
    cases hs : (ops[j]?).bind (·.dst) with
    | none =>
      simp only [hs] at h
      exact ⟨env, ha, Same.refl _ _, .inr ⟨by simp [Region.wanted, hg, yielded, hs], h⟩⟩
    | some s =>
      simp only [hs] at h
      cases hk : known env s with
      | some b =>
        simp only [hk] at h
        cases b with
        | none =>
          refine ⟨env, ha, Same.refl _ _, .inr ⟨?_, h⟩⟩
          have hv := ha.vals s
          rw [ha.ok s none hk] at hv
          have hy : yielded ops a.tmps j = none := by
            simp only [yielded, hs, Option.bind_some]
            cases e : a.tmps[s]? with
            | none => rfl
            | some x => simp [e, kv] at hv; rw [hv]; rfl
          simp [Region.wanted, hg, hy]
        | some b =>
        have hy := yielded_some ha hs (ha.ok s (some b) hk)
        simp only [] at h
        split at h
        · rename_i e
          exact ⟨env, ha, Same.refl _ _, .inl ⟨by simp [Region.wanted, hg, hy]; simpa using e, h⟩⟩
        · rename_i e
          exact ⟨env, ha, Same.refl _ _, .inr ⟨by simp [Region.wanted, hg, hy]; simpa using e, h⟩⟩
      | none =>
        simp only [hk] at h
        have key : ∀ {X Y : Prop}, cnd (look env s) X Y → ∃ b, look env s = .bool b ∧ (if b then X else Y) := by
          intro X Y ⟨b, hb, h1, h2⟩
          refine ⟨b, hb, ?_⟩
          cases b
          · simpa using h2 rfl
          · simpa using h1 rfl
        cases want
        · obtain ⟨b, hb, hx⟩ := key h
          have hy := yielded_some ha hs hb
          cases b
          · exact ⟨_, ha.learn hb, same_learn hb, .inl ⟨by simp [Region.wanted, hg, hy], by simpa using hx⟩⟩
          · exact ⟨_, ha.learn hb, same_learn hb, .inr ⟨by simp [Region.wanted, hg, hy], by simpa using hx⟩⟩
        · obtain ⟨b, hb, hx⟩ := key h
          have hy := yielded_some ha hs hb
          cases b
          · exact ⟨_, ha.learn hb, same_learn hb, .inr ⟨by simp [Region.wanted, hg, hy], by simpa using hx⟩⟩
          · exact ⟨_, ha.learn hb, same_learn hb, .inl ⟨by simp [Region.wanted, hg, hy], by simpa using hx⟩⟩

/-- The operations of a region in the text's order. -/
theorem opsD_ok {P : Program} {n : Nat} {ops : Array Oper} {W : List Nat} {Q : Exit → Act → World → Prop} {K : Cont} : ∀ (l : List Oper) (env : Env) (a : Act) (w : World),
    opsD P n ops l env w K → Ag n env a → (∀ o ∈ l, ∀ d, o.dst = some d → d ∈ W) →
    (∀ env' a' w', K env' w' → Ag n env' a' → Same W env env' → Q .normal a' w') → wpList P ops Q l a w := by
  intro l
  induction l with
  | nil => intro env a w h ha _ hq; exact hq env a w h ha (Same.refl _ _)
  | cons o r ih =>
    intro env a w h ha hW hq
    have hWo : ∀ d, o.dst = some d → d ∈ W := hW o (by simp)
    have hWr : ∀ o ∈ r, ∀ d, o.dst = some d → d ∈ W := fun o' ho => hW o' (by simp [ho])
    obtain ⟨env1, ha1, hs1, hc⟩ := wantD_ok h ha W
    have next : ∀ {env2 : Env} {a' w'}, opsD P n ops r env2 w' K → Ag n env2 a' → Same W env1 env2 → wpList P ops Q r a' w' := fun {env2 a' w'} h2 ha2 hs2 =>
      ih env2 a' w' h2 ha2 hWr fun env' a' w' hK hA hS => hq env' a' w' hK hA ((hs1.trans hs2).trans hS)
    unfold wpList
    rcases hc with ⟨hw, hA⟩ | ⟨hw, hB⟩
    · rw [hw]
      refine .inl ?_
      split at hA
      · rename_i hsoft
        obtain ⟨v, kb, hrun, hp, hkb⟩ := soft_ok ha1.eval ha1.ok hsoft hA
        unfold Oper.wp
        rw [hrun w (Ext.refl w), Oper.upon_value]
        obtain ⟨env2, h2, ha2, hs2⟩ := putD_ok hp ha1 hkb hWo
        exact next h2 ha2 hs2
      · have := hard_ok (Q := Q) ha1.eval hA
        refine Oper.wp_mono (fun a' w' ⟨v, he, hp⟩ => ?_) this
        obtain ⟨env2, h2, ha2, hs2⟩ := putD_ok hp ha1 (fun b e => by cases e) hWo
        rw [he]
        exact next h2 ha2 hs2
    · rw [hw]
      obtain ⟨env2, h2, ha2, hs2⟩ := putD_ok hB ha1 (fun b e => by cases e; rfl) hWo
      exact next h2 ha2 hs2

end Go.Vc

/- 'den' is sound: regions that draw their order. Conditions: none. -/
namespace Go.Vc
section
variable {P : Program} {E : World → World → Prop} {ops : Array Oper} {quiet : List Nat}

/-- What a quiet operation yields. -/
def quietRun (P : Program) (v : Value) (w : World) : Result Next → Prop
  | .ok (.value u) w' => w' = w ∧ u = v
  | .ok (.enter f args) w' => w' = w ∧ Calls P f args w (fun e w3 => e = .returned v ∧ Ext w w3)
  | _ => False
/-- Operation i yields v in each world that it can be met in: of a move, whatever world; else, those beyond w. -/
def Yc (P : Program) (E : World → World → Prop) (ops : Array Oper) (mv : Bool) (o : Oper) (v : Value) (a : Act) (w : World) : Prop :=
  (Region.wanted o (yielded ops a.tmps) = true ∧ ∀ w', (mv = true ∨ E w w') → quietRun P v w' ((execOp a.eval o).run P w')) ∨
  (Region.wanted o (yielded ops a.tmps) = false ∧ v = undef)
theorem Yc.of_same {mv : Bool} {o : Oper} {v : Value} {a a' : Act} {w : World} (hy : Yc P E ops mv o v a w) (he : execOp a'.eval o = execOp a.eval o)
    (hw : Region.wanted o (yielded ops a'.tmps) = Region.wanted o (yielded ops a.tmps)) : Yc P E ops mv o v a' w := by
  unfold Yc at *
  rw [he, hw]
  exact hy
theorem Yc.later (hT : ∀ w w' w'' : World, E w w' → E w' w'' → E w w'') {mv : Bool} {o : Oper} {v : Value} {a : Act} {w w1 : World} (hy : Yc P E ops mv o v a w) (he : mv = true ∨ E w w1) : Yc P E ops mv o v a w1 := by
  rcases hy with ⟨h1, h2⟩ | h
  · refine .inl ⟨h1, fun w' hw' => h2 w' ?_⟩
    rcases he with he | he
    · exact .inl he
    · exact hw'.imp id (hT _ _ _ he)
  · exact .inr h

/-- Whatever order is picked from here on, in each world beyond this one. -/
def AnyW (P : Program) (E : World → World → Prop) (quiet : List Nat) (ops : Array Oper) (Q : Act → World → Prop) : Nat → Array Bool → Act → World → Prop
  | 0, listed, a, w => ∀ w1, Ext w w1 → Region.ready .any ops listed = [] ∧ Q a w1
  | m + 1, listed, a, w => ∀ w1, Ext w w1 → (Region.ready .any ops listed = [] → Q a w1) ∧
    ∀ i ∈ Region.ready .any ops listed, wpOp P ops (fun _ _ _ => False) i (fun a' w' => ((needE P quiet ops i = true → E w1 w') ∧ (isSoftAt P ops i = true → Ext w1 w')) ∧ AnyW P E quiet ops Q m (listed.setIfInBounds i true) a' w') a w1
theorem AnyW.later {Q : Act → World → Prop} {m : Nat} {listed : Array Bool} {a : Act} {w w1 : World} (h : AnyW P E quiet ops Q m listed a w) (he : Ext w w1) : AnyW P E quiet ops Q m listed a w1 := by
  cases m <;> exact fun w2 h2 => h w2 (he.trans h2)

theorem wpOp_weak {Q' : Exit → Act → World → Prop} {i : Nat} {K K' : Act → World → Prop} {a : Act} {w : World} (h : wpOp P ops (fun _ _ _ => False) i K a w) (hk : ∀ a w, K a w → K' a w) : wpOp P ops Q' i K' a w := by
  unfold wpOp at *
  split
  · rename_i ho; simp only [ho] at h; exact hk _ _ h
  · rename_i o ho
    simp only [ho] at h
    split
    · rename_i hw
      simp only [hw, if_true] at h
      refine .inl ?_
      rcases h with h | ⟨_, a, w, h⟩
      · unfold Oper.wp at *
        generalize (execOp a.eval o).run P w = r at *
        cases r with
        | ok n w' =>
          cases n <;> simp only [Oper.upon] at h ⊢ <;>
            first
              | exact hk _ _ h
              | exact Calls.mono h (fun e w'' he => by cases e <;> first | exact hk _ _ he | exact he.elim | exact (let ⟨_, _, hh⟩ := he; hh.elim))
              | exact Rows.mono h (fun _ _ he => hk _ _ he)
        | halt x w' => cases x <;> simp only [Oper.upon] at h
      · exact h.elim
    · rename_i hw; simp only [hw] at h; exact hk _ _ h

theorem wpAny_of_AnyW {Q : Act → World → Prop} {Q' : Exit → Act → World → Prop} (hQ : ∀ a w, Q a w → Q' .normal a w) : ∀ (m : Nat) (listed : Array Bool) (a : Act) (w : World),
    AnyW P E quiet ops Q m listed a w → wpAny P .any ops Q' m listed a w
  | 0, _, _, w, h => ⟨(h w (Ext.refl w)).1, hQ _ _ (h w (Ext.refl w)).2⟩
  | m + 1, _, _, w, h => ⟨fun h0 => hQ _ _ ((h w (Ext.refl w)).1 h0), fun i hi => wpOp_weak ((h w (Ext.refl w)).2 i hi) fun a' w' hh => wpAny_of_AnyW hQ m _ a' w' hh.2⟩

/-- One operation 'oj', apart from 'oi': whether 'oi''s value is already in its temporary makes no difference. -/
theorem wpOp_putC {j : Nat} {oi oj : Oper} {v : Value} (hj : ops[j]? = some oj) (hap : oi.apart ops oj = true)
    (hsi : ∀ cs b, oi.op ≠ .select cs b) (hsj : ∀ cs b, oj.op ≠ .select cs b) {mv : Bool} {wy : World} {K : Act → World → Prop} {a : Act} {w : World}
    (hy : Yc P E ops mv oi v a wy) (h : wpOp P ops (fun _ _ _ => False) j K (a.put oi.dst v) w) :
    wpOp P ops (fun _ _ _ => False) j (fun a' w' => Yc P E ops mv oi v a' wy ∧ K (a'.put oi.dst v) w') a w := by
  obtain ⟨h1, h2, h3⟩ := Oper.apart_spec hap
  have keep : ∀ (a : Act), Yc P E ops mv oi v a wy → ∀ u, Yc P E ops mv oi v (a.put oj.dst u) wy := fun a hy u =>
    hy.of_same (execOp_put oi hsi a oj.dst u h3) (wanted_put oi a oj.dst u h3)
  have keepD : ∀ d, Yc P E ops mv oi v { a with defers := d :: a.defers } wy := fun d => hy.of_same rfl rfl
  unfold wpOp at *
  simp only [hj] at *
  rw [wanted_put oj a oi.dst v h1] at h
  split
  · rename_i hw
    simp only [hw, if_true] at h
    rcases h with h | ⟨_, a, w, hh⟩
    case inr => exact hh.elim
    refine .inl ?_
    unfold Oper.wp at *
    rw [execOp_put oj hsj a oi.dst v h1] at h
    generalize (execOp a.eval oj).run P w = r at *
    cases r with
    | ok n w' =>
      cases n <;> simp only [Oper.upon] at h ⊢
      case value u => exact ⟨keep a hy u, by rw [← Act.put_comm a v u h2]; exact h⟩
      case skip => exact ⟨keep a hy _, by rw [← Act.put_comm a v undef h2]; exact h⟩
      case defer d =>
        refine ⟨keep _ (keepD d) _, ?_⟩
        rw [← Act.put_comm _ v undef h2, ← Act.put_defers]
        exact h
      case enter f args =>
        refine Calls.mono h fun e w'' he => ?_
        cases e with
        | returned u => exact ⟨keep a hy u, by rw [← Act.put_comm a v u h2]; exact he⟩
        | panicked c => exact he.elim
        | outgrown => exact he
      case row row args => exact Rows.mono h fun u w'' he => ⟨keep a hy u, by rw [← Act.put_comm a v u h2]; exact he⟩
    | halt x w' => cases x <;> simp only [Oper.upon] at h
  · rename_i hw
    simp only [hw] at h
    exact ⟨keep a hy _, by rw [← Act.put_comm a v undef h2]; exact h⟩

theorem Yc.wpOp (hX : ∀ w w' : World, Ext w w' → E w w') {i : Nat} {oi : Oper} {v : Value} {a : Act} {w w1 : World} {mv : Bool} (hi : ops[i]? = some oi) (hy : Yc P E ops mv oi v a w) (he : Ext w w1)
    {K : Act → World → Prop} (h : ∀ w2, Ext w1 w2 → K (a.put oi.dst v) w2) : wpOp P ops (fun _ _ _ => False) i K a w1 := by
  unfold Go.wpOp
  simp only [hi]
  rcases hy with ⟨hw, hv⟩ | ⟨hw, rfl⟩
  · simp only [hw, if_true]
    refine .inl ?_
    have hq := hv w1 (.inr (hX _ _ he))
    unfold Oper.wp
    generalize (execOp a.eval oi).run P w1 = r at *
    cases r with
    | halt x w' => exact hq.elim
    | ok n w' =>
      cases n <;> first | exact hq.elim | skip
      case value u => obtain ⟨rfl, rfl⟩ := hq; exact h _ (Ext.refl _)
      case enter f args =>
        obtain ⟨rfl, hc⟩ := hq
        rw [Oper.upon_enter]
        refine hc.mono fun e w3 ⟨h1, h2⟩ => ?_
        subst h1
        exact h _ h2
  · simp only [hw, Bool.false_eq_true, if_false]; exact h _ (Ext.refl _)

/-- What is listed is closed: with an operation all that it waits for. -/
def Down (ops : Array Oper) (listed : Array Bool) : Prop := ∀ (k : Nat) (o : Oper), ops[k]? = some o → listed.getD k false = true → ∀ e ∈ o.after, Region.binds .any e = true → listed.getD e.on false = true
theorem down_init (n : Nat) : Down ops (Array.replicate n false) := fun k o _ hk => by
  have : (Array.replicate n false).getD k false = false := by simp [Array.getElem?_replicate]; split <;> rfl
  rw [this] at hk; cases hk
theorem down_set {listed : Array Bool} (h : Down ops listed) {i : Nat} (hi : i ∈ Region.ready .any ops listed) : Down ops (listed.setIfInBounds i true) := by
  intro k o ho hk e he hb
  obtain ⟨_, oi, hoi, hall⟩ := mem_ready.1 hi
  by_cases hki : i = k
  · subst hki
    rw [ho] at hoi; cases hoi
    exact getD_set_true (hall e he hb)
  · rw [getD_set_ne false hki] at hk
    exact getD_set_true (h k o ho hk e he hb)
/-- i comes before j whatever the order. -/
def Forced (ops : Array Oper) (i j : Nat) : Prop := ∀ listed : Array Bool, Down ops listed → (∀ o, ops[j]? = some o → ∀ e ∈ o.after, Region.binds .any e = true → listed.getD e.on false = true) → listed.getD i false = true
theorem fold_bits (acc : List Nat) (i : Nat) : ∀ (l : List Edge) (s : Nat), (l.foldl (fun s e => match Region.binds .any e with | true => s ||| 2 ^ e.on ||| acc.getD e.on 0 | false => s) s).testBit i = true →
    s.testBit i = true ∨ ∃ e ∈ l, Region.binds .any e = true ∧ (e.on = i ∨ (acc.getD e.on 0).testBit i = true)
  | [], s, h => .inl h
  | e :: l, s, h => by
    rw [List.foldl_cons] at h
    rcases fold_bits acc i l _ h with h | ⟨e', he, hb⟩
    · cases hb : Region.binds .any e with
      | false => rw [hb] at h; exact .inl h
      | true =>
        rw [hb] at h
        simp only [Nat.testBit_or, Bool.or_eq_true, Nat.testBit_two_pow, decide_eq_true_eq] at h
        rcases h with (h | h) | h
        · exact .inl h
        · exact .inr ⟨e, by simp, hb, .inl h⟩
        · exact .inr ⟨e, by simp, hb, .inr h⟩
    · exact .inr ⟨e', by simp [he], hb⟩
theorem bf_forced : ∀ (r : List Oper) (acc : List Nat), (∀ j, r[j]? = ops[acc.length + j]?) → (∀ j i, (acc.getD j 0).testBit i = true → Forced ops i j) → ∀ j i, ((bf r acc).getD j 0).testBit i = true → Forced ops i j
  | [], acc, _, h => h
  | o :: r, acc, hr, h => by
    have h0 : ops[acc.length]? = some o := by simpa using (hr 0).symm
    refine bf_forced r (acc ++ [bfStep acc o]) (fun j => by have := hr (j + 1); simpa [Nat.add_assoc, Nat.add_comm 1 j] using this) ?_
    intro j i hb
    rcases Nat.lt_trichotomy j acc.length with hj | hj | hj
    · rw [List.getD_eq_getElem?_getD, List.getElem?_append_left hj, ← List.getD_eq_getElem?_getD] at hb
      exact h j i hb
    · subst hj
      rw [List.getD_eq_getElem?_getD, List.getElem?_append_right (Nat.le_refl _)] at hb
      simp at hb
      rcases fold_bits acc i _ _ hb with hb | ⟨e, he, hbe, hb⟩
      · simp at hb
      · intro listed hd hl
        have hon := hl o h0 e (by simpa using he) hbe
        rcases hb with rfl | hb
        · exact hon
        · exact h e.on i hb listed hd (fun o' ho' e' he' hbe' => hd e.on o' ho' hon e' he' hbe')
    · rw [List.getD_eq_getElem?_getD, List.getElem?_eq_none (by simp; omega)] at hb
      simp at hb
theorem needE_of {i j : Nat} {oi : Oper} {listed : Array Bool} (hi : ops[i]? = some oi) (hq : isQuiet P quiet i oi = true) (hm : isMove P quiet oi = false) (hij : i ≠ j) (hd : Down ops listed) (hj : j ∈ Region.ready .any ops listed) (hri : i ∈ Region.ready .any ops listed) (hun : listed.getD i false = false) :
    needE P quiet ops j = true := by
  have hlt : i < ops.size := (Array.getElem?_eq_some_iff.1 hi).1
  simp only [needE, List.any_eq_true, List.mem_range]
  refine ⟨i, hlt, ?_⟩
  simp only [hi, hq, hm, Bool.not_false, Bool.and_true, Bool.true_and]
  have h1 : (i == j) = false := by simpa using hij
  have h2 : ((bf ops.toList []).getD j 0).testBit i = false := by
    rw [Bool.eq_false_iff]
    intro h
    obtain ⟨_, oj, hoj, hall⟩ := mem_ready.1 hj
    have hF := bf_forced (ops := ops) ops.toList [] (fun j => by simp) (fun j i hb => by simp at hb) j i h listed hd (fun o ho e he hb => by rw [hoj] at ho; cases ho; exact hall e he hb)
    rw [hun] at hF; cases hF
  have h3 : ((bf ops.toList []).getD i 0).testBit j = false := by
    rw [Bool.eq_false_iff]
    intro h
    obtain ⟨_, oi', hoi', hall⟩ := mem_ready.1 hri
    have hF := bf_forced (ops := ops) ops.toList [] (fun j => by simp) (fun j i hb => by simp at hb) i j h listed hd (fun o ho e he hb => by rw [hoi'] at ho; cases ho; exact hall e he hb)
    have h0 := (mem_ready.1 hj).1
    have h4 : listed.getD j false = false := by
      rcases Nat.lt_or_ge j listed.size with h' | h'
      · simpa [h'] using h0
      · simp [Array.getElem?_eq_none h']
    rw [h4] at hF; cases hF
  rw [h1, h2, h3]; rfl

theorem needS_of {i j : Nat} {oj : Oper} {listed : Array Bool} (hoj : ops[j]? = some oj) (hs : isSoftIn P oj = false) (hij : i ≠ j) (hd : Down ops listed) (hj : j ∈ Region.ready .any ops listed) (hri : i ∈ Region.ready .any ops listed) :
    needS P quiet ops i = true := by
  have hlt : j < ops.size := (Array.getElem?_eq_some_iff.1 hoj).1
  have un : ∀ {k l : Nat}, k ∈ Region.ready .any ops listed → l ∈ Region.ready .any ops listed → ((bf ops.toList []).getD k 0).testBit l = false := by
    intro k l hk hl
    rw [Bool.eq_false_iff]
    intro h
    obtain ⟨_, ok, hok, hall⟩ := mem_ready.1 hk
    have hF := bf_forced (ops := ops) ops.toList [] (fun j => by simp) (fun j i hb => by simp at hb) k l h listed hd (fun o ho e he hb => by rw [hok] at ho; cases ho; exact hall e he hb)
    have h0 := (mem_ready.1 hl).1
    have h4 : listed.getD l false = false := by
      rcases Nat.lt_or_ge l listed.size with h' | h'
      · simpa [h'] using h0
      · simp [Array.getElem?_eq_none h']
    rw [h4] at hF; cases hF
  unfold needS
  split
  · rfl
  · rw [List.any_eq_true]
    refine ⟨j, List.mem_range.2 hlt, ?_⟩
    have h1 : (i == j) = false := by simpa using hij
    simp only [hoj, hs, h1, un hj hri, un hri hj]
    rfl

/-- **A quiet operation that may come up now may be taken first.** -/
theorem AnyW_first {Ei : World → World → Prop} (hX : ∀ w w' : World, Ext w w' → E w w') (hXi : ∀ w w' : World, Ext w w' → Ei w w') (hT : ∀ w w' w'' : World, Ei w w' → Ei w' w'' → Ei w w'') {Q : Act → World → Prop} {i : Nat} {oi : Oper} {v : Value} (hEi : needS P quiet ops i = true → ∀ w w', E w w' → Ei w w') (hi : ops[i]? = some oi) (hsel : ∀ (j : Nat) (o : Oper) cs b, ops[j]? = some o → o.op ≠ .select cs b)
    {mv : Bool} (hmv : mv = isMove P quiet oi) (hqi : isQuiet P quiet i oi = true) :
    ∀ (m : Nat) (listed : Array Bool) (a : Act) (w : World), Down ops listed →
      (∀ j oj, ops[j]? = some oj → j ≠ i → listed.getD j true = false → (∀ e ∈ oj.after, Region.binds .any e = true → e.on ≠ i) → oi.apart ops oj = true) →
      i ∈ Region.ready .any ops listed → Yc P Ei ops mv oi v a w →
      AnyW P E quiet ops Q m (listed.setIfInBounds i true) (a.put oi.dst v) w → AnyW P E quiet ops Q (m + 1) listed a w := by
  intro m
  induction m with
  | zero =>
    intro listed a w _ _ hr hy H w1 he
    refine ⟨fun h => (by rw [h] at hr; cases hr), fun j hj => ?_⟩
    by_cases hji : j = i
    · subst hji
      exact hy.wpOp hXi hi he fun w2 h2 => ⟨⟨fun _ => hX _ _ h2, fun _ => h2⟩, H.later (he.trans h2)⟩
    · have := ready_mono hj hji
      rw [(H w1 he).1] at this
      cases this
  | succ m ih =>
    intro listed a w hd hfree hr hy H w1 he
    refine ⟨fun h => (by rw [h] at hr; cases hr), fun j hj => ?_⟩
    by_cases hji : j = i
    · subst hji
      exact hy.wpOp hXi hi he fun w2 h2 => ⟨⟨fun _ => hX _ _ h2, fun _ => h2⟩, H.later (he.trans h2)⟩
    · have h1 := (H w1 he).2 j (ready_mono hj hji)
      obtain ⟨hjun, oj, hoj, hall⟩ := mem_ready.1 hj
      have hnot : ∀ e ∈ oj.after, Region.binds .any e = true → e.on ≠ i := fun e he hb heq => by
        have h1 := hall e he hb
        have h0 := (mem_ready.1 hr).1
        rw [heq] at h1
        rcases Nat.lt_or_ge i listed.size with h' | h'
        · simp [h'] at h0 h1; rw [h0] at h1; cases h1
        · simp [Array.getElem?_eq_none h'] at h1
      have h2 := wpOp_putC hoj (hfree j oj hoj hji hjun hnot) (fun cs b => hsel i oi cs b hi) (fun cs b => hsel j oj cs b hoj) hy h1
      have hfree' : ∀ k ok, ops[k]? = some ok → k ≠ i → (listed.setIfInBounds j true).getD k true = false →
          (∀ e ∈ ok.after, Region.binds .any e = true → e.on ≠ i) → oi.apart ops ok = true := fun k ok hk hki hun hno => by
        refine hfree k ok hk hki ?_ hno
        by_cases hjk : j = k
        · subst hjk; exact hjun
        · rw [getD_set_ne true hjk] at hun; exact hun
      refine wpOp_mono (fun a' w' h3 => ?_) h2
      obtain ⟨hy', hE, hXX⟩ := h3
      refine ⟨hE, ?_⟩
      -- the worlds beyond w' are such that i yields there what it does
      have hmvE : mv = true ∨ Ei w w' := by
        cases hm : isMove P quiet oi with
        | true => exact .inl (hmv.trans hm)
        | false =>
          cases hso : isSoftIn P oj with
          | true => exact .inr (hT _ _ _ (hXi _ _ he) (hXi _ _ (hE.2 (by unfold isSoftAt; rw [hoj]; exact hso))))
          | false =>
          refine .inr (hT _ _ _ (hXi _ _ he) (hEi (needS_of hoj hso (Ne.symm hji) hd hj hr) _ _ (hE.1 (needE_of hi hqi hm (Ne.symm hji) hd hj hr ?_))))
          have h0 := (mem_ready.1 hr).1
          rcases Nat.lt_or_ge i listed.size with h' | h'
          · simpa [h'] using h0
          · simp [Array.getElem?_eq_none h']
      exact ih (listed.setIfInBounds j true) a' w' (down_set hd hj) hfree' (ready_mono hr (Ne.symm hji)) (Yc.later (E := Ei) hT hy' hmvE) (by rw [Array.setIfInBounds_comm _ _ hji]; exact hXX)

end
end Go.Vc

/- 'den' is sound: a whole body. Conditions: none. -/
namespace Go.Vc
section
variable {P : Program} {ops : Array Oper} {quiet : List Nat} {n : Nat}

theorem pickSoft_ok {listed : Array Bool} : ∀ (l : List Nat) {i : Nat}, pickSoft P quiet ops listed l = some i → i ∈ l ∧ ∃ o, ops[i]? = some o ∧ isQuiet P quiet i o = true ∧ Region.free .any ops listed i = true
  | [], _, h => by cases h
  | j :: r, i, h => by
    unfold pickSoft at h
    split at h
    · rename_i o ho
      split at h
      · rename_i hc
        cases h
        simp only [Bool.and_eq_true] at hc
        exact ⟨by simp, o, ho, hc.1, hc.2⟩
      · obtain ⟨h1, h2⟩ := pickSoft_ok r h; exact ⟨by simp [h1], h2⟩
    · obtain ⟨h1, h2⟩ := pickSoft_ok r h; exact ⟨by simp [h1], h2⟩

theorem soft_all {o : Oper} {env : Env} {a : Act} {w : World} {K : Value → Option (Option Bool) → Prop} (he : a.eval = ev env) (hk : EnvOk env) (hs : isSoftIn P o = true) (h : softD P o env w K) :
    ∃ v kb, (∀ w', (isMove P quiet o = true ∨ Ext w w') → (execOp a.eval o).run P w' = .ok (.value v) w') ∧ K v kb ∧ (∀ b, kb = some b → v = kv b) := by
  obtain ⟨v, kb, h1, h2, h3⟩ := soft_ok he hk hs h
  refine ⟨v, kb, fun w' hw' => ?_, h2, h3⟩
  rcases hw' with hm | hE
  · have h0 := h1 w (Ext.refl w)
    obtain ⟨dst, op, type, pos, after, guard⟩ := o
    cases op <;> (try (simp [isMove] at hm; done))
    · simp [execOp] at h0 ⊢; exact h0
    · simp [execOp] at h0 ⊢; exact h0
    · rename_i op t x y yt
      simp only [isMove] at hm
      split at hm
      · rename_i k hu
        simp only [softD, binD, hu] at h
        obtain ⟨u, hu1, -⟩ := intD_ok (P := P) (t := t) (xo := x) (yo := y) h
        have hr : ∀ w', (execOp a.eval ⟨dst, .binOp op t x y yt, type, pos, after, guard⟩).run P w' = .ok (.value u) w' := fun w' => by
          rw [show execOp a.eval ⟨dst, .binOp op t x y yt, type, pos, after, guard⟩ = (do pure (.value (← (do eqGuard op t x y (a.eval x) (a.eval y); binOp op t (a.eval x) (a.eval y))))) by simp only [execOp], he]
          rw [Sem.run_bind, hu1 w']
          rfl
        have e := h0.symm.trans (hr w)
        cases e
        exact hr w'
      · cases hm
    · rename_i s x f
      clear hm
      simp only [softD] at h
      obtain ⟨fs, fl, i, g, hu, hf, hi, hg, hz, ad, hx, -⟩ := fldD_ok h
      have hr : ∀ w', (execOp a.eval ⟨dst, .fieldAddr s x f, type, pos, after, guard⟩).run P w' = .ok (.value (.pointer (some (ad.add fl.offset)))) w' := fun w' => by
        simp [execOp, he, hx, Instr.fieldAt, run_und hu, hf, Instr.sureAddr, fieldPlace, run_size hi, hz]
      have e := h0.symm.trans (hr w)
      cases e
      exact hr w'
    · rename_i t x ix
      simp only [isMove] at hm
      split at hm
      · rename_i el hu
        simp only [softD, elemD, hu] at h
        split at h
        · rename_i ti hi
          obtain ⟨ad, n, c, k, j, hx, hj, g1, g2, -⟩ := h
          have hr : ∀ w', (execOp a.eval ⟨dst, .indexAddr t x ix, type, pos, after, guard⟩).run P w' = .ok (.value (.pointer (some (ad.add (j.toNat * ti.size))))) w' := fun w' => by
            simp [execOp, he, hx, hj, Instr.indexAt, run_und hu, asIntOf, run_size hi, g1, g2]
          have e := h0.symm.trans (hr w)
          cases e
          exact hr w'
        · exact h.elim
      · cases hm
  · exact h1 w' hE

theorem allD_mem {F : Nat → Prop} : ∀ {l : List Nat} {i : Nat}, allD l F → i ∈ l → F i
  | [], _, _, h => by cases h
  | [j], i, h, hm => by simp at hm; subst hm; exact h
  | j :: k :: r, i, h, hm => by
    obtain ⟨h1, h2⟩ := h
    cases hm with
    | head => exact h1
    | tail _ hm => exact allD_mem h2 hm

theorem exq_ok {b : Bool} {w w' : World} {A : Prop} (h : exq b w w' A) : (b = true → Ext w w') ∧ A := by
  cases b
  · exact ⟨(fun e => by cases e), h⟩
  · exact ⟨fun _ => h.1, h.2⟩

theorem drD_ok (hs : Region.noSelect ops = true) {W : List Nat} (hW : ∀ (i : Nat) (o : Oper), ops[i]? = some o → ∀ d, o.dst = some d → d ∈ W) {K : Cont} : ∀ (m : Nat) (listed : Array Bool) (env : Env) (a : Act) (w : World),
    drD P n quiet ops m listed env w K → Ag n env a → Down ops listed → AnyW P Ext quiet ops (fun a' w' => ∃ env', K env' w' ∧ Ag n env' a' ∧ Same W env env') m listed a w := by
  intro m
  induction m with
  | zero =>
    intro listed env a w h ha _ w1 he
    unfold drD at h
    split at h
    · rename_i h0; exact ⟨h0, env, h w1 he, ha, Same.refl _ _⟩
    · exact h.elim
  | succ m ih =>
    intro listed env a w h ha hd
    have weaken : ∀ {env1 : Env} {m : Nat} {listed : Array Bool} {a : Act} {w : World}, Same W env env1 → AnyW P Ext quiet ops (fun a' w' => ∃ env', K env' w' ∧ Ag n env' a' ∧ Same W env1 env') m listed a w →
        AnyW P Ext quiet ops (fun a' w' => ∃ env', K env' w' ∧ Ag n env' a' ∧ Same W env env') m listed a w := by
      intro env1 m
      induction m with
      | zero => intro listed a w hS h w1 he; obtain ⟨h1, e, h2, h3, h4⟩ := h w1 he; exact ⟨h1, e, h2, h3, hS.trans h4⟩
      | succ m ihm =>
        intro listed a w hS h w1 he
        obtain ⟨h1, h2⟩ := h w1 he
        refine ⟨fun h0 => ?_, fun i hi => wpOp_mono (fun a' w' ⟨hE, hh⟩ => ⟨hE, ihm hS hh⟩) (h2 i hi)⟩
        obtain ⟨e, h2, h3, h4⟩ := h1 h0
        exact ⟨e, h2, h3, hS.trans h4⟩
    unfold drD at h
    split at h
    · rename_i h0
      intro w1 he
      exact ⟨fun _ => ⟨env, h w1 he, ha, Same.refl _ _⟩, fun i hi => by rw [h0] at hi; cases hi⟩
    · rename_i r0 rs hr
      split at h
      · rename_i i hp
        obtain ⟨hmem, o, ho, hq, hfree⟩ := pickSoft_ok _ hp
        have hin : i ∈ Region.ready .any ops listed := by rw [hr]; exact hmem
        simp only [ho] at h
        obtain ⟨env1, ha1, hs1, hc⟩ := wantD_ok (W := W) h ha
        refine weaken hs1 ?_
        have first : ∀ {v : Value}, Yc P Ext ops (isMove P quiet o) o v a w → AnyW P Ext quiet ops (fun a' w' => ∃ env', K env' w' ∧ Ag n env' a' ∧ Same W env1 env') m (listed.setIfInBounds i true) (a.put o.dst v) w → _ := fun {v} hy H =>
          AnyW_first (P := P) (E := Ext) (Ei := Ext) (quiet := quiet) (fun _ _ h => h) (fun _ _ h => h) (fun _ _ _ h k => h.trans k) (fun _ _ _ h => h) ho (Region.noSelect_spec hs) rfl hq m listed a w hd (Region.free_spec ho hfree) hin hy H
        have rest : ∀ {v : Value} {kb : Option (Option Bool)}, putD n env1 o.dst v kb (fun env' => drD P n quiet ops m (listed.setIfInBounds i true) env' w K) → (∀ b, kb = some b → v = kv b) →
            AnyW P Ext quiet ops (fun a' w' => ∃ env', K env' w' ∧ Ag n env' a' ∧ Same W env1 env') m (listed.setIfInBounds i true) (a.put o.dst v) w := by
          intro v kb hp hkb
          obtain ⟨env2, h2, ha2, hs2⟩ := putD_ok hp ha1 hkb (hW i o ho)
          have := ih _ env2 _ w h2 ha2 (down_set hd hin)
          have wk : ∀ {m : Nat} {listed : Array Bool} {a : Act} {w : World}, AnyW P Ext quiet ops (fun a' w' => ∃ env', K env' w' ∧ Ag n env' a' ∧ Same W env2 env') m listed a w →
              AnyW P Ext quiet ops (fun a' w' => ∃ env', K env' w' ∧ Ag n env' a' ∧ Same W env1 env') m listed a w := by
            intro m
            induction m with
            | zero => intro listed a w h w1 he; obtain ⟨h1, e, h2, h3, h4⟩ := h w1 he; exact ⟨h1, e, h2, h3, hs2.trans h4⟩
            | succ m ihm =>
              intro listed a w h w1 he
              obtain ⟨h1, h2⟩ := h w1 he
              refine ⟨fun h0 => ?_, fun i hi => wpOp_mono (fun a' w' ⟨hE, hh⟩ => ⟨hE, ihm hh⟩) (h2 i hi)⟩
              obtain ⟨e, h2, h3, h4⟩ := h1 h0
              exact ⟨e, h2, h3, hs2.trans h4⟩
          exact wk this
        rcases hc with ⟨hw, hA⟩ | ⟨hw, hB⟩
        · split at hA
          · rename_i hsoft
            obtain ⟨v, kb, hrun, hp, hkb⟩ := soft_all ha1.eval ha1.ok hsoft hA
            exact first (.inl ⟨hw, fun w' hw' => by rw [hrun w' hw']; exact ⟨rfl, rfl⟩⟩) (rest hp hkb)
          · rename_i hsoft
            have hnm : isMove P quiet o = false := by
              cases hm : isMove P quiet o with
              | false => rfl
              | true =>
                obtain ⟨dst, op, type, pos, after, guard⟩ := o
                cases op <;> first | (simp [isMove] at hm; done) | (simp [isSoftIn, isSoft] at hsoft)
            obtain ⟨dst, op, type, pos, after, guard⟩ := o
            cases op <;> first | exact hA.elim | skip
            rename_i c
            obtain ⟨callee, args, argTypes⟩ := c
            cases callee <;> first | exact hA.elim | skip
            rename_i f
            obtain ⟨v, hv, hp⟩ := hA
            refine first (.inl ⟨hw, fun w' hw' => ?_⟩) (rest hp fun b e => by cases e)
            have hE : Ext w w' := hw'.resolve_left (by rw [hnm]; simp)
            have hx : execOp a.eval ⟨dst, .call ⟨.value f, args, argTypes⟩, type, pos, after, guard⟩ = (do let d ← Deferred.ofValue (ev env1 f) (evs env1 args).toArray; invoke d.target d.args) := by
              rw [evs_eq ha1.eval, ← ha1.eval]
              simp only [execOp, resolve]
            obtain ⟨T, ⟨fn, fst, cap, hfv, hb, hcall⟩ | ⟨fn, fst, cap, u, hfv, hr, hu⟩, hT⟩ := hv w' hE
            · rw [hx, invoke_run hfv hb]
              exact ⟨rfl, hcall.mono fun e w3 ⟨u, he, hu⟩ => ⟨by rw [he, (hT _ _ hu).1], (hT _ _ hu).2⟩⟩
            · rw [hx, invoke_runX hfv, hr]
              exact ⟨rfl, (hT _ _ hu).1⟩
        · exact first (.inr ⟨hw, rfl⟩) (rest hB fun b e => by cases e; rfl)
      · intro w1 he
        refine ⟨(fun h0 => by rw [h0] at hr; cases hr), fun i hi => ?_⟩
        have hi0 := hi
        rw [hr] at hi
        have hF := allD_mem (h w1 he) hi
        cases ho : ops[i]? with
        | none => simp only [ho] at hF
        | some o =>
          simp only [ho] at hF
          obtain ⟨env1, ha1, hs1, hc⟩ := wantD_ok (W := W) hF ha
          unfold wpOp
          simp only [ho]
          have rest : ∀ {v : Value} {kb : Option (Option Bool)} {w2 : World}, (∀ b, kb = some b → v = kv b) → putD n env1 o.dst v kb (fun env' => drD P n quiet ops m (listed.setIfInBounds i true) env' w2 K) →
              AnyW P Ext quiet ops (fun a' w' => ∃ env', K env' w' ∧ Ag n env' a' ∧ Same W env env') m (listed.setIfInBounds i true) (a.put o.dst v) w2 := by
            intro v kb w2 hkb hp
            obtain ⟨env2, h2, ha2, hs2⟩ := putD_ok hp ha1 hkb (hW i o ho)
            exact weaken (hs1.trans hs2) (ih _ env2 _ w2 h2 ha2 (down_set hd hi0))
          rcases hc with ⟨hw, hA⟩ | ⟨hw, hB⟩
          · rw [hw]
            refine .inl ?_
            split at hA
            · exact hA.elim
            rename_i hso
            refine Oper.wp_mono (fun a' w' ⟨v, e, hp⟩ => ?_) (hard_ok ha1.eval hA)
            obtain ⟨hE, hp⟩ := exq_ok hp
            rw [e]
            exact ⟨⟨hE, fun h => (by unfold isSoftAt at h; rw [ho] at h; exact absurd h (by simpa using hso))⟩, rest (fun b e => by cases e) hp⟩
          · rw [hw]
            exact ⟨⟨fun _ => Ext.refl _, fun _ => Ext.refl _⟩, rest (fun b e => by cases e; rfl) hB⟩

theorem chX {D : Nat → Prop} {w w' : World} (h : Ext w w') : Ch D w w' := ⟨h.os, h.tape, h.output, h.size, fun k hk _ => h.block k hk⟩
theorem chT {D : Nat → Prop} {w w' w'' : World} (h : Ch D w w') (k : Ch D w' w'') : Ch D w w'' :=
  ⟨k.os.trans h.os, k.tape.trans h.tape, k.output.trans h.output, Nat.le_trans h.size k.size, fun i hi hn => (k.block i (by have := h.size; omega) hn).trans (h.block i hi hn)⟩
theorem bare_ext {D : Nat → Prop} {w w' : World} (h : Ch D w w') : Ext (bare w) w' := ⟨h.os, h.tape, h.output, Nat.zero_le _, fun k hk => absurd hk (Nat.not_lt_zero k)⟩
theorem exqE_ok {D : Nat → Prop} {b : Bool} {w w' : World} {A : Prop} (h : exqE D b w w' A) : (b = true → Ch D w w') ∧ A := by
  cases b
  · exact ⟨(fun e => by cases e), h⟩
  · exact ⟨fun _ => h.1, h.2⟩
theorem soft_allE {D : Nat → Prop} {o : Oper} {env : Env} {a : Act} {w : World} {K : Value → Option (Option Bool) → Prop} (he : a.eval = ev env) (hk : EnvOk env) (hs : isSoftIn P o = true) (h : softE P D o env w K) :
    ∃ v kb, (∀ w', (isMove P quiet o = true ∨ Ch D w w') → (execOp a.eval o).run P w' = .ok (.value v) w') ∧ K v kb ∧ (∀ b, kb = some b → v = kv b) := by
  have other : softD P o env (bare w) K → ∃ v kb, (∀ w', (isMove P quiet o = true ∨ Ch D w w') → (execOp a.eval o).run P w' = .ok (.value v) w') ∧ K v kb ∧ (∀ b, kb = some b → v = kv b) := fun h => by
    obtain ⟨v, kb, h1, h2, h3⟩ := soft_all he hk hs h
    exact ⟨v, kb, fun w' hw' => h1 w' (hw'.imp id bare_ext), h2, h3⟩
  obtain ⟨dst, op, type, pos, after, guard⟩ := o
  cases op <;> first | exact other h | skip
  rename_i t x
  obtain ⟨v, hv, hst, hK⟩ := ldD_ok (P := P) (show ldD P w t (ev env x) fun v => (∀ w', Ch D w w' → ldD P w' t (ev env x) fun u => u = v) ∧ K v none from h)
  refine ⟨v, none, fun w' hw' => ?_, hK, fun b e => by cases e⟩
  have hC : Ch D w w' := hw'.resolve_left (by simp [isMove])
  obtain ⟨u, hu, e⟩ := ldD_ok (P := P) (hst w' hC)
  subst e
  simp only [execOp, he]
  have := hu w' (Ext.refl _)
  simp [this]
theorem drE_ok {D : Nat → Prop} (hs : Region.noSelect ops = true) {W : List Nat} (hW : ∀ (i : Nat) (o : Oper), ops[i]? = some o → ∀ d, o.dst = some d → d ∈ W) {K : Cont} : ∀ (m : Nat) (listed : Array Bool) (env : Env) (a : Act) (w : World),
    drE P n quiet ops D m listed env w K → Ag n env a → Down ops listed → AnyW P (Ch D) quiet ops (fun a' w' => ∃ env', K env' w' ∧ Ag n env' a' ∧ Same W env env') m listed a w := by
  intro m
  induction m with
  | zero =>
    intro listed env a w h ha _ w1 he
    unfold drE at h
    split at h
    · rename_i h0; exact ⟨h0, env, h w1 he, ha, Same.refl _ _⟩
    · exact h.elim
  | succ m ih =>
    intro listed env a w h ha hd
    have weaken : ∀ {env1 : Env} {m : Nat} {listed : Array Bool} {a : Act} {w : World}, Same W env env1 → AnyW P (Ch D) quiet ops (fun a' w' => ∃ env', K env' w' ∧ Ag n env' a' ∧ Same W env1 env') m listed a w →
        AnyW P (Ch D) quiet ops (fun a' w' => ∃ env', K env' w' ∧ Ag n env' a' ∧ Same W env env') m listed a w := by
      intro env1 m
      induction m with
      | zero => intro listed a w hS h w1 he; obtain ⟨h1, e, h2, h3, h4⟩ := h w1 he; exact ⟨h1, e, h2, h3, hS.trans h4⟩
      | succ m ihm =>
        intro listed a w hS h w1 he
        obtain ⟨h1, h2⟩ := h w1 he
        refine ⟨fun h0 => ?_, fun i hi => wpOp_mono (fun a' w' ⟨hE, hh⟩ => ⟨hE, ihm hS hh⟩) (h2 i hi)⟩
        obtain ⟨e, h2, h3, h4⟩ := h1 h0
        exact ⟨e, h2, h3, hS.trans h4⟩
    unfold drE at h
    split at h
    · rename_i h0
      intro w1 he
      exact ⟨fun _ => ⟨env, h w1 he, ha, Same.refl _ _⟩, fun i hi => by rw [h0] at hi; cases hi⟩
    · rename_i r0 rs hr
      split at h
      · rename_i i hp
        obtain ⟨hmem, o, ho, hq, hfree⟩ := pickSoft_ok _ hp
        have hin : i ∈ Region.ready .any ops listed := by rw [hr]; exact hmem
        simp only [ho] at h
        obtain ⟨env1, ha1, hs1, hc⟩ := wantD_ok (W := W) h ha
        refine weaken hs1 ?_
        have first0 : ∀ {v : Value}, needS P quiet ops i = false → Yc P Ext ops (isMove P quiet o) o v a w → AnyW P (Ch D) quiet ops (fun a' w' => ∃ env', K env' w' ∧ Ag n env' a' ∧ Same W env1 env') m (listed.setIfInBounds i true) (a.put o.dst v) w → _ := fun {v} hn hy H =>
          AnyW_first (P := P) (E := Ch D) (Ei := Ext) (quiet := quiet) (fun _ _ h => chX h) (fun _ _ h => h) (fun _ _ _ h k => h.trans k) (fun h => (by rw [hn] at h; cases h)) ho (Region.noSelect_spec hs) rfl hq m listed a w hd (Region.free_spec ho hfree) hin hy H
        have first : ∀ {v : Value}, Yc P (Ch D) ops (isMove P quiet o) o v a w → AnyW P (Ch D) quiet ops (fun a' w' => ∃ env', K env' w' ∧ Ag n env' a' ∧ Same W env1 env') m (listed.setIfInBounds i true) (a.put o.dst v) w → _ := fun {v} hy H =>
          AnyW_first (P := P) (E := Ch D) (Ei := Ch D) (quiet := quiet) (fun _ _ h => chX h) (fun _ _ h => chX h) (fun _ _ _ h k => chT h k) (fun _ _ _ h => h) ho (Region.noSelect_spec hs) rfl hq m listed a w hd (Region.free_spec ho hfree) hin hy H
        have rest : ∀ {v : Value} {kb : Option (Option Bool)}, putD n env1 o.dst v kb (fun env' => drE P n quiet ops D m (listed.setIfInBounds i true) env' w K) → (∀ b, kb = some b → v = kv b) →
            AnyW P (Ch D) quiet ops (fun a' w' => ∃ env', K env' w' ∧ Ag n env' a' ∧ Same W env1 env') m (listed.setIfInBounds i true) (a.put o.dst v) w := by
          intro v kb hp hkb
          obtain ⟨env2, h2, ha2, hs2⟩ := putD_ok hp ha1 hkb (hW i o ho)
          have := ih _ env2 _ w h2 ha2 (down_set hd hin)
          have wk : ∀ {m : Nat} {listed : Array Bool} {a : Act} {w : World}, AnyW P (Ch D) quiet ops (fun a' w' => ∃ env', K env' w' ∧ Ag n env' a' ∧ Same W env2 env') m listed a w →
              AnyW P (Ch D) quiet ops (fun a' w' => ∃ env', K env' w' ∧ Ag n env' a' ∧ Same W env1 env') m listed a w := by
            intro m
            induction m with
            | zero => intro listed a w h w1 he; obtain ⟨h1, e, h2, h3, h4⟩ := h w1 he; exact ⟨h1, e, h2, h3, hs2.trans h4⟩
            | succ m ihm =>
              intro listed a w h w1 he
              obtain ⟨h1, h2⟩ := h w1 he
              refine ⟨fun h0 => ?_, fun i hi => wpOp_mono (fun a' w' ⟨hE, hh⟩ => ⟨hE, ihm hh⟩) (h2 i hi)⟩
              obtain ⟨e, h2, h3, h4⟩ := h1 h0
              exact ⟨e, h2, h3, hs2.trans h4⟩
          exact wk this
        rcases hc with ⟨hw, hA⟩ | ⟨hw, hB⟩
        · split at hA
          · rename_i hsoft
            unfold softF at hA
            split at hA
            · obtain ⟨v, kb, hrun, hp, hkb⟩ := soft_allE ha1.eval ha1.ok hsoft hA
              exact first (.inl ⟨hw, fun w' hw' => by rw [hrun w' hw']; exact ⟨rfl, rfl⟩⟩) (rest hp hkb)
            · rename_i hns
              obtain ⟨v, kb, hrun, hp, hkb⟩ := soft_all ha1.eval ha1.ok hsoft hA
              exact first0 hns (.inl ⟨hw, fun w' hw' => by rw [hrun w' hw']; exact ⟨rfl, rfl⟩⟩) (rest hp hkb)
          · rename_i hsoft
            have hnm : isMove P quiet o = false := by
              cases hm : isMove P quiet o with
              | false => rfl
              | true =>
                obtain ⟨dst, op, type, pos, after, guard⟩ := o
                cases op <;> first | (simp [isMove] at hm; done) | (simp [isSoftIn, isSoft] at hsoft)
            obtain ⟨dst, op, type, pos, after, guard⟩ := o
            cases op <;> first | exact hA.elim | skip
            rename_i c
            obtain ⟨callee, args, argTypes⟩ := c
            cases callee <;> first | exact hA.elim | skip
            rename_i f
            obtain ⟨v, hv, hp⟩ := hA
            refine first (.inl ⟨hw, fun w' hw' => ?_⟩) (rest hp fun b e => by cases e)
            have hE : Ch D w w' := hw'.resolve_left (by rw [hnm]; simp)
            have hx : execOp a.eval ⟨dst, .call ⟨.value f, args, argTypes⟩, type, pos, after, guard⟩ = (do let d ← Deferred.ofValue (ev env1 f) (evs env1 args).toArray; invoke d.target d.args) := by
              rw [evs_eq ha1.eval, ← ha1.eval]
              simp only [execOp, resolve]
            obtain ⟨T, ⟨fn, fst, cap, hfv, hb, hcall⟩ | ⟨fn, fst, cap, u, hfv, hr, hu⟩, hT⟩ := hv w' hE
            · rw [hx, invoke_run hfv hb]
              exact ⟨rfl, hcall.mono fun e w3 ⟨u, he, hu⟩ => ⟨by rw [he, (hT _ _ hu).1], (hT _ _ hu).2⟩⟩
            · rw [hx, invoke_runX hfv, hr]
              exact ⟨rfl, (hT _ _ hu).1⟩
        · exact first (.inr ⟨hw, rfl⟩) (rest hB fun b e => by cases e; rfl)
      · intro w1 he
        refine ⟨(fun h0 => by rw [h0] at hr; cases hr), fun i hi => ?_⟩
        have hi0 := hi
        rw [hr] at hi
        have hF := allD_mem (h w1 he) hi
        cases ho : ops[i]? with
        | none => simp only [ho] at hF
        | some o =>
          simp only [ho] at hF
          obtain ⟨env1, ha1, hs1, hc⟩ := wantD_ok (W := W) hF ha
          unfold wpOp
          simp only [ho]
          have rest : ∀ {v : Value} {kb : Option (Option Bool)} {w2 : World}, (∀ b, kb = some b → v = kv b) → putD n env1 o.dst v kb (fun env' => drE P n quiet ops D m (listed.setIfInBounds i true) env' w2 K) →
              AnyW P (Ch D) quiet ops (fun a' w' => ∃ env', K env' w' ∧ Ag n env' a' ∧ Same W env env') m (listed.setIfInBounds i true) (a.put o.dst v) w2 := by
            intro v kb w2 hkb hp
            obtain ⟨env2, h2, ha2, hs2⟩ := putD_ok hp ha1 hkb (hW i o ho)
            exact weaken (hs1.trans hs2) (ih _ env2 _ w2 h2 ha2 (down_set hd hi0))
          rcases hc with ⟨hw, hA⟩ | ⟨hw, hB⟩
          · rw [hw]
            refine .inl ?_
            split at hA
            · exact hA.elim
            rename_i hso
            refine Oper.wp_mono (fun a' w' ⟨v, e, hp⟩ => ?_) (hard_ok ha1.eval hA)
            obtain ⟨hE, hp⟩ := exqE_ok hp
            rw [e]
            exact ⟨⟨hE, fun h => (by unfold isSoftAt at h; rw [ho] at h; exact absurd h (by simpa using hso))⟩, rest (fun b e => by cases e) hp⟩
          · rw [hw]
            exact ⟨⟨fun _ => chX (Ext.refl _), fun _ => Ext.refl _⟩, rest (fun b e => by cases e; rfl) hB⟩

end
end Go.Vc

/- 'den' is sound: whole bodies, and the step to a call. Conditions: none. -/
namespace Go.Vc
section
variable {P : Program} {n : Nat}

def exOf : Exit → Option Ex
  | .normal => some .nrm
  | .exit id => some (.ext id)
  | .ret => some .ret
  | _ => none
/-- What is reached by a piece of code: the exit, an environment that fits, and nothing outside W turned. -/
def Rch (n : Nat) (W : List Nat) (env : Env) (Q : Ex → Cont) : Exit → Act → World → Prop :=
  fun e a w => ∃ ex env', exOf e = some ex ∧ Q ex env' w ∧ Ag n env' a ∧ Same W env env'

theorem Rch.weaken {W W' : List Nat} {env env1 : Env} {Q : Ex → Cont} (hS : Same W' env env1) (hW : ∀ s, s ∈ W → s ∈ W') {e : Exit} {a : Act} {w : World} (h : Rch n W env1 Q e a w) : Rch n W' env Q e a w := by
  obtain ⟨ex, env', h1, h2, h3, h4⟩ := h
  exact ⟨ex, env', h1, h2, h3, hS.trans (h4.mono hW)⟩

theorem look_bindY {W : List Nat} {ys : Nat → Value} {env : Env} (s : Nat) : look (bindY W ys env) s = if s ∈ W then ys s else look env s := by
  induction W with
  | nil => simp [bindY]
  | cons x r ih =>
    simp only [bindY, look_cons, ih]
    by_cases h : x = s
    · subst h; simp
    · have h' : ¬ s = x := fun e => h e.symm
      simp [h, h']
theorem look_bindK {keep : List Nat} {xs : List Value} {env : Env} : ∀ {i : Nat} (f : Nat → Value), (∀ j, j < keep.length → gx xs (i + j) = f (keep.getD j 0)) → ∀ s, look (bindK keep i xs env) s = if s ∈ keep then f s else look env s := by
  induction keep with
  | nil => intro i f _ s; simp [bindK]
  | cons x r ih =>
    intro i f h s
    simp only [bindK, look_cons]
    by_cases e : x = s
    · subst e
      have := h 0 (by simp)
      simp at this
      simp [this]
    · have e' : ¬ s = x := fun h => e h.symm
      rw [if_neg e, ih (i := i + 1) f (fun j hj => by
        have := h (j + 1) (by simp; omega)
        simp only [List.getD_cons_succ] at this
        rw [← this]; congr 1; omega) s]
      simp [e']
theorem gx_getK {keep : List Nat} {env : Env} (j : Nat) (hj : j < keep.length) : gx (getK keep env) (0 + j) = look env (keep.getD j 0) := by
  simp [gx_eq, getK, hj]
theorem ok_bindY {W : List Nat} {ys : Nat → Value} {env : Env} (h : EnvOk env) : EnvOk (bindY W ys env) := by
  induction W with
  | nil => exact h
  | cons x r ih => exact ih.cons fun b e => by cases e
theorem ok_bindK {keep : List Nat} {i : Nat} {xs : List Value} {env : Env} (h : EnvOk env) : EnvOk (bindK keep i xs env) := by
  induction keep generalizing i with
  | nil => exact h
  | cons x r ih => exact ih.cons fun b e => by cases e

/-- An environment made anew from what a frame holds. -/
theorem Ag.rebind {env env0 : Env} {a : Act} {W keep : List Nat} (h : Ag n env a) (hS : Same W env0 env) (ho : EnvOk env0) : Ag n (bindK keep 0 (getK keep env) (bindY W (look env) env0)) a := by
  have hl : ∀ s, look (bindK keep 0 (getK keep env) (bindY W (look env) env0)) s = look env s := by
    intro s
    rw [look_bindK (f := look env) (fun j hj => gx_getK j hj), look_bindY]
    split
    · rfl
    · split
      · rfl
      · rename_i h1; exact (hS s h1).symm
  exact ⟨h.defers, h.size, fun s => by rw [hl s]; exact h.vals s, ok_bindK (ok_bindY ho)⟩
theorem same_rebind {env env0 : Env} {W keep : List Nat} (hS : Same W env0 env) : Same W env0 (bindK keep 0 (getK keep env) (bindY W (look env) env0)) := by
  intro s hs
  rw [look_bindK (f := look env) (fun j hj => gx_getK j hj), look_bindY, if_neg hs]
  split
  · exact hS s hs
  · rfl

theorem regD_ok {id : Nat} {ops : Array Oper} {draw eh : Bool} {quiet : List Nat} {env : Env} {a : Act} {w : World} {K : Cont} {Q : Exit → Act → World → Prop} (hm : P.follows .mixedOrders = true) (hsel : draw = true → Region.noSelect ops = true)
    (h : regD P n ops draw eh quiet env w K) (ha : Ag n env a) (hQ : ∀ env' a' w', K env' w' → Ag n env' a' → Same (dsts ops.toList) env env' → Q .normal a' w') : (Code.region id ops draw).wp P Q a w := by
  have hW : ∀ (i : Nat) (o : Oper), ops[i]? = some o → ∀ d, o.dst = some d → d ∈ dsts ops.toList := fun i o ho d hd =>
    List.mem_filterMap.2 ⟨o, by simpa using Array.mem_of_getElem? ho, hd⟩
  cases draw with
  | false =>
    refine wp_region ?_
    rw [List.range_eq_range', ← Array.length_toList, wpOps_eq_wpList ops.toList 0 (by simp)]
    exact opsD_ok (W := dsts ops.toList) ops.toList env a w h ha (fun o ho d hd => List.mem_filterMap.2 ⟨o, ho, hd⟩) hQ
  | true =>
    refine wp_region_any hm ?_
    cases eh with
    | false =>
      have := drD_ok (hsel rfl) (W := dsts ops.toList) hW ops.size _ env a w h ha (down_init _)
      refine wpAny_of_AnyW (fun a' w' ⟨env', h1, h2, h3⟩ => hQ env' a' w' h1 h2 h3) _ _ _ _ (this.later ?_)
      exact Ext.drew w
    | true =>
      obtain ⟨D, h⟩ := h
      have := drE_ok (hsel rfl) (W := dsts ops.toList) hW ops.size _ env a w h ha (down_init _)
      refine wpAny_of_AnyW (fun a' w' ⟨env', h1, h2, h3⟩ => hQ env' a' w' h1 h2 h3) _ _ _ _ (this.later ?_)
      exact Ext.drew w

/-- Where ways meet again. -/
theorem joinD_ok {keep W : List Nat} {env : Env} {K : Cont} {F : Cont → Prop} (h : joinD n keep W env K F) (ho : EnvOk env) :
    ∃ J : Cont, F J ∧ ∀ env' a' w', J env' w' → Ag n env' a' → Same W env env' → ∃ env2, K env2 w' ∧ Ag n env2 a' ∧ Same W env env2 := by
  unfold joinD at h
  split at h
  · refine ⟨_, h, fun env' a' w' hJ ha' hS => ⟨_, hJ (look env'), ha'.rebind hS ho, same_rebind hS⟩⟩
  · exact h.elim

theorem condD_ok {env : Env} {c : Operand} {A B : Env → Prop} {a : Act} (h : condD env c A B) (ha : Ag n env a) (W : List Nat) :
    ∃ b env', a.eval c = .bool b ∧ Ag n env' a ∧ Same W env env' ∧ (if b then A env' else B env') := by
  have he : a.eval c = ev env c := by rw [ha.eval]
  have evb : ∀ b, evk env c = some b → ev env c = kv b := by
    intro b hx
    cases c with
    | tmp t => exact ha.ok t b hx
    | const v => cases v <;> simp [evk] at hx; subst hx; rfl
    | _ => simp [evk] at hx
  unfold condD at h
  split at h
  · rename_i hk; exact ⟨true, env, he.trans (evb _ hk), ha, Same.refl _ _, by simpa using h⟩
  · rename_i hk; exact ⟨false, env, he.trans (evb _ hk), ha, Same.refl _ _, by simpa using h⟩
  · exact h.elim
  · split at h
    · rename_i s _
      obtain ⟨b, hb, h1, h2⟩ := h
      cases b
      · exact ⟨false, _, he.trans hb, ha.learn hb, same_learn hb, by simpa using h2 rfl⟩
      · exact ⟨true, _, he.trans hb, ha.learn hb, same_learn hb, by simpa using h1 rfl⟩
    · obtain ⟨b, hb, h1, h2⟩ := h
      refine ⟨b, env, he.trans hb, ha, Same.refl _ _, ?_⟩
      cases b
      · simpa using h2 rfl
      · simpa using h1 rfl

/-- No region of the code selects. -/
def noSel : Code → Bool
  | .region _ ops _ => Region.noSelect ops
  | .seq a b => noSel a && noSel b
  | .cond _ a b => noSel a && noSel b
  | .block _ b => noSel b
  | .loop b => noSel b
  | .scope b => noSel b
  | _ => true

theorem den_ok (hm : P.follows .mixedOrders = true) : ∀ (c : Code) (h : Hint) (Q : Ex → Cont) (env : Env) (a : Act) (w : World), noSel c = true → den P n c h Q env w → Ag n env a →
    c.wp P (Rch n (wr c) env Q) a w := by
  intro c
  induction c with
  | skip => intro h Q env a w _ hd ha; exact wp_skip ⟨.nrm, env, rfl, hd, ha, Same.refl _ _⟩
  | label l => intro h Q env a w _ hd ha; exact wp_label ⟨.nrm, env, rfl, hd, ha, Same.refl _ _⟩
  | ret => intro h Q env a w _ hd ha; exact wp_ret ⟨.ret, env, rfl, hd, ha, Same.refl _ _⟩
  | exit id => intro h Q env a w _ hd ha; exact wp_exit ⟨.ext id, env, rfl, hd, ha, Same.refl _ _⟩
  | rangeFunc => intro h Q env a w _ hd _; exact hd.elim
  | goto => intro h Q env a w _ hd _; exact hd.elim
  | refuse => intro h Q env a w _ hd _; exact hd.elim
  | region id ops draw =>
    intro h Q env a w hns hd ha
    simp only [den] at hd
    split at hd
    · exact regD_ok hm (fun _ => hns) hd ha fun env' a' w' hK hA hS => ⟨.nrm, env', rfl, hK, hA, hS⟩
    · obtain ⟨J, hJ, hK⟩ := joinD_ok hd ha.ok
      exact regD_ok hm (fun _ => hns) hJ ha fun env' a' w' hj hA hS => by
        obtain ⟨env2, h1, h2, h3⟩ := hK env' a' w' hj hA hS
        exact ⟨.nrm, env2, rfl, h1, h2, h3⟩
  | seq x y ihx ihy =>
    intro h Q env a w hns hd ha
    simp only [noSel, Bool.and_eq_true] at hns
    refine wp_seq (wp_mono (ihx (hL h) _ env a w hns.1 hd ha) fun e a' w' hr => ?_)
    obtain ⟨ex, env', h1, h2, h3, h4⟩ := hr
    have h4' : Same (wr (.seq x y)) env env' := h4.mono fun s hs => by simp [wr, hs]
    cases e <;> simp only [exOf, Option.some.injEq] at h1 <;> first | (cases h1; done) | skip
    · subst h1
      refine wp_mono (ihy (hR h) Q env' a' w' hns.2 h2 h3) fun e a w hr => hr.weaken h4' fun s hs => by simp [wr, hs]
    · subst h1; exact ⟨_, env', rfl, h2, h3, h4'⟩
    · subst h1; exact ⟨_, env', rfl, h2, h3, h4'⟩
  | cond c x y ihx ihy =>
    intro h Q env a w hns hd ha
    simp only [noSel, Bool.and_eq_true] at hns
    simp only [den] at hd
    have go : ∀ (Q1 : Ex → Cont), condD env c (fun env => den P n x (hL h) Q1 env w) (fun env => den P n y (hR h) Q1 env w) → (Code.cond c x y).wp P (Rch n (wr x ++ wr y) env Q1) a w := by
      intro Q1 hc
      obtain ⟨b, env', hb, hA, hS, hr⟩ := condD_ok hc ha (wr x ++ wr y)
      cases b
      · exact wp_cond hb (wp_mono (ihy (hR h) Q1 env' a w hns.2 (by simpa using hr) hA) fun e a w hr => hr.weaken hS fun s hs => by simp [hs])
      · exact wp_cond hb (wp_mono (ihx (hL h) Q1 env' a w hns.1 (by simpa using hr) hA) fun e a w hr => hr.weaken hS fun s hs => by simp [hs])
    split at hd
    · exact go Q hd
    · obtain ⟨J, hJ, hK⟩ := joinD_ok hd ha.ok
      refine wp_mono (go (thenD J Q) hJ) fun e a' w' hr => ?_
      obtain ⟨ex, env', h1, h2, h3, h4⟩ := hr
      cases ex with
      | nrm =>
        obtain ⟨env2, g1, g2, g3⟩ := hK env' a' w' h2 h3 h4
        exact ⟨.nrm, env2, h1, g1, g2, g3⟩
      | ext i => exact ⟨_, env', h1, h2, h3, h4⟩
      | ret => exact ⟨_, env', h1, h2, h3, h4⟩
  | block id b ih =>
    intro h Q env a w hns hd ha
    refine wp_block (wp_mono (ih h _ env a w hns hd ha) fun e a' w' hr => ?_)
    obtain ⟨ex, env', h1, h2, h3, h4⟩ := hr
    cases e <;> simp only [exOf, Option.some.injEq] at h1 <;> first | (cases h1; done) | skip
    · subst h1; exact ⟨_, env', rfl, h2, h3, h4⟩
    · rename_i i
      subst h1
      simp only [Exit.inBlock, blockD] at h2 ⊢
      split at h2
      · rename_i e
        rw [if_pos (Nat.eq_of_beq_eq_true e)]
        exact ⟨.nrm, env', rfl, h2, h3, h4⟩
      · rename_i e
        rw [if_neg (fun h => by subst h; simp at e)]
        exact ⟨_, env', rfl, h2, h3, h4⟩
    · subst h1; exact ⟨_, env', rfl, h2, h3, h4⟩
  | scope b ih =>
    intro h Q env a w hns hd ha
    refine wp_scope_straight (wp_mono (ih h _ env a w hns hd ha) fun e a' w' hr => ?_)
    obtain ⟨ex, env', h1, h2, h3, h4⟩ := hr
    cases e <;> simp only [exOf, Option.some.injEq] at h1 <;> first | (cases h1; done) | skip
    all_goals (subst h1; exact ⟨_, env', rfl, h2, h3, h4⟩)
  | loop b ih =>
    intro h Q env a w hns hd ha
    simp only [den] at hd
    split at hd
    · obtain ⟨I, ⟨m0, h0⟩, hround⟩ := hd
      generalize hkk : (hK h).getD [] = keep at *
      refine wp_loop_ghost (fun m a' w' => ∃ env', Ag n env' a' ∧ Same (wr b) env env' ∧ I m (getK keep env') w') m0 ⟨env, ha, Same.refl _ _, h0⟩ ?_
      rintro m a' w' ⟨env', ha', hS', hI⟩
      have hb := hround m (getK keep env') w' hI (look env')
      refine wp_mono (ih (hL h) _ _ a' w' hns hb (ha'.rebind hS' ha.ok)) fun e a2 w2 hr => ?_
      obtain ⟨ex, env2, h1, h2, h3, h4⟩ := hr
      have hS2 : Same (wr b) env env2 := (same_rebind hS').trans h4
      cases e <;> simp only [exOf, Option.some.injEq] at h1 <;> first | (cases h1; done) | skip
      · subst h1
        obtain ⟨m', hlt, hI2⟩ := h2
        exact ⟨m', hlt, env2, h3, hS2, hI2⟩
      · subst h1; exact ⟨_, env2, rfl, h2, h3, hS2⟩
      · subst h1; exact ⟨_, env2, rfl, h2, h3, hS2⟩
    · exact hd.elim

theorem look_init : ∀ (l : List Value) (i s : Nat), look (initEnv i l) s = if i ≤ s then l.getD (s - i) undef else undef
  | [], i, s => by simp [initEnv, look]
  | v :: r, i, s => by
    simp only [initEnv, look_cons, look_init r (i + 1) s]
    by_cases h : i = s
    · subst h; simp
    · by_cases h2 : i ≤ s
      · have : s - i = (s - (i + 1)) + 1 := by omega
        simp [h, h2, show i + 1 ≤ s by omega, this]
      · simp [h, h2, show ¬ i + 1 ≤ s by omega]
theorem ok_init : ∀ (l : List Value) (i : Nat), EnvOk (initEnv i l)
  | [], _ => fun s b e => by cases e
  | v :: r, i => (ok_init r (i + 1)).cons fun b e => by cases e

def resS (tmps : Array Value) (x : ResultVar) : Sem Value :=
  match x with
  | .tmp t => pure (tmps.getD t undef)
  | .cell a t => do loadVar t (← asAddr (tmps.getD a undef))
theorem resD_ok {env : Env} {tmps : Array Value} {w : World} (hv : ∀ s, tmps.getD s undef = look env s) : ∀ (l : List ResultVar) (K : List Value → Prop), resD P env w l K →
    ∃ vs, (l.mapM (resS tmps)).run P w = .ok vs w ∧ K vs
  | [], K, h => ⟨[], by simp, h⟩
  | .tmp t :: r, K, h => by
    obtain ⟨vs, h1, h2⟩ := resD_ok hv r _ h
    refine ⟨_, ?_, h2⟩
    rw [List.mapM_cons]
    simp only [Sem.run_bind, resS, Sem.run_pure, Result.andThen_ok, h1, hv t]
  | .cell a t :: r, K, h => by
    obtain ⟨v, hl, hk⟩ := ldD_ok h
    obtain ⟨vs, h1, h2⟩ := resD_ok hv r _ hk
    have hl := hl w (Ext.refl w)
    refine ⟨_, ?_, h2⟩
    rw [List.mapM_cons]
    have h0 : (resS tmps (.cell a t)).run P w = .ok v w := by
      simp only [resS, hv a]
      cases hx : look env a with
      | pointer p =>
        cases p with
        | none => rw [hx] at hl; simp [Instr.loadAt, Instr.sureAddr] at hl
        | some ad =>
          rw [hx] at hl
          simp only [Instr.loadAt, Instr.sureAddr, Sem.run_bind, Sem.run_pure, Result.andThen_ok] at hl
          simp only [asAddr, Sem.run_bind, Sem.run_pure, Result.andThen_ok, hl]
      | _ => rw [hx] at hl; simp [Instr.loadAt, Instr.sureAddr] at hl
    simp only [Sem.run_bind, Sem.run_pure, Result.andThen_ok, h1, h0]
theorem results_eq (fn : Func) (tmps : Array Value) : results fn tmps = (do let vs ← fn.results.mapM (resS tmps); pure (if h : vs.size = 1 then vs[0] else .tuple vs)) := by
  unfold results
  congr 1

theorem results_ok {fn : Func} {env : Env} {tmps : Array Value} {w : World} (hv : ∀ s, tmps.getD s undef = look env s) {R : Value → Prop} (h : resD P env w fn.results.toList fun vs => R (retV vs)) :
    ∃ v, (results fn tmps).run P w = .ok v w ∧ R v := by
  obtain ⟨vs, h1, h2⟩ := resD_ok hv fn.results.toList _ h
  refine ⟨_, ?_, h2⟩
  rw [results_eq, ← Array.toArray_toList (xs := fn.results), List.mapM_toArray]
  simp only [Sem.run_bind, Sem.run_map, h1, Result.andThen_ok, Sem.run_pure]
  congr 1
  cases vs with
  | nil => rfl
  | cons x r =>
    cases r with
    | nil => rfl
    | cons y r => simp [retV]

/-- **A call, from the proposition that 'den' makes.** -/
theorem cal_of_den {f : FuncId} {fn : Func} {c : Code} {h : Hint} {args : List Value} {w : World} {R : Value → World → Prop} (hm : P.follows .mixedOrders = true)
    (hf : P.funcs[f]? = some fn) (hn : (fn.name == "runtime.NumGoroutine") = false) (hb : fn.body = some c) (hs : noSel c = true) (ha : Nat.ble args.length fn.ntmps = true)
    (hd : denF P fn c h args w R) : Cal P f args.toArray w R := by
  refine ⟨⟨fn, hf, hn, by rw [hb]; rfl⟩, calls_of_wp hf hb ?_⟩
  have hle : args.length ≤ fn.ntmps := Nat.le_of_ble_eq_true ha
  have hA : Ag fn.ntmps (initEnv 0 args) { tmps := args.toArray ++ Array.replicate (fn.ntmps - args.toArray.size) undef, defers := [] } := by
    refine ⟨rfl, by simp; omega, fun s => ?_, ok_init _ _⟩
    rw [look_init]
    simp only [Nat.zero_le, if_true, Nat.sub_zero]
    by_cases h1 : s < args.length
    · simp [Array.getElem?_append, h1]
    · simp only [Array.getD_eq_getD_getElem?, Array.getElem?_append, List.size_toArray, h1, if_false]
      rw [show args.getD s undef = undef by simp [List.getD, List.getElem?_eq_none (show args.length ≤ s by omega)]]
      by_cases h2 : s - args.length < fn.ntmps - args.length
      · simp [h2]
      · simp [h2]
  refine wp_mono (den_ok hm c h _ _ _ w hs hd hA) fun e a' w' hr => ?_
  obtain ⟨ex, env', h1, h2, h3, h4⟩ := hr
  cases e <;> simp only [exOf, Option.some.injEq] at h1 <;> first | (cases h1; done) | skip
  · subst h1
    obtain ⟨v, hv, hR⟩ := results_ok (R := fun v => R v w') h3.vals h2
    exact ⟨h3.defers, v, hv, v, rfl, hR⟩
  · subst h1; exact h2.elim
  · subst h1
    obtain ⟨v, hv, hR⟩ := results_ok (R := fun v => R v w') h3.vals h2
    exact ⟨h3.defers, v, hv, v, rfl, hR⟩

end
end Go.Vc

/- Words for memory and one lemma for each step of a proposition that 'den' makes. Conditions: none. -/
namespace Go.Vc
open Go.RowKit (Below)

/-! ### Memory -/
/-- Block b holds these cells (of element type e), none of them frozen. -/
def Blk (e : TypeId) (w : World) (b : Nat) (cs : List Value) : Prop := w.heap[b]? = some (.cells cs.toArray e (0, 0))
theorem heap_lt {w : World} {b : Nat} {o : Obj} (h : w.heap[b]? = some o) : b < w.heap.size := by
  rcases Nat.lt_or_ge b w.heap.size with h' | h'
  · exact h'
  · simp [Array.getElem?_eq_none h'] at h
theorem Blk.lt {e : TypeId} {w : World} {b : Nat} {cs : List Value} (h : Blk e w b cs) : b < w.heap.size := heap_lt h
theorem Blk.ext {e : TypeId} {w w' : World} {b : Nat} {cs : List Value} (h : Blk e w b cs) (he : Ext w w') : Blk e w' b cs := by
  unfold Blk at *
  rw [Below.block he b (heap_lt h)]; exact h
theorem Blk.cell {e : TypeId} {w : World} {b : Nat} {cs : List Value} (h : Blk e w b cs) (i : Nat) : w.cell? ⟨b, i, none⟩ = cs[i]? := by
  unfold Blk at h
  simp [World.cell?, h]
theorem Blk.frozen {e : TypeId} {w : World} {b : Nat} {cs : List Value} (h : Blk e w b cs) (i : Nat) : w.frozen? ⟨b, i, none⟩ = false := by
  unfold Blk at h
  simp [World.frozen?, h]
theorem Blk.set {e : TypeId} {w : World} {b : Nat} {cs : List Value} (h : Blk e w b cs) (i : Nat) (v : Value) : Blk e (w.setCell ⟨b, i, none⟩ v) b (cs.set i v) := by
  unfold Blk at *
  simp [World.setCell, Array.getElem?_modify, h]
theorem Blk.new (w : World) (cs : Array Value) (e : TypeId) : Blk e (w.alloc (.cells cs e)) w.heap.size cs.toList := heap_alloc_new w _

/-- A slice value that reads as these cells (elements of one cell each). -/
def Sl (w : World) (v : Value) (xs : List Value) : Prop :=
  ∃ a c, v = .slice a xs.length c ∧ xs.length ≤ c ∧ c ≤ 9223372036854775807 ∧ (xs = [] ∨ ∃ b o, a = some ⟨b, o, none⟩ ∧ ∀ i, i < xs.length → w.cell? ⟨b, o + i, none⟩ = xs[i]?)
theorem Sl.ext {w w' : World} {v : Value} {xs : List Value} (h : Sl w v xs) (he : Ext w w') : Sl w' v xs := by
  obtain ⟨a, c, h1, h2, h3, h4⟩ := h
  refine ⟨a, c, h1, h2, h3, h4.imp id fun ⟨b, o, ha, hc⟩ => ⟨b, o, ha, fun i hi => ?_⟩⟩
  have := hc i hi
  rw [List.getElem?_eq_getElem hi] at this ⊢
  exact he.cell this
theorem Sl.len {w : World} {v : Value} {xs : List Value} (h : Sl w v xs) : xs.length ≤ 9223372036854775807 := let ⟨_, _, _, h2, h3, _⟩ := h; Nat.le_trans h2 h3
theorem Sl.nil (w : World) : Sl w (.slice none 0 0) [] := ⟨none, 0, rfl, Nat.le_refl _, by omega, .inl rfl⟩
def ints (l : List Int) : List Value := l.map (.int .i64)
theorem ints_length (l : List Int) : (ints l).length = l.length := by simp [ints]
/-- A slice of int64. -/
def SlI (w : World) (v : Value) (l : List Int) : Prop := Sl w v (ints l)
theorem SlI.ext {w w' : World} {v : Value} {l : List Int} (h : SlI w v l) (he : Ext w w') : SlI w' v l := Sl.ext h he
theorem SlI.len {w : World} {v : Value} {l : List Int} (h : SlI w v l) : l.length ≤ 9223372036854775807 := by have := Sl.len h; rwa [ints_length] at this

/-- A slice of the call's own: a row from block lo on that nobody else holds (or nil). -/
def Ow (lo : Nat) (e : TypeId) (w : World) (v : Value) (xs : List Value) : Prop := w.ownsRow lo e 1 v xs.length xs
theorem Ow.sl {lo : Nat} {e : TypeId} {w : World} {v : Value} {xs : List Value} (h : Ow lo e w v xs) : Sl w v xs := by
  obtain ⟨_, h | ⟨g, cap, cur, hv, _, hh, h1, h2, h3, h4⟩⟩ := h
  · obtain ⟨rfl, h0⟩ := h
    have : xs = [] := List.length_eq_zero_iff.1 h0
    subst this
    exact Sl.nil w
  · refine ⟨_, cap, hv, h1, h2, .inr ⟨g, 0, rfl, fun i hi => ?_⟩⟩
    simp only [Nat.zero_add, World.cell?, hh]
    rw [← h4]
    simp only [Nat.mul_one, Option.isSome_none, Bool.false_eq_true, if_false, List.getElem?_take]
    rw [if_pos hi]; simp
theorem Ow.ext {lo : Nat} {e : TypeId} {w w' : World} {v : Value} {xs : List Value} (h : Ow lo e w v xs) (he : Ext w w') : Ow lo e w' v xs := by
  obtain ⟨h0, h | ⟨g, cap, cur, hv, hg, hh, h1⟩⟩ := h
  · exact ⟨h0, .inl h⟩
  · exact ⟨h0, .inr ⟨g, cap, cur, hv, hg, by rw [Below.block he g (heap_lt hh)]; exact hh, h1⟩⟩
theorem Ow.mono {lo lo' : Nat} {e : TypeId} {w : World} {v : Value} {xs : List Value} (h : Ow lo e w v xs) (hl : lo' ≤ lo) : Ow lo' e w v xs := by
  obtain ⟨h0, h | ⟨g, cap, cur, hv, hg, hh, h1⟩⟩ := h
  · exact ⟨h0, .inl h⟩
  · exact ⟨h0, .inr ⟨g, cap, cur, hv, Nat.le_trans hl hg, hh, h1⟩⟩
theorem Ow.nil (lo : Nat) (e : TypeId) (w : World) : Ow lo e w (.slice none 0 0) [] := World.ownsRow_nil w lo e 1
theorem Ow.blk {lo : Nat} {e : TypeId} {w : World} {v : Value} {xs : List Value} (h : Ow lo e w v xs) : ∀ k, v.ownBlock = some k → lo ≤ k ∧ k < w.heap.size := World.ownsRow.lt h

/-- Nothing older than lo has turned (lo: the heap's size when the call began). -/
theorem ext_set {w0 w : World} (h : Ext w0 w) {p : Addr} (hp : w0.heap.size ≤ p.block) (u : Value) : Ext w0 (w.setCell p u) := Below.setCell h hp u

/-- Only block b may have turned. -/
structure Upd (b : Nat) (w w' : World) : Prop where
  os : w'.os = w.os
  tape : w'.tape = w.tape
  output : w'.output = w.output
  size : w'.heap.size = w.heap.size
  block : ∀ c, c ≠ b → w'.heap[c]? = w.heap[c]?
theorem Upd.refl (b : Nat) (w : World) : Upd b w w := ⟨rfl, rfl, rfl, rfl, fun _ _ => rfl⟩
theorem Upd.trans {b : Nat} {w w' w'' : World} (h : Upd b w w') (k : Upd b w' w'') : Upd b w w'' :=
  ⟨k.os.trans h.os, k.tape.trans h.tape, k.output.trans h.output, k.size.trans h.size, fun c hc => (k.block c hc).trans (h.block c hc)⟩
theorem Upd.setCell (w : World) (b i : Nat) (v : Value) : Upd b w (w.setCell ⟨b, i, none⟩ v) :=
  ⟨rfl, rfl, rfl, by simp, fun c hc => Below.heap_setCell _ _ _ _ hc⟩
theorem Ext.upd {w0 w w' : World} {b : Nat} (h : Ext w0 w) (hu : Upd b w w') (hb : w0.heap.size ≤ b) : Ext w0 w' :=
  ⟨hu.os.trans h.os, hu.tape.trans h.tape, hu.output.trans h.output, by rw [hu.size]; exact h.size, fun k hk => (hu.block k (by omega)).trans (h.block k hk)⟩
theorem Blk.upd {e : TypeId} {w w' : World} {b c : Nat} {cs : List Value} (h : Blk e w c cs) (hu : Upd b w w') (hne : c ≠ b) : Blk e w' c cs := by
  unfold Blk at *
  rw [hu.block c hne]; exact h
theorem Ow.upd {lo : Nat} {e : TypeId} {w w' : World} {v : Value} {xs : List Value} {b : Nat} (h : Ow lo e w v xs) (hu : Upd b w w') (hne : v.ownBlock ≠ some b) : Ow lo e w' v xs := by
  obtain ⟨h0, h | ⟨g, cap, cur, hv, hg, hh, h1⟩⟩ := h
  · exact ⟨h0, .inl h⟩
  · exact ⟨h0, .inr ⟨g, cap, cur, hv, hg, by rw [hu.block g (fun e => hne (by rw [hv]; simp [Value.ownBlock, e]))]; exact hh, h1⟩⟩
theorem storeCells_run {P : Program} {e : TypeId} {b : Nat} : ∀ (vs : List Value) (i : Nat) (w : World) (cs : List Value), Blk e w b cs → i + vs.length ≤ cs.length → (∀ v ∈ vs, isCell v = true) →
    ∃ w', (storeCells ⟨b, 0, none⟩ vs i).run P w = .ok () w' ∧ Upd b w w' ∧ Blk e w' b (cs.take i ++ vs ++ cs.drop (i + vs.length))
  | [], i, w, cs, hb, _, _ => ⟨w, by simp [storeCells], Upd.refl _ _, by simpa using hb⟩
  | v :: vs, i, w, cs, hb, hl, hc => by
    simp only [List.length_cons] at hl
    have ha : (⟨b, 0, none⟩ : Addr).add i = ⟨b, i, none⟩ := by
      simp only [Addr.add]; split
      · rename_i e; simp [e]
      · simp
    have h1 : (store ⟨b, i, none⟩ v).run P w = .ok () (w.setCell ⟨b, i, none⟩ v) := by
      rw [run_store P w _ _ _ (isCell_one (hc v (by simp))), hb.cell i, List.getElem?_eq_getElem (by omega)]
      simp [hb.frozen i]
    obtain ⟨w', h2, h3, h4⟩ := storeCells_run (P := P) vs (i + 1) (w.setCell ⟨b, i, none⟩ v) (cs.set i v) (hb.set i v) (by simp; omega) (fun v' hv' => hc v' (by simp [hv']))
    refine ⟨w', ?_, (Upd.setCell w b i v).trans h3, ?_⟩
    · simp only [storeCells, Sem.run_bind, ha, h1, Result.andThen_ok, h2]
    · have : (cs.set i v).take (i + 1) ++ vs ++ (cs.set i v).drop (i + 1 + vs.length) = cs.take i ++ v :: vs ++ cs.drop (i + (v :: vs).length) := by
        rw [List.take_succ_eq_append_getElem (by simp; omega), List.take_set_of_le (by omega), List.drop_set_of_lt (by omega)]
        simp [Nat.add_assoc, Nat.add_comm 1]
      rw [this] at h4; exact h4

/-! ### One step -/
section
variable {P : Program} {w : World}

theorem iNil {a : Addr} {K : Value → Prop} (h : K (.pointer (some a))) : xNil (.pointer (some a)) K := ⟨trivial, h⟩
theorem iFa {off b o : Nat} {K : Value → Prop} (h : K (.pointer (some ⟨b, o + off, none⟩))) : xFa off (.pointer (some ⟨b, o, none⟩)) K := by
  refine ⟨_, rfl, ?_⟩
  have : (⟨b, o, none⟩ : Addr).add off = ⟨b, o + off, none⟩ := by
    simp only [Addr.add]; split
    · rename_i e; simp [e]
    · rfl
  rw [this]; exact h
theorem iLd {p : Addr} {v : Value} {K : Value → Prop} (hc : w.cell? p = some v) (h : K v) : xLd w (.pointer (some p)) K := ⟨_, _, rfl, hc, h⟩
theorem iLdB {e : TypeId} {b i : Nat} {cs : List Value} {v : Value} {K : Value → Prop} (hb : Blk e w b cs) (hi : cs[i]? = some v) (h : K v) : xLd w (.pointer (some ⟨b, i, none⟩)) K := iLd (by rw [hb.cell i]; exact hi) h
/-- A whole struct out of its block. -/
theorem iLdA {e : TypeId} {b n : Nat} {cs : List Value} {K : Value → Prop} (hb : Blk e w b cs) (hn : cs.length = n) (h : K (.agg cs.toArray)) : xLdA w n (.pointer (some ⟨b, 0, none⟩)) K := by
  refine ⟨_, cs.toArray, rfl, by simpa using hn, fun i hi => ?_, h⟩
  have : (⟨b, 0, none⟩ : Addr).add i = ⟨b, i, none⟩ := by
    simp only [Addr.add]; split
    · rename_i e; simp [e]
    · simp
  rw [this, hb.cell i]; simp
theorem iIa {v : Value} {xs : List Value} {j : Int} {k : IntKind} {K : Value → Prop} (hs : Sl w v xs) (h0 : 0 ≤ j) (h1 : j < xs.length)
    (h : ∀ p, w.cell? p = xs[j.toNat]? → K (.pointer (some p))) : xIa 1 v (.int k j) K := by
  obtain ⟨a, c, rfl, h2, h3, h4⟩ := hs
  rcases h4 with rfl | ⟨b, o, rfl, hc⟩
  · simp at h1; omega
  · refine ⟨_, _, _, _, _, rfl, rfl, h0, h1, h _ ?_⟩
    have : (⟨b, o, none⟩ : Addr).add (j.toNat * 1) = ⟨b, o + j.toNat, none⟩ := by
      simp only [Addr.add]; split
      · rename_i e; simp at e; simp [e]
      · simp
    rw [this]; exact hc _ (by omega)
theorem iIaI {v : Value} {l : List Int} {j : Int} {k : IntKind} {K : Value → Prop} (hs : SlI w v l) (h0 : 0 ≤ j) (h1 : j < l.length)
    (h : ∀ p, w.cell? p = some (.int .i64 (l.getD j.toNat 0)) → K (.pointer (some p))) : xIa 1 v (.int k j) K := by
  refine iIa hs h0 (by rw [ints_length]; exact h1) fun p hp => h p (hp.trans ?_)
  have : j.toNat < l.length := by omega
  simp [ints, this]
theorem iLenS {v : Value} {xs : List Value} {K : Value → Prop} (hs : Sl w v xs) (h : K (.int .i64 (xs.length : Nat))) : xLenS v K := by
  obtain ⟨a, c, rfl, _⟩ := hs; exact ⟨_, _, _, rfl, h⟩
theorem iLenI {v : Value} {l : List Int} {K : Value → Prop} (hs : SlI w v l) (h : K (.int .i64 (l.length : Nat))) : xLenS v K := iLenS hs (by rw [ints_length]; exact h)
theorem iLenL {a : Option Addr} {n c : Nat} {K : Value → Prop} (h : K (.int .i64 (n : Nat))) : xLenS (.slice a n c) K := ⟨_, _, _, rfl, h⟩
theorem iAdd {a b : Int} {K : Value → Prop} (hb : -9223372036854775808 ≤ a + b ∧ a + b ≤ 9223372036854775807) (h : K (.int .i64 (a + b))) : xAdd .i64 (.int .i64 a) (.int .i64 b) K :=
  ⟨_, _, rfl, rfl, by rw [IntWalk.i64_in _ hb]; exact h⟩
theorem iSub {a b : Int} {K : Value → Prop} (hb : -9223372036854775808 ≤ a - b ∧ a - b ≤ 9223372036854775807) (h : K (.int .i64 (a - b))) : xSub .i64 (.int .i64 a) (.int .i64 b) K :=
  ⟨_, _, rfl, rfl, by rw [IntWalk.i64_in _ hb]; exact h⟩
theorem iMul {a b : Int} {K : Value → Prop} (hb : -9223372036854775808 ≤ a * b ∧ a * b ≤ 9223372036854775807) (h : K (.int .i64 (a * b))) : xMul .i64 (.int .i64 a) (.int .i64 b) K :=
  ⟨_, _, rfl, rfl, by rw [IntWalk.i64_in _ hb]; exact h⟩
theorem iQuo {a b : Int} {K : Value → Prop} (hb : 0 ≤ a ∧ a ≤ 9223372036854775807 ∧ 1 ≤ b) (h : K (.int .i64 (a / b))) : xQuo .i64 (.int .i64 a) (.int .i64 b) K :=
  ⟨_, _, rfl, rfl, by omega, by rw [IntWalk.i64_quo _ _ hb]; exact h⟩
theorem iEq {k : IntKind} {a b : Int} {K : Value → Prop} (h : K (.bool (decide (a = b)))) : xEq k (.int k a) (.int k b) K := ⟨_, _, rfl, rfl, h⟩
theorem iNe {k : IntKind} {a b : Int} {K : Value → Prop} (h : K (.bool (decide (¬ a = b)))) : xNe k (.int k a) (.int k b) K := ⟨_, _, rfl, rfl, h⟩
theorem iLt {k : IntKind} {a b : Int} {K : Value → Prop} (h : K (.bool (decide (a < b)))) : xLt k (.int k a) (.int k b) K := ⟨_, _, rfl, rfl, h⟩
theorem iLe {k : IntKind} {a b : Int} {K : Value → Prop} (h : K (.bool (decide (a ≤ b)))) : xLe k (.int k a) (.int k b) K := ⟨_, _, rfl, rfl, h⟩
theorem iNot {b : Bool} {K : Value → Prop} (h : K (.bool (!b))) : xNot (.bool b) K := ⟨_, rfl, h⟩
theorem iE20 {a b : Value} {K : Value → Prop} (h : K a) : xEx (.tuple #[a, b]) 0 K := ⟨_, _, rfl, rfl, h⟩
theorem iE21 {a b : Value} {K : Value → Prop} (h : K b) : xEx (.tuple #[a, b]) 1 K := ⟨_, _, rfl, rfl, h⟩
theorem iBuild {z : Array Value} {pl : Array (Nat × Nat)} {ps : List (Nat × Value)} {cs : Array Value} {K : Value → Prop} (hf : Instr.fill (pl[·]?) z ps = some cs) (h : K (.agg cs)) : xBuild z pl ps K := ⟨_, hf, h⟩
theorem iConv64 {a : Int} {k : IntKind} {K : Value → Prop} (hb : -9223372036854775808 ≤ a ∧ a ≤ 9223372036854775807) (h : K (.int .i64 a)) : xConv .i64 (.int k a) K :=
  ⟨_, _, rfl, by rw [IntWalk.i64_in _ hb]; exact h⟩
theorem iConvU {a : Int} {k : IntKind} {K : Value → Prop} (hb : 0 ≤ a ∧ a ≤ 18446744073709551615) (h : K (.int .u64 a)) : xConv .u64 (.int k a) K :=
  ⟨_, _, rfl, by rw [IntWalk.u64_in _ hb]; exact h⟩
/-- A new block, under a name of its own. -/
theorem iNew {cs : Array Value} {e : TypeId} {K : Value → World → Prop} (h : ∀ b w', b = w.heap.size ∧ w'.heap.size = b + 1 → Ext w w' → Blk e w' b cs.toList → K (.pointer (some ⟨b, 0, none⟩)) w') : xNew cs e w K :=
  h _ _ ⟨rfl, by simp⟩ (Ext.alloc w _) (Blk.new w cs e)
theorem iStB {e : TypeId} {b i : Nat} {cs : List Value} {v : Value} {K : World → Prop} (hb : Blk e w b cs) (hi : i < cs.length) (hv : isCell v = true) (h : Blk e (w.setCell ⟨b, i, none⟩ v) b (cs.set i v) → K (w.setCell ⟨b, i, none⟩ v)) :
    xSt w (.pointer (some ⟨b, i, none⟩)) v K :=
  ⟨_, _, rfl, by rw [hb.cell i, List.getElem?_eq_getElem hi], hb.frozen i, hv, h (hb.set i v)⟩

/-- make([]T, n): a new block of n zeros. -/
theorem iMk {e : TypeId} {z : Value} {bytes n : Nat} {k : IntKind} {K : Value → World → Prop} (h1 : bytes * n ≤ 2 ^ 48) (h2 : (n : Int) ≤ 9223372036854775807) (hz : isCell z = true)
    (h : ∀ b w', b = w.heap.size ∧ w'.heap.size = b + 1 → Ext w w' → Blk e w' b (List.replicate n z) → K (.slice (some ⟨b, 0, none⟩) n n) w') : xMk e (Value.cells z) 1 bytes (.int k (n : Int)) (.int k (n : Int)) w K := by
  refine ⟨k, k, n, n, rfl, rfl, Nat.le_refl _, h2, by exact_mod_cast h1, ?_⟩
  have hb := Blk.new w ((Array.range (n * 1)).map (fun i => z.cells[i % z.cells.size]!)) e
  have hc : ((Array.range (n * 1)).map (fun i => z.cells[i % z.cells.size]!)).toList = List.replicate n z := by
    rw [isCell_cells hz]
    apply List.ext_getElem
    · simp
    · intro i h1 h2
      simp [Nat.mod_one]
  rw [hc] at hb
  exact h _ _ ⟨rfl, by simp⟩ (Ext.alloc w _) hb
theorem iIaL {b o n c : Nat} {j : Nat} {k : IntKind} {K : Value → Prop} (hj : j < n) (h : K (.pointer (some ⟨b, o + j, none⟩))) : xIa 1 (.slice (some ⟨b, o, none⟩) n c) (.int k (j : Int)) K := by
  refine ⟨_, _, _, _, _, rfl, rfl, by omega, by omega, ?_⟩
  have : (⟨b, o, none⟩ : Addr).add ((j : Int).toNat * 1) = ⟨b, o + j, none⟩ := by
    simp only [Addr.add, Int.toNat_natCast, Nat.mul_one]; split
    · rename_i e; simp [e]
    · rfl
  rw [this]; exact h
theorem Ow.ofBlk {lo : Nat} {e : TypeId} {w : World} {b n : Nat} {cs : List Value} (h : Blk e w b cs) (hl : lo ≤ b) (hn : cs.length = n) (hm : n ≤ 9223372036854775807) : Ow lo e w (.slice (some ⟨b, 0, none⟩) n n) cs := by
  subst hn
  exact ⟨by simp, .inr ⟨b, cs.length, cs.toArray, rfl, hl, h, Nat.le_refl _, hm, by simp, by simp⟩⟩
/-- An element of a slice of the call's own, to be read or written. -/
theorem iIaOw {lo : Nat} {e : TypeId} {v : Value} {xs : List Value} {j : Int} {k : IntKind} {K : Value → Prop} (hs : Ow lo e w v xs) (h0 : 0 ≤ j) (h1 : j < xs.length)
    (h : ∀ b o, v.ownBlock = some b → lo ≤ b → b < w.heap.size → w.cell? ⟨b, o, none⟩ = xs[j.toNat]? → w.frozen? ⟨b, o, none⟩ = false → (∀ u, Ow lo e (w.setCell ⟨b, o, none⟩ u) v (xs.set j.toNat u)) → K (.pointer (some ⟨b, o, none⟩))) :
    xIa 1 v (.int k j) K := by
  obtain ⟨m, rfl⟩ := Int.eq_ofNat_of_zero_le h0
  obtain ⟨hl, hc | ⟨g, cap, cur, hv, hg, hh, h2, h3, h4, h5⟩⟩ := hs
  · omega
  · subst hv
    have hs' : w.ownsRow lo e 1 (.slice (some ⟨g, 0, none⟩) xs.length cap) xs.length xs := ⟨hl, .inr ⟨g, cap, cur, rfl, hg, hh, h2, h3, h4, h5⟩⟩
    refine iIaL (j := m) (by omega) ?_
    rw [Nat.zero_add]
    refine h g m rfl hg (heap_lt hh) ?_ ?_ ?_
    · rw [Int.toNat_natCast]; exact hs'.cellAt m (by omega)
    · exact hs'.frozenAt m
    · intro u
      rw [Int.toNat_natCast]
      have := hs'.stored m u
      unfold Ow
      rw [List.length_set]
      exact this.1
theorem iSt {b o : Nat} {old v : Value} {K : World → Prop} (hc : w.cell? ⟨b, o, none⟩ = some old) (hf : w.frozen? ⟨b, o, none⟩ = false) (hv : isCell v = true) (h : K (w.setCell ⟨b, o, none⟩ v)) : xSt w (.pointer (some ⟨b, o, none⟩)) v K :=
  ⟨_, _, rfl, hc, hf, hv, h⟩

/-- A struct stored whole into its block. -/
theorem iStAB {e : TypeId} {b n : Nat} {cs : List Value} {a : Array Value} {K : World → Prop} (hb : Blk e w b cs) (hn : cs.length = n) (ha : a.size = n) (hc : ∀ v ∈ a.toList, isCell v = true)
    (h : ∀ w', Upd b w w' → Blk e w' b a.toList → K w') : xStA P w n (.pointer (some ⟨b, 0, none⟩)) (.agg a) K := by
  obtain ⟨w', h1, h2, h3⟩ := storeCells_run (P := P) a.toList 0 w cs hb (by simp; omega) hc
  refine ⟨_, w', rfl, by simpa [Value.cells] using ha, h1, h w' h2 ?_⟩
  have : cs.drop (0 + a.toList.length) = [] := List.drop_of_length_le (by simp; omega)
  rw [this] at h3
  simpa using h3

/-! ### Worlds in which one row may have turned and new blocks lie -/
theorem Ext.toGrown {w w' : World} (h : Ext w w') (row : Option Nat) : w.grownBy w' row := ⟨h.os, h.tape, h.output, h.size, fun k hk _ => h.block k hk⟩
theorem grown_refl (w : World) (row : Option Nat) : w.grownBy w row := (Ext.refl w).toGrown row
/-- Behind it another row, which is new, has turned. -/
theorem grown_new {w w' w'' : World} {row row' : Option Nat} (h : w.grownBy w' row) (k : w'.grownBy w'' row') (hn : ∀ b, row' = some b → w.heap.size ≤ b ∨ row = some b) : w.grownBy w'' row :=
  ⟨k.os.trans h.os, k.tape.trans h.tape, k.output.trans h.output, Nat.le_trans h.size k.size, fun i hi hne => (k.block i (by have := h.size; omega) (fun e => by
    rcases hn i e.symm with h1 | h1
    · omega
    · exact hne h1.symm)).trans (h.block i hi hne)⟩
theorem Ext.grown {w0 w w' : World} {row : Option Nat} (h : Ext w0 w) (hg : w.grownBy w' row) (hr : ∀ b, row = some b → w0.heap.size ≤ b) : Ext w0 w' :=
  Below.grown h hg h.size hr
theorem Blk.grown {e : TypeId} {w w' : World} {c : Nat} {cs : List Value} {row : Option Nat} (h : Blk e w c cs) (hg : w.grownBy w' row) (hne : row ≠ some c) : Blk e w' c cs := by
  unfold Blk at *
  rw [hg.block c (heap_lt h) (fun e => hne e.symm)]; exact h
theorem Ow.lt {lo : Nat} {e : TypeId} {w : World} {v : Value} {xs : List Value} (h : Ow lo e w v xs) {b : Nat} (hb : w.heap.size ≤ b) : v.ownBlock ≠ some b := fun e => by have := (h.blk b e).2; omega
theorem Sl.ofBlk {e : TypeId} {w : World} {b n : Nat} {cs : List Value} (h : Blk e w b cs) (hn : cs.length = n) (hm : n ≤ 9223372036854775807) : Sl w (.slice (some ⟨b, 0, none⟩) n n) cs := by
  subst hn
  exact ⟨_, cs.length, rfl, Nat.le_refl _, hm, .inr ⟨b, 0, rfl, fun i _ => by rw [Nat.zero_add]; exact h.cell i⟩⟩

theorem iBs0 {e : TypeId} {z : Value} {K : Value → World → Prop} (h : ∀ v w', w'.heap.size = w.heap.size + 1 → Ext w w' → Ow w.heap.size e w' v [] → K v w') : xBs e (Value.cells z) 1 0 [] w K := by
  refine ⟨_, rfl, h _ _ (by simp) (Ext.alloc w _) ?_⟩
  exact ⟨rfl, .inr ⟨w.heap.size, 0, _, rfl, Nat.le_refl _, heap_alloc_new w _, Nat.le_refl _, by simp [maxLen], by simp [show Array.range 0 = #[] from rfl], rfl⟩⟩
theorem iBs1 {e : TypeId} {z x : Value} {K : Value → World → Prop} (hz : isCell z = true) (hx : isCell x = true) (h : ∀ b w', b = w.heap.size ∧ w'.heap.size = b + 1 → Ext w w' → Blk e w' b [x] → K (.slice (some ⟨b, 0, none⟩) 1 1) w') :
    xBs e (Value.cells z) 1 1 [(0, x)] w K := by
  refine ⟨#[x], ?_, h _ _ ⟨rfl, by simp⟩ (Ext.alloc w _) (Blk.new w #[x] e)⟩
  rw [isCell_cells hz]
  simp [Instr.fill, isCell_cells hx, show Array.range 1 = #[0] from rfl]
/-- 'append(s, x...)', s the call's own. -/
theorem iAppA {lo : Nat} {t ty e : TypeId} {z v x : Value} {bytes : Nat} {xs ys : List Value} {K : Value → World → Prop} (ht : P.underlying t = some (.slice e)) (hi : (P.info? e).map (fun i => (i.zero, i.size, i.bytes)) = some (some z, 1, bytes)) (hz : isCell z = true)
    (hown : Ow lo e w v xs) (hs : Sl w x ys) (hy : ∀ u ∈ ys, isCell u = true) (hb : (xs.length + ys.length) * bytes ≤ 140737488355328) (hm : xs.length + ys.length ≤ 9223372036854775807) (hlo : lo ≤ w.heap.size)
    (h : ∀ v' w', Ow lo e w' v' (xs ++ ys) → w.grownBy w' v.ownBlock → (v'.ownBlock = v.ownBlock ∨ ∃ c, v'.ownBlock = some c ∧ w.heap.size ≤ c) → K v' w') : xOp P (Builtin.append_ #[t, t] ty #[v, x]) w K := by
  obtain ⟨i, hi, h3⟩ := Option.map_eq_some_iff.1 hi
  simp only [Prod.mk.injEq] at h3
  obtain ⟨hz0, hsz, hby⟩ := h3
  obtain ⟨a, c, rfl, hlc, hcm, hcells⟩ := hs
  have key : ∀ ad : Addr, a = some ad → (∀ j u, ys[j]? = some u → w.cell? (ad.add j) = some u) → xOp P (Builtin.append_ #[t, t] ty #[v, .slice a ys.length c]) w K := by
    rintro ad rfl hnews
    obtain ⟨v', w', h4, h5, h6, _, h7⟩ := run_append_own_at (P := P) (w := w) lo t ty e i z 1 bytes ht hi hz0 hsz hby (by rw [isCell_cells hz]; rfl) (by omega) v xs.length xs hown ad ys.length c ys (by simp) hnews (fun u hu => isCell_one (hy u hu)) (by simpa [maxLen] using hm) hb hlo
    refine ⟨v', w', h4, h v' w' ?_ h6 (h7.imp id fun e => ⟨_, e, Nat.le_refl _⟩)⟩
    unfold Ow
    rw [List.length_append]; exact h5
  rcases hcells with rfl | ⟨b, o, rfl, hc⟩
  · cases a with
    | some ad => exact key ad rfl (fun j u hu => by simp at hu)
    | none =>
      refine ⟨v, w, ?_, h v w (by simpa using hown) (grown_refl w _) (.inl rfl)⟩
      have hr := run_append_owned_none (P := P) w lo t ty e i 1 ht hi v xs.length xs hown
      rcases hown.2 with ⟨rfl, hn⟩ | ⟨g, cap, cur, rfl, _, _, hnc, _⟩
      · simp [Builtin.append_, run_underlying ht, sizeOf, typeInfo, hi, Builtin.lenOf, Builtin.firstCells]
      · simp [Builtin.append_, run_underlying ht, sizeOf, typeInfo, hi, Builtin.lenOf, Builtin.firstCells, hnc, storeCells]
  · refine key ⟨b, o, none⟩ rfl fun j u hu => ?_
    have hj : j < ys.length := (List.getElem?_eq_some_iff.1 hu).1
    have : (⟨b, o, none⟩ : Addr).add j = ⟨b, o + j, none⟩ := by
      simp only [Addr.add]; split
      · rename_i e; simp [e]
      · rfl
    rw [this, hc j hj, hu]
theorem iApp {lo : Nat} {t ty e : TypeId} {z v x : Value} {bytes : Nat} {xs ys : List Value} {K : Value → World → Prop} (ht : P.underlying t = some (.slice e)) (hi : (P.info? e).map (fun i => (i.zero, i.size, i.bytes)) = some (some z, 1, bytes)) (hz : isCell z = true)
    (hown : Ow lo e w v xs) (hs : Sl w x ys) (hy : ∀ u ∈ ys, isCell u = true) (hb : (xs.length + ys.length) * bytes ≤ 140737488355328) (hm : xs.length + ys.length ≤ 9223372036854775807) (hlo : lo ≤ w.heap.size)
    (h : ∀ v' w', Ow lo e w' v' (xs ++ ys) → w.grownBy w' v.ownBlock → K v' w') : xOp P (Builtin.append_ #[t, t] ty #[v, x]) w K :=
  iAppA ht hi hz hown hs hy hb hm hlo fun v' w' h1 h2 _ => h v' w' h1 h2
/-- 's = append(s, x)': one element. -/
theorem iApp1A {lo : Nat} {t ty e : TypeId} {z v x : Value} {bytes : Nat} {xs : List Value} {K : Value → World → Prop} (ht : P.underlying t = some (.slice e)) (hi : (P.info? e).map (fun i => (i.zero, i.size, i.bytes)) = some (some z, 1, bytes)) (hz : isCell z = true)
    (hown : Ow lo e w v xs) (hx : isCell x = true) (hb : (xs.length + 1) * bytes ≤ 140737488355328) (hm : xs.length + 1 ≤ 9223372036854775807) (hlo : lo ≤ w.heap.size)
    (h : ∀ v' w', Ow lo e w' v' (xs ++ [x]) → w.grownBy w' v.ownBlock → (v'.ownBlock = v.ownBlock ∨ ∃ c, v'.ownBlock = some c ∧ w.heap.size ≤ c) → K v' w') : xBs e (Value.cells z) 1 1 [(0, x)] w fun y w1 => xOp P (Builtin.append_ #[t, t] ty #[v, y]) w1 K := by
  refine iBs1 hz hx fun b w1 hb1 h1 hB => ?_
  refine iAppA ht hi hz (hown.ext h1) (Sl.ofBlk hB rfl (by omega)) (by simpa using hx) hb hm (by omega) fun v' w' ho hg hat => h v' w' ho ?_ (hat.imp id fun ⟨c, e, hc⟩ => ⟨c, e, Nat.le_trans h1.size hc⟩)
  exact grown_new (h1.toGrown v.ownBlock) hg (fun b hb => .inr hb)
theorem iApp1 {lo : Nat} {t ty e : TypeId} {z v x : Value} {bytes : Nat} {xs : List Value} {K : Value → World → Prop} (ht : P.underlying t = some (.slice e)) (hi : (P.info? e).map (fun i => (i.zero, i.size, i.bytes)) = some (some z, 1, bytes)) (hz : isCell z = true)
    (hown : Ow lo e w v xs) (hx : isCell x = true) (hb : (xs.length + 1) * bytes ≤ 140737488355328) (hm : xs.length + 1 ≤ 9223372036854775807) (hlo : lo ≤ w.heap.size)
    (h : ∀ v' w', Ow lo e w' v' (xs ++ [x]) → w.grownBy w' v.ownBlock → K v' w') : xBs e (Value.cells z) 1 1 [(0, x)] w fun y w1 => xOp P (Builtin.append_ #[t, t] ty #[v, y]) w1 K := by
  refine iBs1 hz hx fun b w1 hb1 h1 hB => ?_
  refine iApp ht hi hz (hown.ext h1) (Sl.ofBlk hB rfl (by omega)) (by simpa using hx) hb hm (by omega) fun v' w' ho hg => h v' w' ho ?_
  exact grown_new (h1.toGrown v.ownBlock) hg (fun b hb => .inr hb)

/-! ### Calls -/
/-- The call hands back v and leaves old memory alone. -/
def Ret (P : Program) (f : FuncId) (args : Array Value) (w : World) (v : Value) : Prop := Cal P f args w fun v' w' => v' = v ∧ Ext w w'
theorem iCall {f : FuncId} {args : List Value} {K : Value → World → Prop} (hc : Cal P f args.toArray w K) : callV P (.func (.func f) #[] #[]) args w K := ⟨K, .inl ⟨f, #[], #[], rfl, by simpa using hc⟩, fun _ _ h => h⟩
theorem iRet {f : FuncId} {args : List Value} {v : Value} {K : Value → World → Prop} (hc : Ret P f args.toArray w v) (h : ∀ w', Ext w w' → K v w') : callV P (.func (.func f) #[] #[]) args w K :=
  iCall (hc.mono fun _ _ ⟨e, he⟩ => by subst e; exact h _ he)
theorem iRetQ {f : FuncId} {args : List Value} {v : Value} {K : Value → Prop} (hc : ∀ w', Ext w w' → Ret P f args.toArray w' v) (h : K v) : callQ P (.func (.func f) #[] #[]) args w K :=
  ⟨v, fun w' hw' => iCall (hc w' hw'), h⟩

/-! ### Control -/
theorem iCnd {b : Bool} {A B : Prop} (h1 : b = true → A) (h2 : b = false → B) : cnd (.bool b) A B := ⟨b, rfl, h1, h2⟩
theorem iCndP {p : Prop} [Decidable p] {A B : Prop} (h1 : p → A) (h2 : ¬ p → B) : cnd (.bool (decide p)) A B := ⟨_, rfl, fun h => h1 (of_decide_eq_true h), fun h => h2 (of_decide_eq_false h)⟩
theorem iCndT {b : Bool} {A B : Prop} (hb : b = true) (h : A) : cnd (.bool b) A B := ⟨b, rfl, fun _ => h, fun e => by rw [hb] at e; cases e⟩
theorem iCndF {b : Bool} {A B : Prop} (hb : b = false) (h : B) : cnd (.bool b) A B := ⟨b, rfl, (fun e => by rw [hb] at e; cases e), fun _ => h⟩
theorem iJn {F : (List Value → World → Prop) → Prop} {K : List Value → World → Prop} (h : F K) : jn F K := h
/-- A loop: 'st' lays the state in the slots; what holds; what goes down. -/
theorem iLp {σ : Type} (st : σ → List Value) (I : σ → World → Prop) (μ : σ → Nat) (s0 : σ) {body : (List Value → World → Prop) → List Value → World → Prop} {xs0 : List Value} {w0 : World}
    (h0 : st s0 = xs0) (hI : I s0 w0) (h : ∀ s w (Kn : List Value → World → Prop), I s w → (∀ s' w', I s' w' → μ s' < μ s → Kn (st s') w') → body Kn (st s) w) : lp body xs0 w0 := by
  refine ⟨fun m xs w => ∃ s, xs = st s ∧ I s w ∧ m = μ s, ⟨μ s0, s0, h0.symm, hI, rfl⟩, ?_⟩
  rintro m xs w ⟨s, rfl, hs, rfl⟩
  exact h s w _ hs fun s' w' hs' hlt => ⟨μ s', hlt, s', rfl, hs', rfl⟩

/-! ### Slices of natural numbers; bits -/
theorem iIaN {v : Value} {l : List Int} {j : Nat} {k : IntKind} {K : Value → Prop} (hs : SlI w v l) (h1 : j < l.length)
    (h : ∀ p, w.cell? p = some (.int .i64 (l.getD j 0)) → K (.pointer (some p))) : xIa 1 v (.int k (j : Int)) K :=
  iIaI hs (by omega) (by omega) fun p hp => h p (by rw [hp]; simp)

theorem ofInt_nat (a : Nat) : BitVec.ofInt 64 (a : Int) = BitVec.ofNat 64 a := by simp
theorem iOr_nat {a b : Nat} (ha : a < 2 ^ 63) (hb : b < 2 ^ 63) : iOr .i64 (a : Int) (b : Int) = ((a ||| b : Nat) : Int) := by
  have : a ||| b < 2 ^ 63 := Nat.or_lt_two_pow ha hb
  rw [show iOr .i64 (a : Int) (b : Int) = IntKind.i64.wrap ((BitVec.ofInt 64 (a : Int) ||| BitVec.ofInt 64 (b : Int)).toNat : Nat) from rfl, ofInt_nat, ofInt_nat]
  rw [BitVec.toNat_or, BitVec.toNat_ofNat, BitVec.toNat_ofNat, Nat.mod_eq_of_lt (by omega), Nat.mod_eq_of_lt (by omega)]
  exact IntWalk.i64_in _ (by omega)
theorem iShl_one {k : Nat} (hk : k < 63) : iShl .i64 1 (k : Int) = ((2 ^ k : Nat) : Int) := by
  have h1 : min k 64 = k := by omega
  have h2 : (2 : Nat) ^ k < 2 ^ 63 := Nat.pow_lt_pow_right (by omega) hk
  simp only [iShl, IntKind.bits, Int.toNat_natCast, h1]
  rw [Int.one_mul, show ((2 : Int) ^ k) = ((2 ^ k : Nat) : Int) by simp]
  generalize 2 ^ k = m at *
  exact IntWalk.i64_in _ (by omega)
theorem iBOr {a b : Nat} {K : Value → Prop} (ha : a < 2 ^ 63) (hb : b < 2 ^ 63) (h : K (.int .i64 ((a ||| b : Nat) : Int))) : xBits iOr .i64 (.int .i64 (a : Int)) (.int .i64 (b : Int)) K :=
  ⟨_, _, rfl, rfl, by rw [iOr_nat ha hb]; exact h⟩
theorem iShlOne {j : Nat} {yk : IntKind} {K : Value → Prop} (hj : j < 63) (h : K (.int .i64 ((2 ^ j : Nat) : Int))) : xSh iShl .i64 (.int .i64 1) (.int yk (j : Int)) K :=
  ⟨_, _, _, rfl, rfl, by omega, by rw [iShl_one hj]; exact h⟩

end
end Go.Vc

/- More words for memory: what a call may turn, lists of rows, visitors. Conditions: none. -/
namespace Go.Vc
open Go.RowKit (Below)

theorem Ext.ch {S : Nat → Prop} {w w' : World} (h : Ext w w') : Ch S w w' := ⟨h.os, h.tape, h.output, h.size, fun k hk _ => h.block k hk⟩
theorem Upd.ch {S : Nat → Prop} {w w' : World} {b : Nat} (h : Upd b w w') (hb : S b) : Ch S w w' := ⟨h.os, h.tape, h.output, by rw [h.size]; exact Nat.le_refl _, fun k _ hn => h.block k fun e => hn (e ▸ hb)⟩
theorem grown_ch {S : Nat → Prop} {w w' : World} {row : Option Nat} (h : w.grownBy w' row) (hr : ∀ b, row = some b → S b) : Ch S w w' :=
  ⟨h.os, h.tape, h.output, h.size, fun k hk hn => h.block k hk fun e => hn (hr k e.symm)⟩
theorem Ch.trans {S S' : Nat → Prop} {w w' w'' : World} (h : Ch S w w') (k : Ch S' w' w'') (hs : ∀ b, S' b → S b ∨ w.heap.size ≤ b) : Ch S w w'' :=
  ⟨k.os.trans h.os, k.tape.trans h.tape, k.output.trans h.output, Nat.le_trans h.size k.size, fun i hi hn => (k.block i (by have := h.size; omega) fun hS => by
    rcases hs i hS with h1 | h1
    · exact hn h1
    · omega).trans (h.block i hi hn)⟩
theorem Ext.thenCh {S : Nat → Prop} {w0 w w' : World} (h : Ext w0 w) (k : Ch S w w') (hs : ∀ b, S b → w0.heap.size ≤ b) : Ext w0 w' :=
  ⟨k.os.trans h.os, k.tape.trans h.tape, k.output.trans h.output, Nat.le_trans h.size k.size, fun i hi => (k.block i (by have := h.size; omega) fun hS => by have := hs i hS; omega).trans (h.block i hi)⟩
theorem Blk.ch {S : Nat → Prop} {e : TypeId} {w w' : World} {c : Nat} {cs : List Value} (h : Blk e w c cs) (k : Ch S w w') (hn : ¬ S c) : Blk e w' c cs := by
  unfold Blk at *
  rw [k.block c (heap_lt h) hn]; exact h
theorem Ow.ch {S : Nat → Prop} {lo : Nat} {e : TypeId} {w w' : World} {v : Value} {xs : List Value} (h : Ow lo e w v xs) (k : Ch S w w') (hn : ∀ c, v.ownBlock = some c → ¬ S c) : Ow lo e w' v xs := by
  obtain ⟨h0, h | ⟨g, cap, cur, hv, hg, hh, h1⟩⟩ := h
  · exact ⟨h0, .inl h⟩
  · exact ⟨h0, .inr ⟨g, cap, cur, hv, hg, by rw [k.block g (heap_lt hh) (hn g (by rw [hv]; rfl))]; exact hh, h1⟩⟩
theorem Ow.cell {lo : Nat} {e : TypeId} {w : World} {v : Value} {xs : List Value} (h : Ow lo e w v xs) : isCell v = true := by
  obtain ⟨_, h | ⟨g, cap, cur, hv, _⟩⟩ := h
  · rw [h.1]; rfl
  · rw [hv]; rfl
/-- The type of the row's block. -/
theorem Ow.ty {lo : Nat} {e : TypeId} {w : World} {v : Value} {xs : List Value} (h : Ow lo e w v xs) {c : Nat} (hc : v.ownBlock = some c) : ∃ cur, w.heap[c]? = some (.cells cur e (0, 0)) := by
  obtain ⟨_, h | ⟨g, cap, cur, hv, hg, hh, h1⟩⟩ := h
  · rw [h.1] at hc; cases hc
  · rw [hv] at hc
    cases hc
    exact ⟨cur, hh⟩
theorem Ow.ne_blk {lo : Nat} {e e' : TypeId} {w : World} {v : Value} {xs cs : List Value} {b : Nat} (h : Ow lo e w v xs) (hb : Blk e' w b cs) (hne : e ≠ e') : v.ownBlock ≠ some b := by
  intro hc
  obtain ⟨cur, h1⟩ := h.ty hc
  unfold Blk at hb
  rw [h1] at hb
  injection hb with hb
  injection hb with _ hb _
  exact hne hb
theorem Ow.ne_ow {lo lo' : Nat} {e e' : TypeId} {w : World} {v v' : Value} {xs xs' : List Value} {c : Nat} (h : Ow lo e w v xs) (h' : Ow lo' e' w v' xs') (hne : e ≠ e') (hc : v.ownBlock = some c) : v'.ownBlock ≠ some c := by
  intro hc'
  obtain ⟨cur, h1⟩ := h.ty hc
  obtain ⟨cur', h2⟩ := h'.ty hc'
  rw [h1] at h2
  injection h2 with hb
  injection hb with _ hb _
  exact hne hb
theorem Blk.ne_blk {e e' : TypeId} {w : World} {b b' : Nat} {cs cs' : List Value} (h : Blk e w b cs) (h' : Blk e' w b' cs') (hne : e ≠ e') : b ≠ b' := by
  rintro rfl
  unfold Blk at h h'
  rw [h] at h'
  injection h' with h'
  injection h' with _ h' _
  exact hne h'

/-- An element of a row of the call's own, to be written later on. -/
theorem iIaOwE {w : World} {lo : Nat} {e : TypeId} {v : Value} {xs : List Value} {j : Nat} {k : IntKind} {K : Value → Prop} (hs : Ow lo e w v xs) (h1 : j < xs.length)
    (h : ∀ b, v.ownBlock = some b → (∀ w' ys, ys.length = xs.length → Ow lo e w' v ys → w'.cell? ⟨b, j, none⟩ = ys[j]? ∧ w'.frozen? ⟨b, j, none⟩ = false ∧ ∀ u, Ow lo e (w'.setCell ⟨b, j, none⟩ u) v (ys.set j u)) → K (.pointer (some ⟨b, j, none⟩))) :
    xIa 1 v (.int k (j : Int)) K := by
  obtain ⟨hl, hc | ⟨g, cap, cur, hv, hg, hh, h2, h3, h4, h5⟩⟩ := hs
  · omega
  · subst hv
    refine iIaL (j := j) (by omega) ?_
    rw [Nat.zero_add]
    refine h g rfl fun w' ys hly hs => ?_
    have hs' : w'.ownsRow lo e 1 (.slice (some ⟨g, 0, none⟩) xs.length cap) xs.length ys := by
      unfold Ow at hs
      rw [hly] at hs
      exact hs
    refine ⟨?_, ?_, fun u => ?_⟩
    · exact hs'.cellAt j (by omega)
    · exact hs'.frozenAt j
    · have := hs'.stored j u
      unfold Ow
      rw [List.length_set, hly]
      exact this.1

/-! ### Lists of rows -/
/-- Slices that the call owns, each in a row of its own. -/
def OwL (lo : Nat) (e : TypeId) (w : World) (vs : List Value) (ls : List (List Value)) : Prop :=
  vs.length = ls.length ∧ (∀ (i : Nat) (v : Value) (l : List Value), vs[i]? = some v → ls[i]? = some l → Ow lo e w v l) ∧ vs.Pairwise fun a b => ∀ c, a.ownBlock = some c → b.ownBlock ≠ some c

/-- A join to which all ways lead with the same truth. -/
theorem iJnB {F : (List Value → World → Prop) → Prop} {K : List Value → World → Prop} (T : Bool) (w2 : World) (h : ∀ J : List Value → World → Prop, (∀ w4, Ext w2 w4 → J [.bool T] w4) → F J) (hK : ∀ w4, Ext w2 w4 → K [.bool T] w4) : jn F K := h K hK


/-! ### Visitors -/
end Go.Vc

/- Words for strings and for slices of larger elements, and one lemma for each step on them. Conditions: none. -/
namespace Go.Vc
open Go.RowKit (Below)
abbrev Str := List UInt8
/-- A string value. -/
abbrev sv (l : Str) : Value := .string ⟨l.toArray⟩
theorem sv_size (l : Str) : (⟨l.toArray⟩ : ByteArray).size = l.length := by simp [ByteArray.size]
section
variable {P : Program} {w : World}
theorem iIs {l : Str} {j : Nat} {k : IntKind} {K : Value → Prop} (hj : j < l.length) (h : K (.int .u8 (((l.getD j 0).toNat : Nat) : Int))) : xIs (sv l) (.int k (j : Int)) K := by
  refine ⟨_, k, _, l[j], rfl, rfl, by omega, ?_, ?_⟩
  · rw [Int.toNat_natCast]
    show (⟨l.toArray⟩ : ByteArray)[j]? = _
    have : j < (⟨l.toArray⟩ : ByteArray).size := by rw [sv_size]; exact hj
    rw [getElem?_pos (⟨l.toArray⟩ : ByteArray) j this]
    rfl
  · have : l.getD j 0 = l[j] := by simp [List.getD_eq_getElem?_getD, hj]
    rw [← this]; exact h
end
/-! ### Parts of a slice -/
section
variable {w : World}
theorem iSlTo {v : Value} {xs : List Value} {j : Nat} {k : IntKind} {K : Value → Prop} (hs : Sl w v xs) (hj : j ≤ xs.length) (h : ∀ v', Sl w v' (xs.take j) → K v') : xSl 1 v none (some (.int k (j : Int))) K := by
  obtain ⟨a, c, rfl, h2, h3, h4⟩ := hs
  refine ⟨a, xs.length, c, 0, j, rfl, ⟨k, rfl⟩, rfl, Nat.zero_le _, by omega, ?_⟩
  have hl : (xs.take j).length = j := by rw [List.length_take]; omega
  refine h _ ⟨_, c - 0, by rw [hl, Nat.sub_zero], by rw [hl]; omega, by omega, ?_⟩
  cases j with
  | zero => exact .inl rfl
  | succ j =>
    rcases h4 with rfl | ⟨b, o, rfl, hc⟩
    · simp at hj
    · refine .inr ⟨b, o, ?_, fun i hi => ?_⟩
      · split
        · rfl
        · simp [Addr.add]
      · rw [hl] at hi
        rw [hc i (by omega), List.getElem?_take, if_pos hi]
theorem iSlFrom {v : Value} {xs : List Value} {j : Nat} {k : IntKind} {K : Value → Prop} (hs : Sl w v xs) (hj : j ≤ xs.length) (h : ∀ v', Sl w v' (xs.drop j) → K v') : xSl 1 v (some (.int k (j : Int))) none K := by
  obtain ⟨a, c, rfl, h2, h3, h4⟩ := hs
  refine ⟨a, xs.length, c, j, xs.length, rfl, rfl, ⟨k, rfl⟩, hj, h2, ?_⟩
  have hl : (xs.drop j).length = xs.length - j := by rw [List.length_drop]
  refine h _ ⟨_, c - j, by rw [hl], by rw [hl]; omega, by omega, ?_⟩
  rcases h4 with rfl | ⟨b, o, rfl, hc⟩
  · simp
  · by_cases hn : xs.drop j = []
    · exact .inl hn
    · have hjl : j < xs.length := by
        rcases Nat.lt_or_ge j xs.length with h' | h'
        · exact h'
        · exact absurd (List.drop_eq_nil_of_le h') hn
      refine .inr ⟨b, o + j, ?_, fun i hi => ?_⟩
      · rw [if_neg (by omega)]
        simp only [Option.map_some, Nat.mul_one, Addr.add]
        split
        · rename_i e; simp [e]
        · rfl
      · rw [hl] at hi
        rw [show o + j + i = o + (j + i) by omega, hc (j + i) (by omega), List.getElem?_drop]
end
/-- A join to which all ways lead with the same facts. -/
theorem iJnX {F : (List Value → World → Prop) → Prop} {K : List Value → World → Prop} (C : List Value → World → Prop) (h : ∀ J : List Value → World → Prop, (∀ xs w, C xs w → J xs w) → F J) (hK : ∀ xs w, C xs w → K xs w) : jn F K := h K hK
/-! ### The order of strings -/
/-! ### A range over a string -/
section
variable {P : Program} {w : World}
end
/-! ### Slices of elements of k cells -/
/-- A slice value that reads as n elements of k cells each. -/
def SlK (k : Nat) (w : World) (v : Value) (n : Nat) (xs : List Value) : Prop :=
  xs.length = n * k ∧ ∃ a c, v = .slice a n c ∧ n ≤ c ∧ c ≤ 9223372036854775807 ∧ (n = 0 ∨ ∃ b o, a = some ⟨b, o, none⟩ ∧ ∀ i, i < n * k → w.cell? ⟨b, o + i, none⟩ = xs[i]?)
theorem SlK.ext {k : Nat} {w w' : World} {v : Value} {n : Nat} {xs : List Value} (h : SlK k w v n xs) (he : Ext w w') : SlK k w' v n xs := by
  obtain ⟨h0, a, c, h1, h2, h3, h4⟩ := h
  refine ⟨h0, a, c, h1, h2, h3, h4.imp id fun ⟨b, o, ha, hc⟩ => ⟨b, o, ha, fun i hi => ?_⟩⟩
  have := hc i hi
  rw [List.getElem?_eq_getElem (by omega)] at this ⊢
  exact he.cell this
theorem SlK.len {k : Nat} {w : World} {v : Value} {n : Nat} {xs : List Value} (h : SlK k w v n xs) : n ≤ 9223372036854775807 := let ⟨_, _, _, _, h2, h3, _⟩ := h; Nat.le_trans h2 h3
theorem iLenK {k : Nat} {w : World} {v : Value} {n : Nat} {xs : List Value} {K : Value → Prop} (hs : SlK k w v n xs) (h : K (.int .i64 (n : Nat))) : xLenS v K := by
  obtain ⟨_, a, c, rfl, _⟩ := hs; exact ⟨_, _, _, rfl, h⟩
theorem addr_add (b o i : Nat) : (⟨b, o, none⟩ : Addr).add i = ⟨b, o + i, none⟩ := by
  simp only [Addr.add]; split
  · rename_i e; simp [e]
  · rfl
theorem iIaK {sz : Nat} {w : World} {v : Value} {n : Nat} {xs : List Value} {j : Nat} {k : IntKind} {K : Value → Prop} (hs : SlK sz w v n xs) (h1 : j < n)
    (h : ∀ b o, (∀ i, i < sz → w.cell? ⟨b, o + i, none⟩ = xs[j * sz + i]?) → K (.pointer (some ⟨b, o, none⟩))) : xIa sz v (.int k (j : Int)) K := by
  obtain ⟨h0, a, c, rfl, h2, h3, h4⟩ := hs
  rcases h4 with rfl | ⟨b, o, rfl, hc⟩
  · omega
  · refine ⟨_, _, _, _, _, rfl, rfl, by omega, by omega, ?_⟩
    rw [Int.toNat_natCast, addr_add]
    refine h b (o + j * sz) fun i hi => ?_
    rw [Nat.add_assoc]
    refine hc _ ?_
    have : (j + 1) * sz ≤ n * sz := Nat.mul_le_mul_right _ h1
    rw [Nat.add_mul, Nat.one_mul] at this
    omega
/-- A slice of the call's own, of elements of k cells. -/
def OwK (k lo : Nat) (e : TypeId) (w : World) (v : Value) (n : Nat) (xs : List Value) : Prop := w.ownsRow lo e k v n xs
theorem OwK.sl {k lo : Nat} {e : TypeId} {w : World} {v : Value} {n : Nat} {xs : List Value} (h : OwK k lo e w v n xs) : SlK k w v n xs := by
  obtain ⟨h0, h | ⟨g, cap, cur, hv, _, hh, h1, h2, h3, h4⟩⟩ := h
  · obtain ⟨rfl, rfl⟩ := h
    exact ⟨h0, none, 0, rfl, Nat.le_refl _, by omega, .inl rfl⟩
  · refine ⟨h0, _, cap, hv, h1, h2, .inr ⟨g, 0, rfl, fun i hi => ?_⟩⟩
    simp only [Nat.zero_add, World.cell?, hh]
    rw [← h4]
    simp only [Option.isSome_none, Bool.false_eq_true, if_false, List.getElem?_take]
    rw [if_pos hi]; simp
theorem OwK.ext {k lo : Nat} {e : TypeId} {w w' : World} {v : Value} {n : Nat} {xs : List Value} (h : OwK k lo e w v n xs) (he : Ext w w') : OwK k lo e w' v n xs := by
  obtain ⟨h0, h | ⟨g, cap, cur, hv, hg, hh, h1⟩⟩ := h
  · exact ⟨h0, .inl h⟩
  · exact ⟨h0, .inr ⟨g, cap, cur, hv, hg, by rw [Below.block he g (heap_lt hh)]; exact hh, h1⟩⟩
theorem OwK.mono {k lo lo' : Nat} {e : TypeId} {w : World} {v : Value} {n : Nat} {xs : List Value} (h : OwK k lo e w v n xs) (hl : lo' ≤ lo) : OwK k lo' e w v n xs := by
  obtain ⟨h0, h | ⟨g, cap, cur, hv, hg, hh, h1⟩⟩ := h
  · exact ⟨h0, .inl h⟩
  · exact ⟨h0, .inr ⟨g, cap, cur, hv, Nat.le_trans hl hg, hh, h1⟩⟩
theorem OwK.nil (k lo : Nat) (e : TypeId) (w : World) : OwK k lo e w (.slice none 0 0) 0 [] := World.ownsRow_nil w lo e k
theorem OwK.blk {k lo : Nat} {e : TypeId} {w : World} {v : Value} {n : Nat} {xs : List Value} (h : OwK k lo e w v n xs) : ∀ c, v.ownBlock = some c → lo ≤ c ∧ c < w.heap.size := World.ownsRow.lt h
theorem OwK.ch {S : Nat → Prop} {k lo : Nat} {e : TypeId} {w w' : World} {v : Value} {n : Nat} {xs : List Value} (h : OwK k lo e w v n xs) (hc : Ch S w w') (hn : ∀ c, v.ownBlock = some c → ¬ S c) : OwK k lo e w' v n xs := by
  obtain ⟨h0, h | ⟨g, cap, cur, hv, hg, hh, h1⟩⟩ := h
  · exact ⟨h0, .inl h⟩
  · exact ⟨h0, .inr ⟨g, cap, cur, hv, hg, by rw [hc.block g (heap_lt hh) (hn g (by rw [hv]; rfl))]; exact hh, h1⟩⟩
theorem OwK.ty {k lo : Nat} {e : TypeId} {w : World} {v : Value} {n : Nat} {xs : List Value} (h : OwK k lo e w v n xs) {c : Nat} (hc : v.ownBlock = some c) : ∃ cur, w.heap[c]? = some (.cells cur e (0, 0)) := by
  obtain ⟨_, h | ⟨g, cap, cur, hv, hg, hh, h1⟩⟩ := h
  · rw [h.1] at hc; cases hc
  · rw [hv] at hc
    cases hc
    exact ⟨cur, hh⟩
theorem OwK.ne_blk {k lo : Nat} {e e' : TypeId} {w : World} {v : Value} {n : Nat} {xs cs : List Value} {b : Nat} (h : OwK k lo e w v n xs) (hb : Blk e' w b cs) (hne : e ≠ e') : v.ownBlock ≠ some b := by
  intro hc
  obtain ⟨cur, h1⟩ := h.ty hc
  unfold Blk at hb
  rw [h1] at hb
  injection hb with hb
  injection hb with _ hb _
  exact hne hb
theorem OwK.ofBlk {k lo : Nat} {e : TypeId} {w : World} {b n : Nat} {cs : List Value} (h : Blk e w b cs) (hl : lo ≤ b) (hn : cs.length = n * k) (hm : n ≤ 9223372036854775807) : OwK k lo e w (.slice (some ⟨b, 0, none⟩) n n) n cs :=
  ⟨hn, .inr ⟨b, n, cs.toArray, rfl, hl, h, Nat.le_refl _, hm, by simpa using hn, by rw [← hn]; simp⟩⟩
theorem OwK.toOw {lo : Nat} {e : TypeId} {w : World} {v : Value} {n : Nat} {xs : List Value} (h : OwK 1 lo e w v n xs) : Ow lo e w v xs := by
  have : n = xs.length := by have := h.1; omega
  subst this; exact h
section
variable {P : Program} {w : World}
/-- 'append(s, x...)', s the call's own, elements of k cells. -/
theorem iAppK {lo k : Nat} {t ty e : TypeId} {z v x : Value} {bytes n m : Nat} {xs ys : List Value} {K : Value → World → Prop} (ht : P.underlying t = some (.slice e)) (hi : (P.info? e).map (fun i => (i.zero, i.size, i.bytes)) = some (some z, k, bytes)) (hz : z.cells.size = k) (hk : 0 < k)
    (hown : OwK k lo e w v n xs) (hs : SlK k w x m ys) (hy : ∀ u ∈ ys, isCell u = true) (hb : (n + m) * bytes ≤ 140737488355328) (hm : n + m ≤ 9223372036854775807) (hlo : lo ≤ w.heap.size)
    (h : ∀ v' w', OwK k lo e w' v' (n + m) (xs ++ ys) → w.grownBy w' v.ownBlock → (v'.ownBlock = v.ownBlock ∨ ∃ c, v'.ownBlock = some c ∧ w.heap.size ≤ c) → K v' w') : xOp P (Builtin.append_ #[t, t] ty #[v, x]) w K := by
  obtain ⟨i, hi, h3⟩ := Option.map_eq_some_iff.1 hi
  simp only [Prod.mk.injEq] at h3
  obtain ⟨hz0, hsz, hby⟩ := h3
  obtain ⟨hyl, a, c, rfl, hlc, hcm, hcells⟩ := hs
  have key : ∀ ad : Addr, a = some ad → (∀ j u, ys[j]? = some u → w.cell? (ad.add j) = some u) → xOp P (Builtin.append_ #[t, t] ty #[v, .slice a m c]) w K := by
    rintro ad rfl hnews
    obtain ⟨v', w', h4, h5, h6, _, h7⟩ := run_append_own_at (P := P) (w := w) lo t ty e i z k bytes ht hi hz0 hsz hby hz hk v n xs hown ad m c ys hyl hnews (fun u hu => isCell_one (hy u hu)) (by simpa [maxLen] using hm) hb hlo
    exact ⟨v', w', h4, h v' w' h5 h6 (h7.imp id fun e => ⟨_, e, Nat.le_refl _⟩)⟩
  rcases hcells with rfl | ⟨b, o, rfl, hc⟩
  · have : ys = [] := List.length_eq_zero_iff.1 (by omega)
    subst this
    cases a with
    | some ad => exact key ad rfl (fun j u hu => by simp at hu)
    | none =>
      refine ⟨v, w, ?_, h v w (by simpa using hown) (grown_refl w _) (.inl rfl)⟩
      rcases hown.2 with ⟨rfl, hn⟩ | ⟨g, cap, cur, rfl, _, _, hnc, _⟩
      · simp [Builtin.append_, run_underlying ht, sizeOf, typeInfo, hi, Builtin.lenOf, Builtin.firstCells]
      · simp [Builtin.append_, run_underlying ht, sizeOf, typeInfo, hi, Builtin.lenOf, Builtin.firstCells, hnc, storeCells]
  · refine key ⟨b, o, none⟩ rfl fun j u hu => ?_
    have hj : j < ys.length := (List.getElem?_eq_some_iff.1 hu).1
    rw [addr_add, hc j (by omega), hu]
end
/-! ### Literals of slices; what a call may turn -/
theorem iBs2 {w : World} {e : TypeId} {a b z : Value} {K : Value → World → Prop} (hz : isCell z = true) (ha : isCell a = true) (hb : isCell b = true) (h : ∀ c w', c = w.heap.size ∧ w'.heap.size = c + 1 → Ext w w' → Blk e w' c [a, b] → K (.slice (some ⟨c, 0, none⟩) 2 2) w') :
    xBs e (Value.cells z) 1 2 [(0, a), (1, b)] w K := by
  refine ⟨#[a, b], ?_, h _ _ ⟨rfl, by simp⟩ (Ext.alloc w _) (Blk.new w #[a, b] e)⟩
  rw [isCell_cells hz]
  simp [Instr.fill, isCell_cells ha, isCell_cells hb, show Array.range 2 = #[0, 1] from rfl]
theorem ch_self {b : Nat} {w w' w'' : World} (h : Ch (fun c => c = b) w w') (k : Ch (fun c => c = b) w' w'') : Ch (fun c => c = b) w w'' := h.trans k fun _ h => .inl h
theorem ch_ext {b : Nat} {w w' w'' : World} (h : Ch (fun c => c = b) w w') (k : Ext w' w'') : Ch (fun c => c = b) w w'' := h.trans (k.ch (S := fun _ => False)) fun _ h => h.elim
end Go.Vc

/- Plain facts on sorting in place: swaps in a part of a list, insertion, heaps, partitions. No program in sight. Conditions: none. -/
namespace Go.Vc
universe u
section
variable {α : Type u} [Inhabited α]
/-- The k-th element. -/
def gt (L : List α) (k : Nat) : α := L.getD k default
theorem gt_eq {L : List α} {k : Nat} (h : k < L.length) : gt L k = L[k] := by unfold gt; simp [List.getD_eq_getElem?_getD, h]
theorem gt_set {L : List α} {i : Nat} (x : α) (hi : i < L.length) (k : Nat) : gt (L.set i x) k = if k = i then x else gt L k := by
  unfold gt
  simp only [List.getD_eq_getElem?_getD, List.getElem?_set]
  by_cases h : i = k
  · subst h; simp [hi]
  · simp [h, Ne.symm h]
def sw (L : List α) (i j : Nat) : List α := (L.set i (gt L j)).set j (gt L i)
theorem sw_len (L : List α) (i j : Nat) : (sw L i j).length = L.length := by simp [sw]
theorem gt_sw {L : List α} {i j : Nat} (hi : i < L.length) (hj : j < L.length) (k : Nat) : gt (sw L i j) k = if k = j then gt L i else if k = i then gt L j else gt L k := by
  unfold sw
  rw [gt_set _ (by simpa using hj), gt_set _ hi]
theorem sw_perm {L : List α} {i j : Nat} (hi : i < L.length) (hj : j < L.length) : List.Perm (sw L i j) L := by
  unfold sw
  rw [gt_eq hi, gt_eq hj]
  exact List.set_set_perm hi hj
/-- Swaps of places from a to below b. -/
inductive SwR (a b : Nat) (L : List α) : List α → Prop
  | refl : SwR a b L L
  | step {L' : List α} {i j : Nat} : SwR a b L L' → a ≤ i → i < b → a ≤ j → j < b → b ≤ L.length → SwR a b L (sw L' i j)
theorem SwR.len {a b : Nat} {L L' : List α} (h : SwR a b L L') : L'.length = L.length := by
  induction h with
  | refl => rfl
  | step _ _ _ _ _ _ ih => rw [sw_len, ih]
theorem SwR.perm {a b : Nat} {L L' : List α} (h : SwR a b L L') : List.Perm L' L := by
  induction h with
  | refl => exact List.Perm.refl _
  | step hs _ _ _ _ _ ih => exact (sw_perm (by rw [hs.len]; omega) (by rw [hs.len]; omega)).trans ih
theorem SwR.trans {a b : Nat} {L L' L'' : List α} (h : SwR a b L L') (k : SwR a b L' L'') : SwR a b L L'' := by
  induction k with
  | refl => exact h
  | step _ h1 h2 h3 h4 h5 ih => exact .step ih h1 h2 h3 h4 (by rw [← h.len]; exact h5)
theorem SwR.mono {a b a' b' : Nat} {L L' : List α} (h : SwR a b L L') (ha : a' ≤ a) (hb : b ≤ b') (hl : b' ≤ L.length) : SwR a' b' L L' := by
  induction h with
  | refl => exact .refl
  | step _ h1 h2 h3 h4 _ ih => exact .step ih (by omega) (by omega) (by omega) (by omega) hl
theorem SwR.out {a b : Nat} {L L' : List α} (h : SwR a b L L') {k : Nat} (hk : k < a ∨ b ≤ k) : gt L' k = gt L k := by
  induction h with
  | refl => rfl
  | step hs h1 h2 h3 h4 h5 ih => rw [gt_sw (by rw [hs.len]; omega) (by rw [hs.len]; omega), if_neg (by omega), if_neg (by omega), ih]
theorem SwR.all {a b : Nat} {L L' : List α} (h : SwR a b L L') {p : α → Prop} (hp : ∀ k, a ≤ k → k < b → p (gt L k)) : ∀ k, a ≤ k → k < b → p (gt L' k) := by
  induction h with
  | refl => exact hp
  | step hs h1 h2 h3 h4 h5 ih =>
    intro k hk hk'
    rw [gt_sw (by rw [hs.len]; omega) (by rw [hs.len]; omega)]
    split
    · exact ih _ h1 h2
    · split
      · exact ih _ h3 h4
      · exact ih _ hk hk'
theorem SwR.one {a b i j : Nat} {L : List α} (h1 : a ≤ i) (h2 : i < b) (h3 : a ≤ j) (h4 : j < b) (h5 : b ≤ L.length) : SwR a b L (sw L i j) := .step .refl h1 h2 h3 h4 h5
/-- A total order that need not tell all apart, by 'less'. -/
structure Ordr (lt : α → α → Bool) : Prop where
  asym : ∀ {a b}, lt a b = true → lt b a = false
  tr : ∀ {a b c}, lt b a = false → lt c b = false → lt c a = false
variable {lt : α → α → Bool}
 omit [Inhabited α] in
theorem Ordr.rfl (O : Ordr lt) (a : α) : lt a a = false := by
  cases h : lt a a
  · exact Eq.refl _
  · have := O.asym h; rw [h] at this; exact this
 omit [Inhabited α] in
theorem Ordr.lt_le (O : Ordr lt) {a b c : α} (h : lt a b = true) (k : lt c b = false) : lt a c = true := by
  cases h' : lt a c
  · have := O.tr (a := b) (b := c) (c := a) k h'; rw [h] at this; cases this
  · exact Eq.refl _
 omit [Inhabited α] in
theorem Ordr.le_lt (O : Ordr lt) {a b c : α} (h : lt b a = false) (k : lt b c = true) : lt a c = true := by
  cases h' : lt a c
  · have := O.tr (a := c) (b := a) (c := b) h' h; rw [k] at this; cases this
  · exact Eq.refl _
/-- In order from a to below b. -/
def Srt (lt : α → α → Bool) (a b : Nat) (L : List α) : Prop := ∀ p q, a ≤ p → p < q → q < b → lt (gt L q) (gt L p) = false
theorem Srt.mono {a b a' b' : Nat} {L : List α} (h : Srt lt a b L) (ha : a ≤ a') (hb : b' ≤ b) : Srt lt a' b' L := fun p q h1 h2 h3 => h p q (by omega) h2 (by omega)
theorem Srt.short {a b : Nat} {L : List α} (h : b ≤ a + 1) : Srt lt a b L := fun p q h1 h2 h3 => by omega
theorem Srt.out {a b c d : Nat} {L L' : List α} (h : Srt lt a b L) (hs : SwR c d L L') (hd : d ≤ a ∨ b ≤ c) : Srt lt a b L' := fun p q h1 h2 h3 => by
  rw [hs.out (by omega), hs.out (by omega)]; exact h p q h1 h2 h3
/-! ### Insertion -/
/-- In order but for the pairs whose upper place is j. -/
def Ins (lt : α → α → Bool) (a i j : Nat) (L : List α) : Prop := ∀ p q, a ≤ p → p < q → q ≤ i → q ≠ j → lt (gt L q) (gt L p) = false
theorem Ins.init {a i : Nat} {L : List α} (h : Srt lt a i L) : Ins lt a i i L := fun p q h1 h2 h3 h4 => h p q h1 h2 (by omega)
theorem Ins.done (O : Ordr lt) {a i j : Nat} {L : List α} (h : Ins lt a i j L) (hj : j ≤ a ∨ (a < j ∧ lt (gt L j) (gt L (j - 1)) = false)) (hji : j ≤ i) : Srt lt a (i + 1) L := fun p q h1 h2 h3 => by
  by_cases hq : q = j
  · subst hq
    rcases hj with hj | ⟨h4, h5⟩
    · omega
    · by_cases hp : p = q - 1
      · subst hp; exact h5
      · exact O.tr (h p (q - 1) h1 (by omega) (by omega) (by omega)) h5
  · exact h p q h1 h2 (by omega) hq
theorem Ins.swap (O : Ordr lt) {a i j : Nat} {L : List α} (h : Ins lt a i j L) (haj : a < j) (hji : j ≤ i) (hi : i < L.length) (hlt : lt (gt L j) (gt L (j - 1)) = true) : Ins lt a i (j - 1) (sw L j (j - 1)) := fun p q h1 h2 h3 h4 => by
  rw [gt_sw (by omega) (by omega), gt_sw (by omega) (by omega)]
  rw [if_neg h4]
  by_cases hq : q = j
  · subst hq
    rw [if_pos rfl]
    by_cases hp : p = q - 1
    · rw [if_pos hp]; exact O.asym hlt
    · rw [if_neg hp, if_neg (by omega)]; exact h p (q - 1) h1 (by omega) (by omega) (by omega)
  · rw [if_neg hq]
    by_cases hp : p = j - 1
    · rw [if_pos hp]; exact h j q (by omega) (by omega) h3 hq
    · rw [if_neg hp]
      by_cases hp2 : p = j
      · rw [if_pos hp2]; exact h (j - 1) q (by omega) (by omega) h3 hq
      · rw [if_neg hp2]; exact h p q h1 h2 h3 hq
/-! ### Heaps -/
/-- From the place 'first' on, 'hi' many: no child of a place from lo on, other than r, is more than it. -/
def Heap (lt : α → α → Bool) (first lo hi : Nat) (L : List α) : Prop := ∀ p c, lo ≤ p → (c = 2 * p + 1 ∨ c = 2 * p + 2) → c < hi → lt (gt L (first + p)) (gt L (first + c)) = false
/-- The same but for the root r, whose children are no more than its parent. -/
def Sift (lt : α → α → Bool) (first lo hi r : Nat) (L : List α) : Prop :=
  (∀ p c, lo ≤ p → p ≠ r → (c = 2 * p + 1 ∨ c = 2 * p + 2) → c < hi → lt (gt L (first + p)) (gt L (first + c)) = false) ∧
  (∀ p c, lo ≤ p → (r = 2 * p + 1 ∨ r = 2 * p + 2) → (c = 2 * r + 1 ∨ c = 2 * r + 2) → c < hi → lt (gt L (first + p)) (gt L (first + c)) = false)
theorem Sift.init {first lo hi : Nat} {L : List α} (h : Heap lt first (lo + 1) hi L) : Sift lt first lo hi lo L :=
  ⟨fun p c h1 h2 h3 h4 => h p c (by omega) h3 h4, fun p c h1 h2 h3 h4 => by omega⟩
theorem Sift.done {first lo hi r : Nat} {L : List α} (h : Sift lt first lo hi r L) (hr : ∀ c, (c = 2 * r + 1 ∨ c = 2 * r + 2) → c < hi → lt (gt L (first + r)) (gt L (first + c)) = false) : Heap lt first lo hi L := fun p c h1 h2 h3 => by
  by_cases hp : p = r
  · subst hp; exact hr c h2 h3
  · exact h.1 p c h1 hp h2 h3
theorem Sift.swap (O : Ordr lt) {first lo hi r c : Nat} {L : List α} (h : Sift lt first lo hi r L) (hlo : lo ≤ r) (hc : c = 2 * r + 1 ∨ c = 2 * r + 2) (hch : c < hi) (hl : first + hi ≤ L.length)
    (hlt : lt (gt L (first + r)) (gt L (first + c)) = true) (hmax : ∀ d, (d = 2 * r + 1 ∨ d = 2 * r + 2) → d < hi → lt (gt L (first + c)) (gt L (first + d)) = false) :
    Sift lt first lo hi c (sw L (first + r) (first + c)) := by
  have e : ∀ k, k < hi → gt (sw L (first + r) (first + c)) (first + k) = if k = c then gt L (first + r) else if k = r then gt L (first + c) else gt L (first + k) := fun k hk => by
    rw [gt_sw (by omega) (by omega)]
    simp only [Nat.add_left_cancel_iff]
  constructor
  · intro p d h1 h2 h3 h4
    rw [e p (by omega), e d h4, if_neg h2]
    by_cases hp : p = r
    · subst hp
      rw [if_pos rfl]
      by_cases hd : d = c
      · rw [if_pos hd]; exact O.asym hlt
      · rw [if_neg hd, if_neg (by omega)]; exact hmax d h3 h4
    · rw [if_neg hp]
      have hdc : d ≠ c := by omega
      rw [if_neg hdc]
      by_cases hd : d = r
      · rw [if_pos hd]; subst hd; exact h.2 p c h1 h3 hc hch
      · rw [if_neg hd]; exact h.1 p d h1 hp h3 h4
  · intro p d h1 h2 h3 h4
    have hp : p = r := by omega
    subst hp
    rw [e p (by omega), e d h4, if_neg (by omega), if_pos rfl, if_neg (by omega), if_neg (by omega)]
    exact h.1 c d (by omega) (by omega) h3 h4
theorem Heap.top (O : Ordr lt) {first hi : Nat} {L : List α} (h : Heap lt first 0 hi L) : ∀ k, k < hi → lt (gt L first) (gt L (first + k)) = false := by
  intro k
  induction k using Nat.strongRecOn with
  | ind k ih =>
    intro hk
    by_cases h0 : k = 0
    · subst h0; exact O.rfl _
    · exact O.tr (h ((k - 1) / 2) k (Nat.zero_le _) (by omega) hk) (ih ((k - 1) / 2) (by omega) (by omega))
/-! ### Windows -/
/-- All pairs but those inside the window are in order. -/
def Crs (lt : α → α → Bool) (a0 b0 a b : Nat) (L : List α) : Prop := ∀ p q, a0 ≤ p → p < q → q < b0 → ¬ (a ≤ p ∧ q < b) → lt (gt L q) (gt L p) = false
/-- Nothing in the window is less than what lies before it. -/
def Blw (lt : α → α → Bool) (a b : Nat) (L : List α) : Prop := ∀ k, a ≤ k → k < b → 1 ≤ a → lt (gt L k) (gt L (a - 1)) = false
theorem Crs.all {a b : Nat} {L : List α} : Crs lt a b a b L := fun _ _ h1 _ h3 h4 => (h4 ⟨h1, h3⟩).elim
theorem Crs.keep {a0 b0 a b : Nat} {L L' : List α} (h : Crs lt a0 b0 a b L) (hs : SwR a b L L') (ha : a0 ≤ a) (hb : b ≤ b0) : Crs lt a0 b0 a b L' := fun p q h1 h2 h3 h4 => by
  by_cases hp : a ≤ p ∧ p < b
  · rw [hs.out (k := q) (by omega)]
    exact hs.all (p := fun x => lt (gt L q) x = false) (fun k hk hk' => h k q (by omega) (by omega) h3 (by omega)) p hp.1 hp.2
  · rw [hs.out (k := p) (by omega)]
    by_cases hq : a ≤ q ∧ q < b
    · exact hs.all (p := fun x => lt x (gt L p) = false) (fun k hk hk' => h p k h1 (by omega) (by omega) (by omega)) q hq.1 hq.2
    · rw [hs.out (k := q) (by omega)]; exact h p q h1 h2 h3 h4
theorem Crs.done {a0 b0 a b : Nat} {L L' : List α} (h : Crs lt a0 b0 a b L) (hs : SwR a b L L') (ha : a0 ≤ a) (hb : b ≤ b0) (k : Srt lt a b L') : Srt lt a0 b0 L' := fun p q h1 h2 h3 => by
  by_cases hw : a ≤ p ∧ q < b
  · exact k p q hw.1 h2 hw.2
  · exact h.keep hs ha hb p q h1 h2 h3 hw
theorem Blw.keep {a b a' b' : Nat} {L L' : List α} (h : Blw lt a b L) (hs : SwR a' b' L L') (ha : a ≤ a') (hb : b' ≤ b) : Blw lt a b L' := fun k h1 h2 h3 => by
  rw [hs.out (k := a - 1) (by omega)]
  by_cases hk : a' ≤ k ∧ k < b'
  · exact hs.all (p := fun x => lt x (gt L (a - 1)) = false) (fun k hk hk' => h k (by omega) (by omega) h3) k hk.1 hk.2
  · rw [hs.out (k := k) (by omega)]; exact h k h1 h2 h3
theorem Blw.low {a b m : Nat} {L : List α} (h : Blw lt a b L) (hm : m ≤ b) : Blw lt a m L := fun k h1 h2 h3 => h k h1 (by omega) h3
/-- At m, what lies below is less, and what lies above is not. -/
def Parted (lt : α → α → Bool) (a b m : Nat) (L : List α) : Prop := (∀ k, a ≤ k → k < m → lt (gt L k) (gt L m) = true) ∧ ∀ k, m < k → k < b → lt (gt L k) (gt L m) = false
theorem Parted.lowS {a b m : Nat} {L L' : List α} (h : Parted lt a b m L) (hs : SwR a m L L') : Parted lt a b m L' :=
  ⟨fun k h1 h2 => by rw [hs.out (k := m) (by omega)]; exact hs.all (p := fun x => lt x (gt L m) = true) h.1 k h1 h2,
   fun k h1 h2 => by rw [hs.out (k := m) (by omega), hs.out (k := k) (by omega)]; exact h.2 k h1 h2⟩
theorem Parted.highS {a b m : Nat} {L L' : List α} (h : Parted lt a b m L) (hs : SwR (m + 1) b L L') : Parted lt a b m L' :=
  ⟨fun k h1 h2 => by rw [hs.out (k := m) (by omega), hs.out (k := k) (by omega)]; exact h.1 k h1 h2,
   fun k h1 h2 => by rw [hs.out (k := m) (by omega)]; exact hs.all (p := fun x => lt x (gt L m) = false) (fun k h1 h2 => h.2 k (by omega) h2) k (by omega) h2⟩
theorem Parted.blw {a b m : Nat} {L : List α} (h : Parted lt a b m L) : Blw lt (m + 1) b L := fun k h1 h2 _ => h.2 k (by omega) h2
theorem Parted.up (O : Ordr lt) {a0 b0 a b m : Nat} {L : List α} (h : Parted lt a b m L) (hc : Crs lt a0 b0 a b L) (hs : Srt lt a m L) : Crs lt a0 b0 (m + 1) b L := fun p q h1 h2 h3 h4 => by
  by_cases hw : a ≤ p ∧ q < b
  · rcases Nat.lt_trichotomy q m with hq | hq | hq
    · exact hs p q hw.1 h2 hq
    · subst hq; exact O.asym (h.1 p hw.1 h2)
    · rcases Nat.lt_trichotomy p m with hp | hp | hp
      · exact O.tr (O.asym (h.1 p hw.1 hp)) (h.2 q hq hw.2)
      · subst hp; exact h.2 q hq hw.2
      · omega
  · exact hc p q h1 h2 h3 hw
theorem Parted.down (O : Ordr lt) {a0 b0 a b m : Nat} {L : List α} (h : Parted lt a b m L) (hc : Crs lt a0 b0 a b L) (hs : Srt lt (m + 1) b L) : Crs lt a0 b0 a m L := fun p q h1 h2 h3 h4 => by
  by_cases hw : a ≤ p ∧ q < b
  · rcases Nat.lt_trichotomy p m with hp | hp | hp
    · rcases Nat.lt_trichotomy q m with hq | hq | hq
      · omega
      · subst hq; exact O.asym (h.1 p hw.1 h2)
      · exact O.tr (O.asym (h.1 p hw.1 hp)) (h.2 q hq hw.2)
    · subst hp; exact h.2 q h2 hw.2
    · exact hs p q hp h2 hw.2
  · exact hc p q h1 h2 h3 hw
/-- Below m all are at most x, and from m on more; x is the least. -/
theorem equal_up (O : Ordr lt) {a0 b0 a b m : Nat} {L : List α} {x : α} (hc : Crs lt a0 b0 a b L) (hx : ∀ k, a ≤ k → k < b → lt (gt L k) x = false) (h1 : ∀ k, a ≤ k → k < m → lt x (gt L k) = false) (_ : m ≤ b) : Crs lt a0 b0 m b L := fun p q g1 g2 g3 g4 => by
  by_cases hw : a ≤ p ∧ q < b
  · exact O.tr (h1 p hw.1 (by omega)) (hx q (by omega) hw.2)
  · exact hc p q g1 g2 g3 hw
theorem equal_blw (O : Ordr lt) {a b m : Nat} {L : List α} {x : α} (hx : ∀ k, a ≤ k → k < b → lt (gt L k) x = false) (h1 : ∀ k, a ≤ k → k < m → lt x (gt L k) = false) (ham : a < m) : Blw lt m b L := fun k g1 g2 _ =>
  O.tr (h1 (m - 1) (by omega) (by omega)) (hx k (by omega) g2)
/-- A list in order. -/
theorem Srt.pairwise {L : List α} (h : Srt lt 0 L.length L) : L.Pairwise fun x y => lt y x = false := by
  rw [List.pairwise_iff_getElem]
  intro i j hi hj hij
  rw [← gt_eq hi, ← gt_eq hj]
  exact h i j (Nat.zero_le _) hij hj
end
end Go.Vc
