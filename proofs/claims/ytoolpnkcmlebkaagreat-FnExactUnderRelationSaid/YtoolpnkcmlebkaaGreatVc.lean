/- A verified compiler from a Go function's code to a plain proposition without frames: 'den'. Conditions: none; it is stated over any program. -/
import Derived.Scope
import Derived.Still
import Derived.Below
import Derived.KernelRfl
namespace Go.Vc
open Go.RowKit (Below)

/-- Nothing that lay in memory has turned; there may be new blocks. -/
def Ext (w w' : World) : Prop := Below w.heap.size w w'
theorem Ext.refl (w : World) : Ext w w := Below.refl _ _
theorem Ext.trans {a b c : World} (h : Ext a b) (k : Ext b c) : Ext a c := Below.trans h (Below.mono k h.size)
theorem Ext.size {a b : World} (h : Ext a b) : a.heap.size ≤ b.heap.size := Below.size h
theorem Ext.cell {a b : World} (h : Ext a b) {p : Addr} {v : Value} (hp : a.cell? p = some v) : b.cell? p = some v := by
  rw [Below.cell h (World.block_lt_of_cell? a p hp)]; exact hp
theorem Ext.alloc (w : World) (o : Obj) : Ext w (w.alloc o) := Below.alloc (Below.refl _ _) (Nat.le_refl _) o
theorem Ext.drew (w : World) : Ext w w.drew := Below.drew (Below.refl _ _)

/-! ### The names of a frame -/
structure En where
  s : Nat
  v : Value
  k : Option (Option Bool)
abbrev Env := List En
def look : Env → Nat → Value
  | [], _ => undef
  | e :: r, n => bif Nat.beq e.s n then e.v else look r n
/-- What is known of a slot beforehand: nothing, that it holds a bool, or that it was passed over. -/
def known : Env → Nat → Option (Option Bool)
  | [], _ => none
  | e :: r, n => bif Nat.beq e.s n then e.k else known r n
def ev (env : Env) : Operand → Value
  | .tmp t => look env t
  | .const v => v
  | .global g => .pointer (some ⟨g, 0, none⟩)
  | .func f => .func (.func f) #[] #[]
def kv : Option Bool → Value
  | some b => .bool b
  | none => undef
def evk (env : Env) : Operand → Option (Option Bool)
  | .tmp t => known env t
  | .const (.bool b) => some (some b)
  | _ => none
def oev (env : Env) : Option Operand → Option Value
  | none => none
  | some x => some (ev env x)
def EnvOk (env : Env) : Prop := ∀ s x, known env s = some x → look env s = kv x

/-! ### What is asked of a value -/
def xPick (c a b : Value) (K : Value → Prop) : Prop := ∃ t, c = .bool t ∧ K (if t then a else b)
def okNil : Value → Prop
  | .pointer (some _) => True
  | .func (.func _) _ _ => True
  | _ => False
def xNil (x : Value) (K : Value → Prop) : Prop := okNil x ∧ K x
def xLd (w : World) (x : Value) (K : Value → Prop) : Prop := ∃ ad v, x = .pointer (some ad) ∧ w.cell? ad = some v ∧ K v
def xLdA (w : World) (n : Nat) (x : Value) (K : Value → Prop) : Prop := ∃ ad cs, x = .pointer (some ad) ∧ cs.size = n ∧ (∀ i, i < n → w.cell? (ad.add i) = cs[i]?) ∧ K (.agg cs)
def xFa (off : Nat) (x : Value) (K : Value → Prop) : Prop := ∃ ad, x = .pointer (some ad) ∧ K (.pointer (some (ad.add off)))
def xFd (off : Nat) (x : Value) (K : Value → Prop) : Prop := ∃ cs v, x = .agg cs ∧ cs[off]? = some v ∧ K v
def xFdA (off n : Nat) (x : Value) (K : Value → Prop) : Prop := ∃ cs, x = .agg cs ∧ K (.agg (cs.extract off (off + n)))
def xIa (sz : Nat) (x i : Value) (K : Value → Prop) : Prop := ∃ ad n c k j, x = .slice (some ad) n c ∧ i = .int k j ∧ 0 ≤ j ∧ j < n ∧ K (.pointer (some (ad.add (j.toNat * sz))))
def xIaA (len sz : Nat) (x i : Value) (K : Value → Prop) : Prop := ∃ ad k j, x = .pointer (some ad) ∧ i = .int k j ∧ 0 ≤ j ∧ j < len ∧ K (.pointer (some (ad.add (j.toNat * sz))))
def xIs (x i : Value) (K : Value → Prop) : Prop := ∃ s k j b, x = .string s ∧ i = .int k j ∧ 0 ≤ j ∧ s[j.toNat]? = some b ∧ K (.int .u8 (b.toNat : Nat))
def xIx (len sz : Nat) (x i : Value) (K : Value → Prop) : Prop := ∃ cs k j v, x = .agg cs ∧ i = .int k j ∧ 0 ≤ j ∧ j < len ∧ cs[j.toNat * sz]? = some v ∧ K v
def xAdd (k : IntKind) (x y : Value) (K : Value → Prop) : Prop := ∃ a b, x = .int k a ∧ y = .int k b ∧ K (.int k (k.wrap (a + b)))
def xSub (k : IntKind) (x y : Value) (K : Value → Prop) : Prop := ∃ a b, x = .int k a ∧ y = .int k b ∧ K (.int k (k.wrap (a - b)))
def xMul (k : IntKind) (x y : Value) (K : Value → Prop) : Prop := ∃ a b, x = .int k a ∧ y = .int k b ∧ K (.int k (k.wrap (a * b)))
def xQuo (k : IntKind) (x y : Value) (K : Value → Prop) : Prop := ∃ a b, x = .int k a ∧ y = .int k b ∧ b ≠ 0 ∧ K (.int k (k.wrap (a.tdiv b)))
def xRem (k : IntKind) (x y : Value) (K : Value → Prop) : Prop := ∃ a b, x = .int k a ∧ y = .int k b ∧ b ≠ 0 ∧ K (.int k (a.tmod b))
def iAnd (k : IntKind) (a b : Int) : Int := k.wrap ((BitVec.ofInt k.bits a &&& BitVec.ofInt k.bits b).toNat : Nat)
def iOr (k : IntKind) (a b : Int) : Int := k.wrap ((BitVec.ofInt k.bits a ||| BitVec.ofInt k.bits b).toNat : Nat)
def iXor (k : IntKind) (a b : Int) : Int := k.wrap ((BitVec.ofInt k.bits a ^^^ BitVec.ofInt k.bits b).toNat : Nat)
def iAndNot (k : IntKind) (a b : Int) : Int := k.wrap ((BitVec.ofInt k.bits a &&& ~~~ BitVec.ofInt k.bits b).toNat : Nat)
def iShl (k : IntKind) (a b : Int) : Int := k.wrap (a * 2 ^ min b.toNat k.bits)
def iShr (k : IntKind) (a b : Int) : Int := a.fdiv (2 ^ min b.toNat k.bits)
def xBits (f : IntKind → Int → Int → Int) (k : IntKind) (x y : Value) (K : Value → Prop) : Prop := ∃ a b, x = .int k a ∧ y = .int k b ∧ K (.int k (f k a b))
def xSh (f : IntKind → Int → Int → Int) (k : IntKind) (x y : Value) (K : Value → Prop) : Prop := ∃ a yk b, x = .int k a ∧ y = .int yk b ∧ 0 ≤ b ∧ K (.int k (f k a b))
def xEq (k : IntKind) (x y : Value) (K : Value → Prop) : Prop := ∃ a b, x = .int k a ∧ y = .int k b ∧ K (.bool (decide (a = b)))
def xNe (k : IntKind) (x y : Value) (K : Value → Prop) : Prop := ∃ a b, x = .int k a ∧ y = .int k b ∧ K (.bool (decide (¬ a = b)))
def xLt (k : IntKind) (x y : Value) (K : Value → Prop) : Prop := ∃ a b, x = .int k a ∧ y = .int k b ∧ K (.bool (decide (a < b)))
def xLe (k : IntKind) (x y : Value) (K : Value → Prop) : Prop := ∃ a b, x = .int k a ∧ y = .int k b ∧ K (.bool (decide (a ≤ b)))
def xBoolEq (p : Bool) (x y : Value) (K : Value → Prop) : Prop := ∃ a b, x = .bool a ∧ y = .bool b ∧ K (.bool (p == (a == b)))
def xStr (op : BinOp) (x y : Value) (K : Value → Prop) : Prop := ∃ a b v, x = .string a ∧ y = .string b ∧ Op.stringOp op a b = .pure v ∧ K v
def isNilS : Value → Bool
  | .slice none _ _ => true
  | _ => false
def isSl : Value → Prop
  | .slice _ _ _ => True
  | _ => False
def xNilS (p : Bool) (x y : Value) (K : Value → Prop) : Prop := isSl x ∧ y = .slice none 0 0 ∧ K (.bool (p == isNilS x))
def xNot (x : Value) (K : Value → Prop) : Prop := ∃ b, x = .bool b ∧ K (.bool (!b))
def xNeg (k : IntKind) (x : Value) (K : Value → Prop) : Prop := ∃ a, x = .int k a ∧ K (.int k (k.wrap (0 - a)))
def xInv (k : IntKind) (x : Value) (K : Value → Prop) : Prop := ∃ a, x = .int k a ∧ K (.int k (iXor k (if k.signed then -1 else k.max) a))
def xConv (k : IntKind) (x : Value) (K : Value → Prop) : Prop := ∃ k' a, x = .int k' a ∧ K (.int k (k.wrap a))
/-- A bound of 's[lo:hi]'. -/
def bnd (d : Nat) (r : Nat) : Option Value → Prop
  | none => r = d
  | some v => ∃ k, v = .int k (r : Int)
def xSl (sz : Nat) (x : Value) (lo hi : Option Value) (K : Value → Prop) : Prop :=
  ∃ a n c l h, x = .slice a n c ∧ bnd n h hi ∧ bnd 0 l lo ∧ l ≤ h ∧ h ≤ c ∧ K (.slice (if c = l then a else a.map (·.add (l * sz))) (h - l) (c - l))
def xSlS (x : Value) (lo hi : Option Value) (K : Value → Prop) : Prop :=
  ∃ s l h, x = .string s ∧ bnd s.size h hi ∧ bnd 0 l lo ∧ l ≤ h ∧ h ≤ s.size ∧ K (.string (s.extract l h))
def xEx (x : Value) (i : Nat) (K : Value → Prop) : Prop := ∃ vs v, x = .tuple vs ∧ vs[i]? = some v ∧ K v
def xBuild (z : Array Value) (places : Array (Nat × Nat)) (ps : List (Nat × Value)) (K : Value → Prop) : Prop := ∃ cs, Instr.fill (places[·]?) z ps = some cs ∧ K (.agg cs)
def xLenS (x : Value) (K : Value → Prop) : Prop := ∃ a n c, x = .slice a n c ∧ K (.int .i64 (n : Nat))
def xLenT (x : Value) (K : Value → Prop) : Prop := ∃ s, x = .string s ∧ K (.int .i64 (s.size : Nat))
def xCapS (x : Value) (K : Value → Prop) : Prop := ∃ a n c, x = .slice a n c ∧ K (.int .i64 (c : Nat))
def xMax (x y : Value) (K : Value → Prop) : Prop := ∃ k a k' b, x = .int k a ∧ y = .int k' b ∧ K (.int k (if b > a then b else a))
def xMin (x y : Value) (K : Value → Prop) : Prop := ∃ k a k' b, x = .int k a ∧ y = .int k' b ∧ K (.int k (if b < a then b else a))
/-- Whatever else leaves memory alone. -/
def xR (P : Program) (w : World) (s : Sem Value) (K : Value → Prop) : Prop := ∃ v, (∀ w', Ext w w' → s.run P w' = .ok v w') ∧ K v

/-! ### What writes, makes memory or calls -/
def xNew (cs : Array Value) (e : TypeId) (w : World) (K : Value → World → Prop) : Prop := K (.pointer (some ⟨w.heap.size, 0, none⟩)) (w.alloc (.cells cs e))
def isCell : Value → Bool
  | .agg _ | .tuple _ => false
  | _ => true
def xSt (w : World) (a v : Value) (K : World → Prop) : Prop := ∃ ad old, a = .pointer (some ad) ∧ w.cell? ad = some old ∧ w.frozen? ad = false ∧ isCell v = true ∧ K (w.setCell ad v)
def xStA (P : Program) (w : World) (n : Nat) (a v : Value) (K : World → Prop) : Prop :=
  ∃ ad w', a = .pointer (some ad) ∧ v.cells.size = n ∧ (storeCells ad v.cells.toList).run P w = .ok () w' ∧ K w'
def xMk (e : TypeId) (z : Array Value) (sz bytes : Nat) (l c : Value) (w : World) (K : Value → World → Prop) : Prop :=
  ∃ k k' ln cn, l = .int k (ln : Nat) ∧ c = .int k' (cn : Nat) ∧ ln ≤ cn ∧ (cn : Int) ≤ 9223372036854775807 ∧ (bytes : Int) * cn ≤ 2 ^ 48 ∧
    K (.slice (some ⟨w.heap.size, 0, none⟩) ln cn) (w.alloc (.cells ((Array.range (cn * sz)).map (fun i => z[i % z.size]!)) e))
def xBs (e : TypeId) (z : Array Value) (sz n : Nat) (ps : List (Nat × Value)) (w : World) (K : Value → World → Prop) : Prop :=
  ∃ cs, Instr.fill (fun i => some (i * sz, sz)) ((Array.range (n * sz)).map (fun i => z[i % z.size]!)) ps = some cs ∧
    K (.slice (some ⟨w.heap.size, 0, none⟩) n n) (w.alloc (.cells cs e))
def xOp (P : Program) (s : Sem Value) (w : World) (K : Value → World → Prop) : Prop := ∃ v w', s.run P w = .ok v w' ∧ K v w'
def xOpU (P : Program) (s : Sem Unit) (w : World) (K : World → Prop) : Prop := ∃ w', s.run P w = .ok () w' ∧ K w'
def HasB (P : Program) (f : FuncId) : Prop := ∃ fn, P.funcs[f]? = some fn ∧ (fn.name == "runtime.NumGoroutine") = false ∧ fn.body.isNone = false
/-- A call that returns. -/
def Cal (P : Program) (f : FuncId) (args : Array Value) (w : World) (R : Value → World → Prop) : Prop :=
  HasB P f ∧ Calls P f args w fun e w' => ∃ v, e = .returned v ∧ R v w'
def callV (P : Program) (fv : Value) (args : List Value) (w : World) (R : Value → World → Prop) : Prop :=
  ∃ f first cap, fv = .func (.func f) first cap ∧ Cal P f (first ++ args.toArray ++ cap) w R
def callQ (P : Program) (fv : Value) (args : List Value) (w : World) (K : Value → Prop) : Prop :=
  ∃ v, (∀ w', Ext w w' → callV P fv args w' fun v' w'' => v' = v ∧ Ext w' w'') ∧ K v
theorem Cal.mono {P : Program} {f : FuncId} {args : Array Value} {w : World} {R R' : Value → World → Prop} (h : Cal P f args w R) (hr : ∀ v w', R v w' → R' v w') : Cal P f args w R' :=
  ⟨h.1, h.2.mono fun _ _ ⟨v, he, hR⟩ => ⟨v, he, hr _ _ hR⟩⟩
theorem callV.mono {P : Program} {fv : Value} {args : List Value} {w : World} {R R' : Value → World → Prop} (h : callV P fv args w R) (hr : ∀ v w', R v w' → R' v w') : callV P fv args w R' :=
  let ⟨f, first, cap, e, hc⟩ := h; ⟨f, first, cap, e, hc.mono hr⟩

/-! ### Control -/
def cnd (v : Value) (A B : Prop) : Prop := ∃ b, v = .bool b ∧ (b = true → A) ∧ (b = false → B)
def gx : List Value → Nat → Value
  | [], _ => undef
  | x :: _, 0 => x
  | _ :: r, i + 1 => gx r i
theorem gx_eq : ∀ (xs : List Value) (i : Nat), gx xs i = xs.getD i undef
  | [], _ => rfl
  | _ :: _, 0 => rfl
  | _ :: r, i + 1 => by simpa [gx] using gx_eq r i
def jn (F : (List Value → World → Prop) → Prop) (K : List Value → World → Prop) : Prop := F K
def lp (body : (List Value → World → Prop) → List Value → World → Prop) (xs0 : List Value) (w0 : World) : Prop :=
  ∃ I : Nat → List Value → World → Prop, (∃ m, I m xs0 w0) ∧ ∀ m xs w, I m xs w → body (fun xs' w' => ∃ m', m' < m ∧ I m' xs' w') xs w

/-! ### One operation -/
def isAgg? (P : Program) (t : TypeId) : Option Bool :=
  match P.underlying t with
  | some (.struct _) => some true
  | some (.array _ _) => some true
  | some _ => some false
  | none => none
def intD (op : BinOp) (k : IntKind) (x y : Value) (K : Value → Prop) : Prop :=
  match op with
  | .add => xAdd k x y K
  | .sub => xSub k x y K
  | .mul => xMul k x y K
  | .quo => xQuo k x y K
  | .rem => xRem k x y K
  | .and => xBits iAnd k x y K
  | .or => xBits iOr k x y K
  | .xor => xBits iXor k x y K
  | .andNot => xBits iAndNot k x y K
  | .shl => xSh iShl k x y K
  | .shr => xSh iShr k x y K
  | .eql => xEq k x y K
  | .neq => xNe k x y K
  | .lss => xLt k x y K
  | .leq => xLe k x y K
  | .gtr => xLt k y x K
  | .geq => xLe k y x K
def binD (P : Program) (w : World) (op : BinOp) (t : TypeId) (xo yo : Operand) (x y : Value) (K : Value → Prop) : Prop :=
  match P.underlying t with
  | some (.int k) => intD op k x y K
  | some .bool => (match op with | .eql => xBoolEq true x y K | .neq => xBoolEq false x y K | _ => False)
  | some .string => xStr op x y K
  | some (.slice _) => (match op with | .eql => xNilS true x y K | .neq => xNilS false x y K | _ => False)
  | some _ => xR P w (do eqGuard op t xo yo x y; binOp op t x y) K
  | none => False
def ldD (P : Program) (w : World) (t : TypeId) (x : Value) (K : Value → Prop) : Prop :=
  match isAgg? P t, P.info? t with
  | some true, some i => xLdA w i.size x K
  | some false, _ => xLd w x K
  | _, _ => False
def fldD (P : Program) (s : TypeId) (f : Nat) (K : Nat → Nat → Bool → Prop) : Prop :=
  match P.underlying s with
  | some (.struct fs) => (match fs[f]? with
    | some fl => (match P.info? fl.type, isAgg? P fl.type with
      | some i, some g => if Nat.beq i.size 0 then False else K fl.offset i.size g
      | _, _ => False)
    | none => False)
  | _ => False
def elemD (P : Program) (t : TypeId) (S A : Nat → Nat → Prop) (T : Prop) : Prop :=
  match P.underlying t with
  | some (.slice e) => (match P.info? e with | some i => S i.size i.bytes | none => False)
  | some (.array len e) => (match P.info? e with | some i => A len i.size | none => False)
  | some .string => T
  | _ => False
def placesOf (P : Program) : List Field → Option (List (Nat × Nat))
  | [] => some []
  | f :: r => match P.info? f.type, placesOf P r with
    | some i, some l => some ((f.offset, i.size) :: l)
    | _, _ => none
def partsOf (env : Env) (ps : Array (Nat × Operand)) : List (Nat × Value) := ps.toList.map fun p => (p.1, ev env p.2)
def evs (env : Env) (l : Array Operand) : List Value := l.toList.map (ev env)

/-- The operations that leave memory alone. -/
def isSoft (o : Oper) : Bool :=
  match o.op with
  | .move _ | .assign _ | .pick .. | .load .. | .nilCheck _ | .binOp .. | .unOp .. | .convert .. | .makeFunc .. | .slice .. | .fieldAddr .. | .field .. | .indexAddr .. | .index .. | .extract .. | .build .. | .lookup .. => true
  | .call c => (match c.callee with | .builtin .len | .builtin .cap | .builtin .max | .builtin .min => true | _ => false)
  | _ => false
def softD (P : Program) (o : Oper) (env : Env) (w : World) (K : Value → Option (Option Bool) → Prop) : Prop :=
  match o.op with
  | .move x => K (ev env x) (evk env x)
  | .assign x => K (ev env x) (evk env x)
  | .pick c a b => (match evk env c with
    | some (some t) => K (ev env (bif t then a else b)) (evk env (bif t then a else b))
    | some none => False
    | none => xPick (ev env c) (ev env a) (ev env b) fun v => K v none)
  | .load t a => ldD P w t (ev env a) fun v => K v none
  | .nilCheck x => xNil (ev env x) fun v => K v none
  | .binOp op t x y _ => binD P w op t x y (ev env x) (ev env y) fun v => K v none
  | .unOp op _ x => (match op with
    | .not => (match evk env x with | some (some b) => K (.bool !b) (some (some !b)) | some none => False | none => xNot (ev env x) fun v => K v none)
    | .neg => xR P w (Op.unary .neg (ev env x)) fun v => K v none
    | .xor => xR P w (Op.unary .xor (ev env x)) fun v => K v none
    | .plus => False)
  | .convert s d x => (match P.underlying s, P.underlying d with
    | some (.int _), some (.int k) => xConv k (ev env x) fun v => K v none
    | _, _ => xR P w (convert s d (ev env x)) fun v => K v none)
  | .makeFunc fn first cap => K (.func fn (evs env first).toArray (evs env cap).toArray) none
  | .slice t x lo hi mx => (match mx with
    | none => elemD P t (fun sz _ => xSl sz (ev env x) (oev env lo) (oev env hi) fun v => K v none) (fun _ _ => xR P w (Instr.sliceAt t (ev env x) (oev env lo) (oev env hi) none) fun v => K v none) (xSlS (ev env x) (oev env lo) (oev env hi) fun v => K v none)
    | some _ => xR P w (Instr.sliceAt t (ev env x) (oev env lo) (oev env hi) (oev env mx)) fun v => K v none)
  | .fieldAddr s x f => fldD P s f fun off _ _ => xFa off (ev env x) fun v => K v none
  | .field s x f => fldD P s f fun off n g => bif g then xFdA off n (ev env x) fun v => K v none else xFd off (ev env x) fun v => K v none
  | .indexAddr t x i => elemD P t (fun sz _ => xIa sz (ev env x) (ev env i) fun v => K v none) (fun len sz => xIaA len sz (ev env x) (ev env i) fun v => K v none) False
  | .index t x i => elemD P t (fun _ _ => False) (fun _ _ => xR P w (Instr.index t (ev env x) (ev env i)) fun v => K v none) (xIs (ev env x) (ev env i) fun v => K v none)
  | .extract x i => xEx (ev env x) i fun v => K v none
  | .build t ps => (match P.underlying t, P.info? t with
    | some (.struct fs), some ti => (match ti.zero, placesOf P fs.toList with
      | some z, some l => xBuild z.cells l.toArray (partsOf env ps) fun v => K v none
      | _, _ => False)
    | _, _ => xR P w (Instr.build t (partsOf env ps).toArray) fun v => K v none)
  | .lookup t x i ok => xR P w (Instr.lookup t (ev env x) (ev env i) ok) fun v => K v none
  | .call c => (match c.callee with
    | .builtin .len => (match (c.argTypes[0]?), evs env c.args with
      | some t, [x] => (match P.underlying t with
        | some (.slice _) => xLenS x fun v => K v none
        | some .string => xLenT x fun v => K v none
        | _ => xR P w (Builtin.len_ c.argTypes o.type #[x]) fun v => K v none)
      | _, _ => False)
    | .builtin .cap => xR P w (Builtin.cap_ c.argTypes o.type (evs env c.args).toArray) fun v => K v none
    | .builtin .max => (match evs env c.args with
      | [x, y] => xMax x y fun v => K v none
      | _ => xR P w (Builtin.max_ c.argTypes o.type (evs env c.args).toArray) fun v => K v none)
    | .builtin .min => (match evs env c.args with
      | [x, y] => xMin x y fun v => K v none
      | _ => xR P w (Builtin.min_ c.argTypes o.type (evs env c.args).toArray) fun v => K v none)
    | _ => False)
  | _ => False

def hardD (P : Program) (o : Oper) (env : Env) (w : World) (K : Value → World → Prop) : Prop :=
  match o.op with
  | .box e x => (match P.info? e with | some _ => xNew (ev env x).cells e w K | none => False)
  | .alloc e => (match P.info? e with | some i => (match i.zero with | some z => xNew z.cells e w K | none => False) | none => False)
  | .store t a v => (match isAgg? P t, P.info? t with
    | some false, some i => if Nat.beq i.size 1 then xSt w (ev env a) (ev env v) (K undef) else False
    | some true, some i => xStA P w i.size (ev env a) (ev env v) (K undef)
    | _, _ => False)
  | .makeSlice t l c => (match P.underlying t with
    | some (.slice e) => (match P.info? e with
      | some i => (match i.zero with
        | some z => xMk e z.cells i.size i.bytes (ev env l) (ev env c) w K
        | none => False)
      | none => False)
    | _ => False)
  | .buildSlice t n ps => (match P.underlying t with
    | some (.slice e) => (match P.info? e with
      | some i => (match i.zero with
        | some z => if Nat.ble (n * i.size) 16777216 then xBs e z.cells i.size n (partsOf env ps) w K else False
        | none => False)
      | none => False)
    | _ => False)
  | .makeMap t r => xOp P (Instr.makeMap t (oev env r)) w K
  | .mapUpdate t m k v => xOpU P (Instr.mapUpdate t (ev env m) (ev env k) (ev env v)) w (K undef)
  | .insert t m k v => xOpU P (Instr.mapUpdate t (ev env m) (ev env k) (ev env v)) w (K undef)
  | .mapEntry t m k => xOp P (Instr.mapEntry t (ev env m) (ev env k)) w K
  | .entryStore t m s v => xOpU P (Instr.entryStore t (ev env m) (ev env s) (ev env v)) w (K undef)
  | .range t x => xOp P (Instr.range t (ev env x)) w K
  | .next it s => xOp P (Instr.next (ev env it) s o.type) w K
  | .entry it => xOp P (Instr.entry (ev env it)) w K
  | .convert s d x => xOp P (convert s d (ev env x)) w K
  | .call c => (match c.callee with
    | .value f => callV P (ev env f) (evs env c.args) w K
    | .builtin .append => xOp P (Builtin.append_ c.argTypes o.type (evs env c.args).toArray) w K
    | .builtin .copy => xOp P (Builtin.copy_ c.argTypes o.type (evs env c.args).toArray) w K
    | .builtin .delete => xOp P (Builtin.delete_ c.argTypes o.type (evs env c.args).toArray) w K
    | .builtin .clear => xOp P (Builtin.clear_ c.argTypes o.type (evs env c.args).toArray) w K
    | _ => False)
  | _ => False
/-- Convert to a slice makes memory: a hard operation. -/
def isSoftIn (P : Program) (o : Oper) : Bool :=
  match o.op with
  | .convert _ d _ => (match P.underlying d with | some (.slice _) => false | _ => true)
  | _ => isSoft o

end Go.Vc
