/- The compiler 'den' for a whole function body, and that it is sound. Conditions: none. -/
import Derived.Test.YtoolpnkcmlebkaaGreatVe
namespace Go.Vc

inductive Ex where
  | nrm
  | ext (id : Nat)
  | ret
/-- What the text of the proposition needs to be told: which calls are quiet, where ways meet again and which slots are read there. -/
inductive Hint where
  | leaf
  | reg (quiet : List Nat) (join : Option (List Nat))
  | node (keep : Option (List Nat)) (l r : Hint)
abbrev Cont := Env → World → Prop

def putD (n : Nat) (env : Env) (dst : Option Nat) (v : Value) (kb : Option (Option Bool)) (K : Env → Prop) : Prop :=
  match dst with
  | none => K env
  | some d => match Nat.blt d n with
    | true => K (⟨d, v, kb⟩ :: env)
    | false => False
def wantD (ops : Array Oper) (o : Oper) (env : Env) (A B : Env → Prop) : Prop :=
  match o.guard with
  | none => A env
  | some (j, want) => match (ops[j]?).bind (·.dst) with
    | none => B env
    | some s => match known env s with
      | some (some b) => (match b == want with | true => A env | false => B env)
      | some none => B env
      | none => (match want with
        | true => cnd (look env s) (A (⟨s, .bool true, some (some true)⟩ :: env)) (B (⟨s, .bool false, some (some false)⟩ :: env))
        | false => cnd (look env s) (B (⟨s, .bool true, some (some true)⟩ :: env)) (A (⟨s, .bool false, some (some false)⟩ :: env)))
def opsD (P : Program) (n : Nat) (ops : Array Oper) : List Oper → Env → World → Cont → Prop
  | [], env, w, K => K env w
  | o :: r, env, w, K => wantD ops o env
    (fun env => match isSoftIn P o with
      | true => softD P o env w fun v kb => putD n env o.dst v kb fun env' => opsD P n ops r env' w K
      | false => hardD P o env w fun v w' => putD n env o.dst v none fun env' => opsD P n ops r env' w' K)
    (fun env => putD n env o.dst undef (some none) fun env' => opsD P n ops r env' w K)
def isMove (o : Oper) : Bool :=
  match o.op with
  | .move _ | .assign _ => true
  | _ => false
def isQuiet (P : Program) (quiet : List Nat) (i : Nat) (o : Oper) : Bool := isSoftIn P o || quiet.contains i
/-- Of each operation, as bits, those that must come before it. -/
def bfStep (acc : List Nat) (o : Oper) : Nat :=
  o.after.toList.foldl (fun s e => match Region.binds .any e with | true => s ||| 2 ^ e.on ||| acc.getD e.on 0 | false => s) 0
def bf : List Oper → List Nat → List Nat
  | [], acc => acc
  | o :: r, acc => bf r (acc ++ [bfStep acc o])
/-- Must operation j leave old memory alone? -/
def needE (P : Program) (quiet : List Nat) (ops : Array Oper) (j : Nat) : Bool :=
  (List.range ops.size).any fun i => match ops[i]? with
    | some o => isQuiet P quiet i o && !isMove o && !(i == j) && !((bf ops.toList []).getD j 0).testBit i && !((bf ops.toList []).getD i 0).testBit j
    | none => false
def exq (b : Bool) (w w' : World) (A : Prop) : Prop :=
  match b with
  | true => Ext w w' ∧ A
  | false => A
def pickSoft (P : Program) (quiet : List Nat) (ops : Array Oper) (listed : Array Bool) : List Nat → Option Nat
  | [] => none
  | i :: r => match ops[i]? with
    | some o => (match isQuiet P quiet i o && Region.free .any ops listed i with
      | true => some i
      | false => pickSoft P quiet ops listed r)
    | none => pickSoft P quiet ops listed r
def allD : List Nat → (Nat → Prop) → Prop
  | [], _ => True
  | i :: r, F => match r with
    | [] => F i
    | _ :: _ => F i ∧ allD r F
def quietD (P : Program) (o : Oper) (env : Env) (w : World) (K : Value → Prop) : Prop :=
  match o.op with
  | .call c => (match c.callee with
    | .value f => callQ P (ev env f) (evs env c.args) w K
    | _ => False)
  | _ => False
def drD (P : Program) (n : Nat) (quiet : List Nat) (ops : Array Oper) : Nat → Array Bool → Env → World → Cont → Prop
  | 0, listed, env, w, K => match Region.ready .any ops listed with
    | [] => ∀ w1, Ext w w1 → K env w1
    | _ :: _ => False
  | m + 1, listed, env, w, K => match Region.ready .any ops listed with
    | [] => ∀ w1, Ext w w1 → K env w1
    | r0 :: rs => match pickSoft P quiet ops listed (r0 :: rs) with
      | some i => (match ops[i]? with
        | some o => wantD ops o env
          (fun env => match isSoftIn P o with
            | true => softD P o env w fun v kb => putD n env o.dst v kb fun env' => drD P n quiet ops m (listed.setIfInBounds i true) env' w K
            | false => quietD P o env w fun v => putD n env o.dst v none fun env' => drD P n quiet ops m (listed.setIfInBounds i true) env' w K)
          (fun env => putD n env o.dst undef (some none) fun env' => drD P n quiet ops m (listed.setIfInBounds i true) env' w K)
        | none => False)
      | none => ∀ w1, Ext w w1 → allD (r0 :: rs) fun i => match ops[i]? with
        | some o => wantD ops o env
          (fun env => hardD P o env w1 fun v w2 => exq (needE P quiet ops i) w1 w2 (putD n env o.dst v none fun env' => drD P n quiet ops m (listed.setIfInBounds i true) env' w2 K))
          (fun env => putD n env o.dst undef (some none) fun env' => drD P n quiet ops m (listed.setIfInBounds i true) env' w1 K)
        | none => False
def dsts (ops : List Oper) : List Nat := ops.filterMap (·.dst)
def wr : Code → List Nat
  | .region _ ops _ => dsts ops.toList
  | .seq a b => wr a ++ wr b
  | .cond _ a b => wr a ++ wr b
  | .block _ b => wr b
  | .loop b => wr b
  | .scope b => wr b
  | _ => []
def bindK : List Nat → Nat → List Value → Env → Env
  | [], _, _, env => env
  | s :: r, i, xs, env => ⟨s, gx xs i, none⟩ :: bindK r (i + 1) xs env
def bindY : List Nat → (Nat → Value) → Env → Env
  | [], _, env => env
  | s :: r, ys, env => ⟨s, ys s, none⟩ :: bindY r ys env
def getK (keep : List Nat) (env : Env) : List Value := keep.map (look env)
def slotsOk (n : Nat) (l : List Nat) : Bool := l.all fun s => Nat.blt s n
/-- Where ways meet again: the slots of 'keep' are handed over, the others that were written may hold anything. -/
def joinD (n : Nat) (keep W : List Nat) (env : Env) (K : Cont) (F : Cont → Prop) : Prop :=
  match slotsOk n keep && slotsOk n W with
  | true => jn (fun J => F fun env' w' => J (getK keep env') w') (fun xs w => ∀ ys : Nat → Value, K (bindK keep 0 xs (bindY W ys env)) w)
  | false => False
def regD (P : Program) (n : Nat) (ops : Array Oper) (draw : Bool) (quiet : List Nat) (env : Env) (w : World) (K : Cont) : Prop :=
  match draw with
  | false => opsD P n ops ops.toList env w K
  | true => drD P n quiet ops ops.size (Array.replicate ops.size false) env w K
def hL : Hint → Hint | .node _ l _ => l | _ => .leaf
def hR : Hint → Hint | .node _ _ r => r | _ => .leaf
def hK : Hint → Option (List Nat) | .node k _ _ => k | .reg _ k => k | _ => none
def hQ : Hint → List Nat | .reg q _ => q | _ => []
def thenD (next : Cont) (Q : Ex → Cont) : Ex → Cont
  | .nrm, env, w => next env w
  | e, env, w => Q e env w
def blockD (id : Nat) (Q : Ex → Cont) : Ex → Cont
  | .ext i, env, w => match Nat.beq i id with
    | true => Q .nrm env w
    | false => Q (.ext i) env w
  | e, env, w => Q e env w
def condD (env : Env) (c : Operand) (A B : Env → Prop) : Prop :=
  match evk env c with
  | some (some true) => A env
  | some (some false) => B env
  | some none => False
  | none => match c with
    | .tmp s => cnd (look env s) (A (⟨s, .bool true, some (some true)⟩ :: env)) (B (⟨s, .bool false, some (some false)⟩ :: env))
    | _ => cnd (ev env c) (A env) (B env)
def den (P : Program) (n : Nat) : Code → Hint → (Ex → Cont) → Env → World → Prop
  | .skip, _, Q, env, w => Q .nrm env w
  | .label _, _, Q, env, w => Q .nrm env w
  | .ret, _, Q, env, w => Q .ret env w
  | .exit id, _, Q, env, w => Q (.ext id) env w
  | .region _ ops draw, h, Q, env, w => match hK h with
    | none => regD P n ops draw (hQ h) env w (Q .nrm)
    | some keep => joinD n keep (dsts ops.toList) env (Q .nrm) fun J => regD P n ops draw (hQ h) env w J
  | .seq a b, h, Q, env, w => den P n a (hL h) (thenD (den P n b (hR h) Q) Q) env w
  | .cond c x y, h, Q, env, w => match hK h with
    | none => condD env c (fun env => den P n x (hL h) Q env w) (fun env => den P n y (hR h) Q env w)
    | some keep => joinD n keep (wr x ++ wr y) env (Q .nrm) fun J => condD env c (fun env => den P n x (hL h) (thenD J Q) env w) (fun env => den P n y (hR h) (thenD J Q) env w)
  | .block id b, h, Q, env, w => den P n b h (blockD id Q) env w
  | .scope b, h, Q, env, w => den P n b h Q env w
  | .loop b, h, Q, env, w => match slotsOk n ((hK h).getD []) && slotsOk n (wr b) with
    | true => lp (fun Kn xs w => ∀ ys : Nat → Value, den P n b (hL h) (thenD (fun env' w' => Kn (getK ((hK h).getD []) env') w') Q) (bindK ((hK h).getD []) 0 xs (bindY (wr b) ys env)) w) (getK ((hK h).getD []) env) w
    | false => False
  | _, _, _, _, _ => False
def resD (P : Program) (env : Env) (w : World) : List ResultVar → (List Value → Prop) → Prop
  | [], K => K []
  | .tmp t :: r, K => resD P env w r fun vs => K (look env t :: vs)
  | .cell a t :: r, K => ldD P w t (look env a) fun v => resD P env w r fun vs => K (v :: vs)
def retV : List Value → Value
  | [v] => v
  | vs => .tuple vs.toArray
def initEnv : Nat → List Value → Env
  | _, [] => []
  | i, v :: r => ⟨i, v, none⟩ :: initEnv (i + 1) r
/-- A whole function. -/
def denF (P : Program) (fn : Func) (c : Code) (h : Hint) (args : List Value) (w : World) (R : Value → World → Prop) : Prop :=
  den P fn.ntmps c h (fun e env w => match e with
    | .nrm => resD P env w fn.results.toList fun vs => R (retV vs) w
    | .ret => resD P env w fn.results.toList fun vs => R (retV vs) w
    | .ext _ => False) (initEnv 0 args) w

end Go.Vc
