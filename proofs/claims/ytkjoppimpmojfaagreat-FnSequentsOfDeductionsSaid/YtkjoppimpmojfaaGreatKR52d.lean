/- The proof of FnSequentsOfDeductions, part 4 of 8. Conditions: none. -/
import Derived.Test.YtkjoppimpmojfaaGreatKR52c
import Derived.Laws.StructEq
import Derived.Lib.AppendZerosOnto
import Derived.Lib.Overlaps
import Derived.Test.YtkjoppimpmojfaaGreatRows
import Derived.Shelf.Strings.Search2
import Derived.Shelf.Strconv.Itoa3
import Derived.Lib.Builder
import Derived.Lib.AppendStr
import Derived.Lib.UnsafeStr
import Derived.Lib.IndexLaws
import Derived.WalkKit
import Derived.Laws.Externs
import Derived.Laws.BytesString
import Derived.Shelf.Small.Strs
import Derived.Maps.Own
namespace Go.Vc
/-! ### Formulas by their kinds and parts -/
def Fm.kind:Fm → Nat
 | .var _=>0
 | .fls=>1
 | .and _ _=>2
 | .or _ _=>3
 | .imp _ _=>4
 | .box _=>5
 | .dia _=>6
def Fm.sym:Fm → Nat
 | .var v=>v
 | _=>0
def Fm.kids:Fm → List Fm
 | .and a b=>[a,b]
 | .or a b=>[a,b]
 | .imp a b=>[a,b]
 | .box a=>[a]
 | .dia a=>[a]
 | _=>[]
def arity (k:Nat):Nat:=if k = 2 ∨ k = 3 ∨ k = 4 then 2 else if k = 5 ∨ k = 6 then 1 else 0
def aS (fs:List Fm):List Value:=fs.flatMap Fm.cells
def sizeL (fs:List Fm):Nat:=(fs.map Fm.size).sum
theorem Fm.cells_kids (f:Fm):f.cells = nd f.kind f.sym ++ aS f.kids:=by cases f <;> simp [Fm.cells,Fm.kind,Fm.sym,Fm.kids,aS]
theorem Fm.size_kids (f:Fm):f.size = 1 + sizeL f.kids:=by cases f <;> simp [Fm.size,Fm.kids,sizeL] <;> omega
theorem Fm.arity_kids (f:Fm):arity f.kind = f.kids.length:=by cases f <;> rfl
theorem KR (fs:List Fm):(aS fs).length = sizeL fs * 2:=by
 induction fs with
 | nil=>rfl
 | cons f fs ih=>simp only [aS,List.flatMap_cons,List.length_append,sizeL,List.map_cons,List.sum_cons] at ih ⊢;rw [f.cells_len,ih];omega
theorem DN (a b:List Fm):aS (a ++ b) = aS a ++ aS b:=by simp [aS]
theorem oS (a b:List Fm):sizeL (a ++ b) = sizeL a + sizeL b:=by simp [sizeL]
theorem GZ:∀ gs:List Fm,gs.length ≤ sizeL gs
 | []=>Nat.zero_le _
 | a :: bs=>by have:=a.size_pos;have:=GZ bs;simp only [sizeL,List.map_cons,List.sum_cons,List.length_cons] at this ⊢;omega
theorem S0:∀ {fs gs:List Fm} {r r':List Value},fs.length = gs.length → aS fs ++ r = aS gs ++ r' → fs = gs ∧ r = r':=by
 suffices H:∀ (n:Nat) {fs gs:List Fm} {r r':List Value},sizeL fs ≤ n → fs.length = gs.length → aS fs ++ r = aS gs ++ r' → fs = gs ∧ r = r' from fun {fs}=>H (sizeL fs) (Nat.le_refl _)
 intro n
 induction n with
 | zero=>
  intro fs gs r r' hn hl he
  cases fs with
  | nil=>cases gs with
   | nil=>exact ⟨rfl,he⟩
   | cons _ _=>cases hl
  | cons f fs=>simp only [sizeL,List.map_cons,List.sum_cons] at hn;have:=f.size_pos;omega
 | succ n ih=>
  intro fs gs r r' hn hl he
  cases fs with
  | nil=>cases gs with
   | nil=>exact ⟨rfl,he⟩
   | cons _ _=>cases hl
  | cons f fs=>cases gs with
   | nil=>cases hl
   | cons g gs=>
    simp only [List.length_cons,Nat.add_right_cancel_iff] at hl
    have hsz:sizeL (f.kids ++ fs) ≤ n:=by
     rw [oS]
     simp only [sizeL,List.map_cons,List.sum_cons] at hn ⊢
     have:=f.size_kids
     simp only [sizeL] at this
     omega
    have he':nd f.kind f.sym ++ (aS (f.kids ++ fs) ++ r) = nd g.kind g.sym ++ (aS (g.kids ++ gs) ++ r'):=by
     have e:∀ (f:Fm) (fs:List Fm) (r:List Value),aS (f :: fs) ++ r = nd f.kind f.sym ++ (aS (f.kids ++ fs) ++ r):=fun f fs r=>by
      rw [DN]
      simp only [aS,List.flatMap_cons]
      rw [f.cells_kids]
      simp [aS]
     rw [← e,← e];exact he
    simp only [nd,List.cons_append,List.nil_append,List.cons.injEq,Value.int.injEq,true_and] at he'
    obtain ⟨hk,hs,hr⟩:=he'
    have hk:f.kind = g.kind:=by omega
    have hs:f.sym = g.sym:=by omega
    have hkl:f.kids.length = g.kids.length:=by rw [← f.arity_kids,← g.arity_kids,hk]
    obtain ⟨h1,h2⟩:=ih hsz (by rw [List.length_append,List.length_append,hkl,hl]) hr
    obtain ⟨h3,h4⟩:=List.append_inj h1 hkl
    refine ⟨?_,h2⟩
    have:f = g:=by
     cases f <;> cases g <;> simp [Fm.kind] at hk <;> simp [Fm.kids,Fm.sym] at h3 hs <;> simp_all
    rw [this,h4]
theorem SX {f g:Fm} (h:f.cells = g.cells):f = g:=by
 have:=(S0 (fs:=[f]) (gs:=[g]) (r:=[]) (r':=[]) rfl (by simpa [aS] using h)).1
 simpa using this
def Fm.isNeg:Fm → Bool
 | .imp _ b=>decide (b = .fls)
 | _=>false
theorem vZ:∀ f:Fm,f.body.length + 2 ≤ 4 * f.size:=by
 have pl:∀ (b:Bool) (s:Str),(par b s).length ≤ s.length + 2:=fun b s=>by cases b <;> simp [par]
 intro f
 induction f with
 | var v=>simp [Fm.body,Fm.size]
 | fls=>simp [Fm.body,Fm.size]
 | and a b ha hb=>
  have h1:=pl (decide (a.own < 2)) a.body
  have h2:=pl (decide (b.own < 3)) b.body
  simp only [Fm.body,Fm.size,List.length_append,List.length_cons];omega
 | or a b ha hb=>
  have h1:=pl (decide (a.own < 1)) a.body
  have h2:=pl (decide (b.own < 2)) b.body
  simp only [Fm.body,Fm.size,List.length_append,List.length_cons];omega
 | imp a b ha hb=>
  have h1:=pl (decide (a.own < 1)) a.body
  have h2:=pl (decide (a.own < 3)) a.body
  simp only [Fm.body,Fm.size]
  split
  ·split
   ·simp;have:=a.size_pos;have:=b.size_pos;omega
   ·simp only [List.length_cons];omega
  ·simp only [List.length_append,List.length_cons];omega
 | box a ha=>
  have h2:=pl (decide (a.own < 3)) a.body
  simp only [Fm.body,Fm.size,List.length_cons];omega
 | dia a ha=>
  have h2:=pl (decide (a.own < 3)) a.body
  simp only [Fm.body,Fm.size,List.length_cons];omega
theorem dD (lv:Nat) (f:Fm):(f.txt lv).length ≤ 4 * f.size:=by
 have:=vZ f
 unfold Fm.txt par
 split
 ·simp;omega
 ·omega
/-! ### Steps -/
section
variable {P:Program} {w:World}
theorem iSlK {k:Nat} {v:Value} {n i j:Nat} {xs:List Value} {ki kj:IntKind} {K:Value → Prop} (hs:SlK k w v n xs) (hi:i ≤ j) (hj:j ≤ n) (h:∀ r,SlK k w r (j - i) ((xs.drop (i * k)).take ((j - i) * k)) → K r):xSl k v (some (.int ki (i:Int))) (some (.int kj (j:Int))) K:=by
 obtain ⟨h0,a,c,rfl,h2,h3,h4⟩:=hs
 have hik:i * k ≤ j * k:=Nat.mul_le_mul_right _ hi
 have hjk:j * k ≤ n * k:=Nat.mul_le_mul_right _ hj
 refine ⟨_,_,_,i,j,rfl,⟨kj,rfl⟩,⟨ki,rfl⟩,hi,by omega,h _ ⟨?_,_,_,rfl,by omega,by omega,?_⟩⟩
 ·rw [List.length_take,List.length_drop,Nat.sub_mul];omega
 ·rcases h4 with rfl | ⟨b,o,rfl,hc⟩
  ·exact .inl (by omega)
  ·by_cases hz:j - i = 0
   ·exact .inl hz
   ·refine .inr ⟨b,o + i * k,by rw [if_neg (by omega),Option.map_some,dB],fun m hm=>?_⟩
    rw [Nat.sub_mul] at hm ⊢
    rw [Nat.add_assoc,hc _ (by omega),List.getElem?_take,if_pos hm,List.getElem?_drop]
theorem rJ {k:Nat} {v:Value} {n i:Nat} {xs:List Value} {ki:IntKind} {K:Value → Prop} (hs:SlK k w v n xs) (hi:i ≤ n) (h:∀ r,SlK k w r (n - i) (xs.drop (i * k)) → K r):xSl k v (some (.int ki (i:Int))) none K:=by
 obtain ⟨h0,a,c,rfl,h2,h3,h4⟩:=hs
 have hik:i * k ≤ n * k:=Nat.mul_le_mul_right _ hi
 refine ⟨_,_,_,i,n,rfl,rfl,⟨ki,rfl⟩,hi,by omega,h _ ⟨?_,_,_,rfl,by omega,by omega,?_⟩⟩
 ·rw [List.length_drop,Nat.sub_mul];omega
 ·rcases h4 with rfl | ⟨b,o,rfl,hc⟩
  ·exact .inl (by omega)
  ·by_cases hz:n - i = 0
   ·exact .inl hz
   ·refine .inr ⟨b,o + i * k,by rw [if_neg (by omega),Option.map_some,dB],fun m hm=>?_⟩
    rw [Nat.sub_mul] at hm
    rw [Nat.add_assoc,hc _ (by omega),List.getElem?_drop]
theorem WI {k:Nat} {t e:TypeId} {z:Option Value} {bytes:Nat} {v:Value} {n i j:Nat} {xs:List Value} {ki kj km:IntKind} {K:Value → Prop} (ht:P.underlying t = some (.slice e)) (hi0:(P.info? e).map (fun i=>(i.zero,i.size,i.bytes)) = some (z,k,bytes))
  (hs:SlK k w v n xs) (hi:i ≤ j) (hj:j ≤ n) (h:∀ r,SlK k w r (j - i) ((xs.drop (i * k)).take ((j - i) * k)) → K r):xR P w (Instr.sliceAt t v (some (.int ki (i:Int))) (some (.int kj (j:Int))) (some (.int km (j:Int)))) K:=by
 obtain ⟨ti,hti,h3⟩:=Option.map_eq_some_iff.1 hi0
 simp only [Prod.mk.injEq] at h3
 obtain ⟨-,hsz,-⟩:=h3
 obtain ⟨h0,a,c,rfl,h2,h3,h4⟩:=hs
 have hik:i * k ≤ j * k:=Nat.mul_le_mul_right _ hi
 have hjk:j * k ≤ n * k:=Nat.mul_le_mul_right _ hj
 refine ⟨.slice (if j = i then a else a.map (·.add (i * k))) (j - i) (j - i),fun w' _=>?_,h _ ⟨?_,_,_,rfl,Nat.le_refl _,by omega,?_⟩⟩
 ·have hb:(Instr.sliceBounds true n c (some (.int ki (i:Int))) (some (.int kj (j:Int))) (some (.int km (j:Int)))).run P w' = .ok (i,j,j) w':=by
   have hjc:j ≤ c:=by omega
   unfold Instr.sliceBounds
   simp [Instr.sliceBound,asIntOf,hi,hjc]
  simp [Instr.sliceAt,Instr.slice,cJ ht,hb,eC hti,hsz]
 ·rw [List.length_take,List.length_drop,Nat.sub_mul];omega
 ·rcases h4 with rfl | ⟨b,o,rfl,hc⟩
  ·exact .inl (by omega)
  ·by_cases hz:j - i = 0
   ·exact .inl hz
   ·refine .inr ⟨b,o + i * k,by rw [if_neg (by omega),Option.map_some,dB],fun m hm=>?_⟩
    rw [Nat.sub_mul] at hm ⊢
    rw [Nat.add_assoc,hc _ (by omega),List.getElem?_take,if_pos hm,List.getElem?_drop]
theorem iFld {sz f:Nat} {v x:Value} {n:Nat} {xs:List Value} {z:Int} {j:Nat} {k:IntKind} {K:Value → Prop} (hs:SlK sz w v n xs) (hz:z = (j:Int)) (h1:j < n) (hf:f < sz) (hx:xs[j * sz + f]? = some x) (h:K x):xIa sz v (.int k z) fun p=>xFa f p fun q=>xLd w q K:=by
 subst hz
 refine iIaK hs h1 fun b o hc=>?_
 refine ⟨_,rfl,?_⟩
 rw [dB]
 exact iLd ((hc f hf).trans hx) h
theorem VD {t t0 t1:TypeId} {a b c d:Int} {xo yo:Operand} {K:Value → Prop} (hu:P.underlying t = some (.struct (P.fieldsOf t))) (hp:P.stoodInHeld t = false) (hg:P.eqGuardType P.depth t = false)
  (hf : (P.fieldsOf t).toList.map (fun f => (f.name == "_", f.offset, f.type)) = [(false, 0, t0), (false, 1, t1)]) (h0 : P.underlying t0 = some (.int .i64)) (h1 : P.underlying t1 = some (.int .i64))
  (h:K (.bool (decide (¬ (a = c ∧ b = d))))):xR P w (do eqGuard .neq t xo yo (.agg #[.int .i64 a,.int .i64 b]) (.agg #[.int .i64 c,.int .i64 d]);binOp .neq t (.agg #[.int .i64 a,.int .i64 b]) (.agg #[.int .i64 c,.int .i64 d])) K:=by
 refine ⟨_,fun w' _=>?_,h⟩
 obtain ⟨f0, f1, hl, n0, n1, o0, o1, rfl, rfl⟩ : ∃ f0 f1, (P.fieldsOf t).toList = [f0, f1] ∧ ¬ f0.name = "_" ∧ ¬ f1.name = "_" ∧ f0.offset = 0 ∧ f1.offset = 1 ∧ f0.type = t0 ∧ f1.type = t1 := by
  generalize (P.fieldsOf t).toList = l at hf
  rcases l with _ | ⟨f0,_ | ⟨f1,_ | ⟨f2,l⟩⟩⟩ <;> simp at hf
  exact ⟨f0,f1,rfl,hf.1.1,hf.2.1,hf.1.2.1,hf.2.2.1,hf.1.2.2,hf.2.2.2⟩
 have pt:∀ (t:TypeId) (cs:Array Value) (o:Nat) (x:Value),P.underlying t = some (.int .i64) → cs[o]? = some x → (part t cs o).run P w' = .ok x w':=fun t cs o x ht hx=>by
  have hg:isAgg? P t = some false:=by simp [isAgg?,ht]
  simp [part,sM hg,hx]
 have eqn:∀ (d:Nat) (t:TypeId) (a b:Int),P.underlying t = some (.int .i64) → (Op.equalIn (d + 1) t (.int .i64 a) (.int .i64 b)).run P w' = .ok (a == b) w':=fun d t a b ht=>run_equalIn_int w' d t .i64 .i64 a b ht
 rw [Sem.run_bind,run_eqGuard_agg w' .neq t xo yo _ _ hg,Result.andThen_ok,run_neq_struct,run_equalIn_struct w' 9999 t _ _ hu hp,hl]
 simp only [Op.eqFields,ne_eq,n0,n1,not_false_eq_true,if_true,o0,o1,Sem.run_bind]
 rw [pt _ _ 0 (.int .i64 a) h0 rfl,Result.andThen_ok,pt _ _ 0 (.int .i64 c) h0 rfl,Result.andThen_ok,eqn 9998 _ a c h0,Result.andThen_ok]
 by_cases e1:a = c
 ·subst e1
  simp only [beq_self_eq_true,Bool.not_true,Bool.false_eq_true,if_false,Sem.run_bind]
  rw [pt _ _ 1 (.int .i64 b) h1 rfl,Result.andThen_ok,pt _ _ 1 (.int .i64 d) h1 rfl,Result.andThen_ok,eqn 9998 _ b d h1,Result.andThen_ok]
  by_cases e2:b = d <;> simp [e2]
 ·simp [e1]
end
end Go.Vc
namespace Go.Proofs.YtkjoppimpmojfaaGreat
open Go.Vc
theorem zW (k:Nat) (w:World):Ret Tryz.prog AR #[.int .i64 (k:Int)] w (.int .i64 (arity k:Int)):=by
 apply MY;unfold A0
 refine iEq ?_
 refine iJnB (decide (k = 2 ∨ k = 3 ∨ k = 4)) w (fun J hJ=>?_) (fun w2 h2=>?_)
 ·refine iCndP (fun h=>?_) (fun h=>?_)
  ·rw [decide_eq_true (.inl (by omega))] at hJ
   exact hJ _ (Ext.refl _)
  ·refine iEq ?_
   refine iJnB (decide (k = 2 ∨ k = 3 ∨ k = 4)) w (fun J' hJ'=>?_) (fun w4 h4=>?_)
   ·refine iCndP (fun h'=>?_) (fun h'=>?_)
    ·rw [decide_eq_true (.inr (.inl (by omega)))] at hJ'
     exact hJ' _ (Ext.refl _)
    ·refine iEq ?_
     rw [show decide (k = 2 ∨ k = 3 ∨ k = 4) = decide ((k:Int) = 4) from decide_eq_decide.2 (by omega)] at hJ'
     exact hJ' _ (Ext.refl _)
   ·intro _
    exact hJ _ h4
 ·intro _
  simp only [gx]
  refine iCndP (fun h=>?_) (fun h=>?_)
  ·rw [show (arity k:Int) = 2 by unfold arity;rw [if_pos h];rfl]
   exact ⟨by first | trivial | rfl,h2⟩
  ·refine iEq ?_
   refine iJnB (decide (k = 5 ∨ k = 6)) w2 (fun J hJ=>?_) (fun w6 h6=>?_)
   ·refine iCndP (fun h'=>?_) (fun h'=>?_)
    ·rw [decide_eq_true (.inl (by omega))] at hJ
     exact hJ _ (Ext.refl _)
    ·refine iEq ?_
     rw [show decide (k = 5 ∨ k = 6) = decide ((k:Int) = 6) from decide_eq_decide.2 (by omega)] at hJ
     exact hJ _ (Ext.refl _)
   ·intro _
    simp only [gx]
    refine iCndP (fun h'=>?_) (fun h'=>?_)
    ·rw [show (arity k:Int) = 1 by unfold arity;rw [if_neg h,if_pos h'];rfl]
     exact ⟨by first | trivial | rfl,h2.trans h6⟩
    ·rw [show (arity k:Int) = 0 by unfold arity;rw [if_neg h,if_neg h'];rfl]
     exact ⟨by first | trivial | rfl,h2.trans h6⟩
theorem IP (k:Nat) (w:World):Ret Tryz.prog yT #[.int .i64 (k:Int)] w (.int .i64 (arity k:Int)):=by
 apply KT;unfold xZ
 refine iEq ?_
 refine iJnB (decide (k = 2 ∨ k = 3 ∨ k = 4)) w (fun J hJ=>?_) (fun w2 h2=>?_)
 ·refine iCndP (fun h=>?_) (fun h=>?_)
  ·rw [decide_eq_true (.inl (by omega))] at hJ
   exact hJ _ (Ext.refl _)
  ·refine iEq ?_
   refine iJnB (decide (k = 2 ∨ k = 3 ∨ k = 4)) w (fun J' hJ'=>?_) (fun w4 h4=>?_)
   ·refine iCndP (fun h'=>?_) (fun h'=>?_)
    ·rw [decide_eq_true (.inr (.inl (by omega)))] at hJ'
     exact hJ' _ (Ext.refl _)
    ·refine iEq ?_
     rw [show decide (k = 2 ∨ k = 3 ∨ k = 4) = decide ((k:Int) = 4) from decide_eq_decide.2 (by omega)] at hJ'
     exact hJ' _ (Ext.refl _)
   ·intro _
    exact hJ _ h4
 ·intro _
  simp only [gx]
  refine iCndP (fun h=>?_) (fun h=>?_)
  ·rw [show (arity k:Int) = 2 by unfold arity;rw [if_pos h];rfl]
   exact ⟨by first | trivial | rfl,h2⟩
  ·refine iEq ?_
   refine iJnB (decide (k = 5 ∨ k = 6)) w2 (fun J hJ=>?_) (fun w6 h6=>?_)
   ·refine iCndP (fun h'=>?_) (fun h'=>?_)
    ·rw [decide_eq_true (.inl (by omega))] at hJ
     exact hJ _ (Ext.refl _)
    ·refine iEq ?_
     rw [show decide (k = 5 ∨ k = 6) = decide ((k:Int) = 6) from decide_eq_decide.2 (by omega)] at hJ
     exact hJ _ (Ext.refl _)
   ·intro _
    simp only [gx]
    refine iCndP (fun h'=>?_) (fun h'=>?_)
    ·rw [show (arity k:Int) = 1 by unfold arity;rw [if_neg h,if_pos h'];rfl]
     exact ⟨by first | trivial | rfl,h2.trans h6⟩
    ·rw [show (arity k:Int) = 0 by unfold arity;rw [if_neg h,if_neg h'];rfl]
     exact ⟨by first | trivial | rfl,h2.trans h6⟩
theorem RN {fs:List Fm} {f:Fm} {r xs:List Value} {i:Nat} (h:xs.drop (i * 2) = aS (f :: fs) ++ r):xs[i * 2 + 0]? = some (.int .i64 (f.kind:Int)) ∧ xs[i * 2 + 1]? = some (.int .i64 (f.sym:Int)) ∧ xs.drop ((i + 1) * 2) = aS (f.kids ++ fs) ++ r:=by
 have e:aS (f :: fs) ++ r = nd f.kind f.sym ++ (aS (f.kids ++ fs) ++ r):=by
  rw [DN]
  simp only [aS,List.flatMap_cons]
  rw [f.cells_kids]
  simp [aS]
 rw [e] at h
 refine ⟨?_,?_,?_⟩
 ·have:=congrArg (fun l=>l[0]?) h
  simpa [List.getElem?_drop] using this
 ·have:=congrArg (fun l=>l[1]?) h
  simpa [List.getElem?_drop] using this
 ·have:=congrArg (List.drop 2) h
  rw [List.drop_drop] at this
  rw [show (i + 1) * 2 = i * 2 + 2 by omega,this]
  rfl
theorem pJ {v:Value} {n i:Nat} {xs:List Value} {f:Fm} {r:List Value} {w:World} (hs:SlK 2 w v n xs) (hx:xs.drop (i * 2) = f.cells ++ r) (hn:n ≤ 1099511627776):Ret Tryz.prog CE #[v,.int .i64 (i:Int)] w (.int .i64 ((i + f.size:Nat):Int)):=by
 apply MQ;unfold AN
 have hlen:xs.length = n * 2:=hs.1
 refine iLp (fun s:Nat × List Fm=>[.int .i64 (s.1:Int),.int .i64 (s.2.length:Int)]) (fun s w'=>Ext w w' ∧ xs.drop (s.1 * 2) = aS s.2 ++ r ∧ s.1 + sizeL s.2 = i + f.size) (fun s=>sizeL s.2) (i,[f]) rfl ⟨Ext.refl _,by simpa [aS] using hx,by simp [sizeL]⟩ ?_
 rintro ⟨j,fs⟩ w2 Kn ⟨h2,hd,hsum⟩ hKn
 have hd:xs.drop (j * 2) = aS fs ++ r:=hd
 have hsum:j + sizeL fs = i + f.size:=hsum
 intro _
 simp only [gx]
 refine iLt ?_
 cases fs with
 | nil=>
  refine iCndF (by simp) ?_
  have:j = i + f.size:=by simpa [sizeL] using hsum
  exact ⟨by rw [this],h2⟩
 | cons g gs=>
  refine iCndT (by simp) ?_
  have hpos:1 ≤ sizeL (g :: gs):=by simp only [sizeL,List.map_cons,List.sum_cons];have:=g.size_pos;omega
  have hl:=congrArg List.length hd
  rw [List.length_drop,List.length_append,KR] at hl
  have hjn:j < n:=by omega
  refine iLenK (hs.ext h2) ?_
  refine iLe ?_
  refine iCndP (fun h=>by omega) (fun _=>?_)
  obtain ⟨hk,-,hd'⟩:=RN hd
  refine iFld (hs.ext h2) rfl hjn (by decide) hk ?_
  refine iRet (zW g.kind w2) fun w3 h23=>?_
  have har:=g.arity_kids
  have hk2:g.kids.length ≤ 2:=by cases g <;> simp [Fm.kids]
  have hgl:=GZ gs
  have hsg:sizeL (g :: gs) = g.size + sizeL gs:=by simp [sizeL]
  refine iSub (by omega) ?_
  refine iAdd (by rw [List.length_cons];omega) ?_
  refine iAdd (by omega) ?_
  rw [show ((g :: gs).length:Int) + ((arity g.kind:Int) - 1) = ((g.kids ++ gs).length:Int) by rw [har,List.length_append,List.length_cons];omega]
  have hgk:=g.size_kids
  exact hKn (j + 1,g.kids ++ gs) _ ⟨h2.trans h23,hd',by show j + 1 + sizeL (g.kids ++ gs) = _;rw [oS];omega⟩ (by show sizeL (g.kids ++ gs) < sizeL (g :: gs);rw [oS];omega)
theorem zF {v:Value} {n i:Nat} {xs:List Value} {f:Fm} {r:List Value} {w:World} (hs:SlK 2 w v n xs) (hx:xs.drop (i * 2) = f.cells ++ r) (hn:n ≤ 1099511627776):Ret Tryz.prog CP #[v,.int .i64 (i:Int)] w (.int .i64 ((i + f.size:Nat):Int)):=by
 apply N3;unfold BA
 have hlen:xs.length = n * 2:=hs.1
 refine iLp (fun s:Nat × List Fm=>[.int .i64 (s.1:Int),.int .i64 (s.2.length:Int)]) (fun s w'=>Ext w w' ∧ xs.drop (s.1 * 2) = aS s.2 ++ r ∧ s.1 + sizeL s.2 = i + f.size) (fun s=>sizeL s.2) (i,[f]) rfl ⟨Ext.refl _,by simpa [aS] using hx,by simp [sizeL]⟩ ?_
 rintro ⟨j,fs⟩ w2 Kn ⟨h2,hd,hsum⟩ hKn
 have hd:xs.drop (j * 2) = aS fs ++ r:=hd
 have hsum:j + sizeL fs = i + f.size:=hsum
 intro _
 simp only [gx]
 refine iLt ?_
 cases fs with
 | nil=>
  refine iCndF (by simp) ?_
  have:j = i + f.size:=by simpa [sizeL] using hsum
  exact ⟨by rw [this],h2⟩
 | cons g gs=>
  refine iCndT (by simp) ?_
  have hpos:1 ≤ sizeL (g :: gs):=by simp only [sizeL,List.map_cons,List.sum_cons];have:=g.size_pos;omega
  have hl:=congrArg List.length hd
  rw [List.length_drop,List.length_append,KR] at hl
  have hjn:j < n:=by omega
  refine iLenK (hs.ext h2) ?_
  refine iLe ?_
  refine iCndP (fun h=>by omega) (fun _=>?_)
  obtain ⟨hk,-,hd'⟩:=RN hd
  have har:=g.arity_kids
  have hk2:g.kids.length ≤ 2:=by cases g <;> simp [Fm.kids]
  have hgl:=GZ gs
  have hsg:sizeL (g :: gs) = g.size + sizeL gs:=by simp [sizeL]
  refine iSub (by rw [List.length_cons];omega) ?_
  refine iFld (hs.ext h2) rfl hjn (by decide) hk ?_
  refine iRet (IP g.kind w2) fun w3 h23=>?_
  refine iAdd (by rw [List.length_cons];omega) ?_
  refine iAdd (by omega) ?_
  rw [show ((g :: gs).length:Int) - 1 + (arity g.kind:Int) = ((g.kids ++ gs).length:Int) by rw [har,List.length_append,List.length_cons];omega]
  have hgk:=g.size_kids
  exact hKn (j + 1,g.kids ++ gs) _ ⟨h2.trans h23,hd',by show j + 1 + sizeL (g.kids ++ gs) = _;rw [oS];omega⟩ (by show sizeL (g.kids ++ gs) < sizeL (g :: gs);rw [oS];omega)
theorem rG {f g:Fm} {gs:List Fm} (hk:f.kids = g :: gs):f.cells.drop (1 * 2) = g.cells ++ aS gs:=by
 rw [f.cells_kids,hk];simp [aS]
theorem QB {f g h:Fm} (hk:f.kids = [g,h]):f.cells.drop ((1 + g.size) * 2) = h.cells ++ [] ∧ f.size = 1 + g.size + h.size:=by
 refine ⟨?_,by have:=f.size_kids;rw [hk] at this;simp [sizeL] at this;omega⟩
 rw [f.cells_kids,hk,show (1 + g.size) * 2 = 2 + g.cells.length by rw [g.cells_len];omega,← List.drop_drop]
 simp [aS]
theorem FY {v:Value} {n i:Nat} {xs:List Value} {f:Fm} {r:List Value} {w:World} (hs:SlK 2 w v n xs) (hx:xs.drop (i * 2) = f.cells ++ r) (hin:i + f.size ≤ n) (hn:n ≤ 1099511627776):Cal Tryz.prog IF #[v,.int .i64 (i:Int)] w fun u w'=>Ext w w' ∧ FmS w' u f:=by
 apply Q3;unfold H3
 refine iRet (pJ hs hx hn) fun w1 h1=>?_
 refine iRet (pJ (hs.ext h1) hx hn) fun w2 h2=>?_
 refine WI mC mE ((hs.ext h1).ext h2) (by omega) hin fun u hu=>⟨h1.trans h2,?_⟩
 rw [hx,Nat.add_sub_cancel_left,← f.cells_len,List.take_left] at hu
 exact hu
theorem dP {v:Value} {f g:Fm} {gs:List Fm} {w:World} (hs:FmS w v f) (hk:f.kids = g :: gs) (hn:f.size ≤ 1099511627776):Cal Tryz.prog GN #[v] w fun u w'=>Ext w w' ∧ FmS w' u g:=by
 apply P0;unfold GA
 have hsz:=f.size_kids
 rw [hk] at hsz
 simp only [sizeL,List.map_cons,List.sum_cons] at hsz
 refine iCall ((FY (i:=1) hs (rG hk) (by omega) hn).mono ?_)
 rintro u w1 ⟨h1,hu⟩
 exact ⟨h1,hu⟩
theorem kF {v:Value} {f g h:Fm} {w:World} (hs:FmS w v f) (hk:f.kids = [g,h]) (hn:f.size ≤ 1099511627776):Cal Tryz.prog FA #[v] w fun u w'=>Ext w w' ∧ FmS w' u h:=by
 apply O9;unfold E2
 obtain ⟨hd,hsz⟩:=QB hk
 refine iRet (pJ (i:=1) hs (rG hk) hn) fun w1 h1=>?_
 refine iCall ((FY (i:=1 + g.size) (hs.ext h1) hd (by omega) hn).mono ?_)
 rintro u w2 ⟨h2,hu⟩
 exact ⟨h1.trans h2,hu⟩
theorem fZ {w:World} {v:Value} {f:Fm} (hs:FmS w v f):f.cells[0 * 2 + 0]? = some (.int .i64 (f.kind:Int)) ∧ f.cells[0 * 2 + 1]? = some (.int .i64 (f.sym:Int)):=by
 have _:=hs
 rw [f.cells_kids]
 simp [nd]
end Go.Proofs.YtkjoppimpmojfaaGreat



namespace Go.Vc
/-! ### Parts of slices of elements of two cells -/
/-! ### Rows of a count and a slice -/
end Go.Vc

namespace Go.Vc
theorem OwK.ne_src {k lo n:Nat} {e e':TypeId} {w0 w:World} {vc v:Value} {b:Nat} {xs:List Value} (h:OwK k lo e' w v n xs) (hS:Vc.Src e w0 vc b w) (hne:e' ≠ e):v.ownBlock ≠ some b:=by
 intro hc
 obtain ⟨cur,h1⟩:=h.ty hc
 obtain ⟨_,_,_,_,h3,_⟩:=hS
 unfold Blk at h3
 rw [h1] at h3
 injection h3 with h3
 injection h3 with _ he _
 exact hne he
theorem OwK.src {k lo n:Nat} {e e':TypeId} {w0 w w':World} {vc v:Value} {b:Nat} {xs:List Value} (h:OwK k lo e' w v n xs) (hS:Vc.Src e w0 vc b w) (hne:e' ≠ e) (hch:Ch (fun c=>c = b) w w'):OwK k lo e' w' v n xs:=
 h.ch hch fun c hc hb=>h.ne_src hS hne (by rw [hc,hb])
def preF (y:Nat) (a:Fm):Fm:=if y = 0 then .box a else .dia a
theorem SB {y:Nat} (hy:y < 2) (a:Fm):(preF y a).cells = nd (5 + y) 0 ++ a.cells:=by
 have:y = 0 ∨ y = 1:=by omega
 rcases this with rfl | rfl <;> rfl
theorem GY (y:Nat) (a:Fm):(preF y a).size = 1 + a.size:=by unfold preF;split <;> rfl
theorem TD (y:Nat) {a:Fm} (h:a.good):(preF y a).good:=by unfold preF;split <;> exact h
def binF (z:Nat) (a b:Fm):Fm:=if z = 0 then .and a b else if z = 1 then .or a b else .imp a b
theorem R9 {z:Nat} (hz:z < 3) (a b:Fm):(binF z a b).cells = nd (2 + z) 0 ++ a.cells ++ b.cells:=by
 have:z = 0 ∨ z = 1 ∨ z = 2:=by omega
 rcases this with rfl | rfl | rfl <;> rfl
theorem GM (z:Nat) (a b:Fm):(binF z a b).size = 1 + a.size + b.size:=by unfold binF;split;rfl;split <;> rfl
theorem SW (z:Nat) {a b:Fm} (h:a.good) (k:b.good):(binF z a b).good:=by unfold binF;split;exact ⟨h,k⟩;split <;> exact ⟨h,k⟩
end Go.Vc
namespace Go.Proofs.YtkjoppimpmojfaaGreat
open Go.Vc
theorem pD {e:TypeId} (hneN:aW ≠ e) {w0:World} {vc:Value} {bs:List Nat} (hc:SlB w0 vc bs) {b k:Nat} (hk:1 ≤ k ∧ k ≤ 6) (m:Bool):∀ (n:Nat) {w:World},Vc.Src e w0 vc b w → 1 ≤ n → n ≤ 1000 →
  Drw Tryz.prog AM #[.pointer (some ⟨b,0,none⟩),.int .i64 (n:Int),.int .i64 (k:Int),.bool m] e w0 vc b w fun r w'=>∃ f:Fm,f.good ∧ f.size ≤ n ∧ FmW w.heap.size w' r f:=by
 intro n
 induction n using Nat.strongRecOn with
 | _ n ih=>
 intro w hS hn1 hn2
 apply NK;unfold BP
 refine iJnX (fun xs w'=>(∃ t,xs = [.bool t] ∧ (t = false → 3 ≤ n)) ∧ Vc.Src e w0 vc b w' ∧ Ch (fun c=>c = b) w w') (fun J hJ=>?_) ?_
 ·refine iLe (iCndP (fun h=>?_) (fun h=>?_))
  ·exact hJ _ _ ⟨⟨true,rfl,fun h=>by cases h⟩,hS,(Ext.refl w).ch⟩
  ·refine iCall ((aG hc hS 9).mono ?_)
   rintro _ w3 ⟨⟨x,rfl,_,_⟩,hS3,hch3⟩
   refine iEq ?_
   exact hJ _ _ ⟨⟨_,rfl,fun _=>by omega⟩,hS3,hch3⟩
 rintro _ w2 ⟨⟨t,rfl,ht⟩,hS2,hC2⟩
 intro _
 cases t with
 | true=>
  refine iCndT rfl ?_
  refine iCall ((aG hc hS2 8).mono ?_)
  rintro _ w4 ⟨⟨x,rfl,_,_⟩,hS4,hch4⟩
  have hC4:=aE hC2 hch4
  refine iEq (iCndP (fun _=>?_) (fun _=>?_))
  ·refine iCall ((gS w4).mono ?_)
   rintro u w5 ⟨x5,h5⟩
   exact ⟨⟨.fls,trivial,hn1,OwK.mono h5 hC4.size⟩,hS4.later x5,aL hC4 x5⟩
  ·refine iCall ((aG hc hS4 k).mono ?_)
   rintro _ w6 ⟨⟨y,rfl,hy,_⟩,hS6,hch6⟩
   have hy:=hy (by omega)
   refine iCall ((q8 y w6).mono ?_)
   rintro u w7 ⟨x7,h7⟩
   have hC6:=aE hC4 hch6
   exact ⟨⟨.var y,show y < 6 by omega,hn1,OwK.mono h7 hC6.size⟩,hS6.later x7,aL hC6 x7⟩
 | false=>
  refine iCndF rfl ?_
  have h3:=ht rfl
  refine iJnX (fun xs w'=>(∃ t,xs = [.bool t]) ∧ Vc.Src e w0 vc b w' ∧ Ch (fun c=>c = b) w w') (fun J hJ=>?_) ?_
  ·cases m with
   | true=>
    refine iCndT rfl ?_
    refine iCall ((aG hc hS2 3).mono ?_)
    rintro _ w10 ⟨⟨x,rfl,_,_⟩,hS10,hch10⟩
    refine iEq ?_
    exact hJ _ _ ⟨⟨_,rfl⟩,hS10,aE hC2 hch10⟩
   | false=>exact iCndF rfl (hJ _ _ ⟨⟨_,rfl⟩,hS2,hC2⟩)
  rintro _ w9 ⟨⟨t,rfl⟩,hS9,hC9⟩
  intro _
  cases t with
  | true=>
   refine iCndT rfl ?_
   refine iCall ((aG hc hS9 2).mono ?_)
   rintro _ w11 ⟨⟨y,rfl,hy,_⟩,hS11,hch11⟩
   have hy:=hy (by omega)
   have hC11:=aE hC9 hch11
   refine iAdd (by omega) (iSub (by omega) ?_)
   rw [show (5:Int) + (y:Int) = ((5 + y:Nat):Int) by omega,show (n:Int) - 1 = ((n - 1:Nat):Int) by omega]
   refine iCall ((ih (n - 1) (by omega) hS11 (by omega) (by omega)).mono ?_)
   rintro u w12 ⟨⟨a,ga,sa,ha⟩,hS12,hch12⟩
   have hC12:=aE hC11 hch12
   refine iCall ((rW (c:=preF y a) (SB (by omega) a) (GY y a) ha.sl (by rw [GY];omega)).mono ?_)
   rintro r w13 ⟨x13,hr⟩
   exact ⟨⟨preF y a,TD y ga,by rw [GY];omega,OwK.mono hr hC12.size⟩,hS12.later x13,aL hC12 x13⟩
  | false=>
   refine iCndF rfl ?_
   refine iCall ((aG hc hS9 6).mono ?_)
   rintro _ w14 ⟨⟨y,rfl,_,_⟩,hS14,hch14⟩
   have hC14:=aE hC9 hch14
   refine iEq (iCndP (fun _=>?_) (fun _=>?_))
   ·refine iSub (by omega) ?_
    rw [show (n:Int) - 2 = ((n - 2:Nat):Int) by omega]
    refine iCall ((ih (n - 2) (by omega) hS14 (by omega) (by omega)).mono ?_)
    rintro u w15 ⟨⟨a,ga,sa,ha⟩,hS15,hch15⟩
    have hC15:=aE hC14 hch15
    refine iCall ((mI ha.sl (by omega)).mono ?_)
    rintro r w16 ⟨x16,hr⟩
    exact ⟨⟨.imp a .fls,⟨ga,trivial⟩,by show 1 + a.size + 1 ≤ n;omega,OwK.mono hr hC15.size⟩,hS15.later x16,aL hC15 x16⟩
   ·refine iSub (by omega) ?_
    refine iCall ((aG hc hS14 _).mono ?_)
    rintro _ w17 ⟨⟨z,rfl,hz,_⟩,hS17,hch17⟩
    have hz:=hz (by omega)
    have hC17:=aE hC14 hch17
    refine iAdd (by omega) ?_
    rw [show (1:Int) + (z:Int) = ((1 + z:Nat):Int) by omega]
    refine iCall ((ih (1 + z) (by omega) hS17 (by omega) (by omega)).mono ?_)
    rintro u w18 ⟨⟨a,ga,sa,ha⟩,hS18,hch18⟩
    have hC18:=aE hC17 hch18
    refine iCall ((aG hc hS18 3).mono ?_)
    rintro _ w19 ⟨⟨q,rfl,hq,_⟩,hS19,hch19⟩
    have hq:=hq (by omega)
    have hC19:=aE hC18 hch19
    have ha19:=OwK.src ha hS18 hneN hch19
    refine iAdd (by omega) (iSub (by omega) (iSub (by omega) ?_))
    rw [show (2:Int) + (q:Int) = ((2 + q:Nat):Int) by omega,show (n:Int) - 1 - ((1 + z:Nat):Int) = ((n - 1 - (1 + z):Nat):Int) by omega]
    refine iCall ((ih (n - 1 - (1 + z)) (by omega) hS19 (by omega) (by omega)).mono ?_)
    rintro u2 w20 ⟨⟨a2,ga2,sa2,ha2⟩,hS20,hch20⟩
    have hC20:=aE hC19 hch20
    have ha20:=OwK.src ha19 hS19 hneN hch20
    refine iCall ((dM (c:=binF q a a2) (R9 (by omega) a a2) (GM q a a2) ha20.sl ha2.sl (by rw [GM];omega)).mono ?_)
    rintro r w21 ⟨x21,hr⟩
    exact ⟨⟨binF q a a2,SW q ga ga2,by rw [GM];omega,OwK.mono hr hC20.size⟩,hS20.later x21,aL hC20 x21⟩
end Go.Proofs.YtkjoppimpmojfaaGreat

namespace Go.Vc
theorem fl0:fl 0 = 4:=rfl
theorem fl1:fl 1 = 3:=rfl
theorem fl2:fl 2 = 2:=rfl
theorem fl3:fl 3 = 1:=rfl
theorem GC:∀ v,v < 6 → (vl v).toNat = 112 + v
 | 0,_=>rfl
 | 1,_=>rfl
 | 2,_=>rfl
 | 3,_=>rfl
 | 4,_=>rfl
 | 5,_=>rfl
 | v + 6,h=>by omega
theorem S8 {v u:Nat} (hv:v < 6) (hu:u < 6) (h:vl v = vl u):v = u:=by
 have:=congrArg UInt8.toNat h
 rw [GC v hv,GC u hu] at this;omega
theorem f4 {v:Nat} (hv:v < 6) {d:UInt8} (h:d.toNat < 112 ∨ 117 < d.toNat):vl v ≠ d:=by
 rintro rfl
 rw [GC v hv] at h;omega
abbrev ReadQ (e:TypeId) (b:Nat) (t:Str) (nodeT:TypeId) (r:Fm × RSt) (w:World) (v:Value) (w':World):Prop:=RdS e b t r.2 w' ∧ Ch (fun x=>x = b) w w' ∧ OwK 2 w.heap.size nodeT w' v r.1.size r.1.cells
theorem i4 {e:TypeId} {b:Nat} {t:Str} {s:RSt} {w w1:World} {lo:Nat} {e':TypeId} {v:Value} {n:Nat} {xs:List Value} (h:RdS e b t s w) (ho:OwK 2 lo e' w1 v n xs) (hlo:w.heap.size ≤ lo):∀ c,v.ownBlock = some c → ¬ c = b:=fun c hc hb=>by
 have:=(ho.blk c hc).1;have:=h.lt;omega
end Go.Vc
namespace Go.Proofs.YtkjoppimpmojfaaGreat
open Go.Vc
def Rds (f:FuncId) (lv m:Nat):Prop:=∀ (e:TypeId) (b:Nat) (t:Str) (s:RSt) (w:World),t.length ≤ 4194304 → RdS e b t s w → 8 * s.1.length + fl lv ≤ m → Cal Tryz.prog f #[.pointer (some ⟨b,0,none⟩)] w (ReadQ e b t aW (rdL lv .fls s) w)
theorem DU {m:Nat} (hor:Rds kJ 1 m) (him:Rds cR 0 m):Rds cR 0 (m + 1):=by
 intro e b t s w ht h hm
 rw [fl0] at hm
 apply FK;unfold qP
 refine iCall ((hor e b t s w ht h (by rw [fl1];omega)).mono ?_)
 rintro v w1 ⟨h1,hc1,ho1⟩
 have hlen:=jZ 1 .fls s
 have hz:=cQ 1 .fls s
 have htl:=h.len
 rw [rdL0]
 refine iCall ((a8 62 (by decide) (by omega) h1).mono ?_)
 rintro _ w2 ⟨rfl,h2,hc2⟩
 have ho2:=ho1.ch hc2 (i4 h ho1 (Nat.le_refl _))
 cases hk:tk 62 (rdL 1 .fls s).2
 ·rw [hk,if_neg (by decide)] at h2
  exact iCndF rfl ⟨h2,aE hc1 hc2,ho2⟩
 ·rw [hk,if_pos rfl] at h2
  have hnx:=bE hk
  rw [if_pos rfl]
  refine iCndT rfl ?_
  refine iCall ((him e b t _ w2 ht h2 (by rw [fl0];omega)).mono ?_)
  rintro v3 w3 ⟨h3,hc3,ho3⟩
  have hz3:=cQ 0 .fls (nx (rdL 1 .fls s).2)
  have hf:Fm.fls.size = 1:=rfl
  have ho23:=ho2.ch hc3 (i4 h ho2 (Nat.le_refl _))
  have hsz:(Fm.imp (rdL 1 .fls s).1 (rdL 0 .fls (nx (rdL 1 .fls s).2)).1).size ≤ 1099511627776:=by
   show 1 + _ + _ ≤ _;omega
  refine iCall ((lO (c:=.imp (rdL 1 .fls s).1 (rdL 0 .fls (nx (rdL 1 .fls s).2)).1) (k:=4) rfl rfl ho23.sl ho3.sl hsz).mono ?_)
  rintro v4 w4 ⟨h4,ho4⟩
  have hcc:=aE hc1 (aE hc2 hc3)
  exact ⟨h3.ext h4,aL hcc h4,ho4.mono hcc.size⟩
theorem JQ {m:Nat} (hor:Rds pM 1 m) (him:Rds fR 0 m):Rds fR 0 (m + 1):=by
 intro e b t s w ht h hm
 rw [fl0] at hm
 apply L6;unfold zK
 refine iCall ((hor e b t s w ht h (by rw [fl1];omega)).mono ?_)
 rintro v w1 ⟨h1,hc1,ho1⟩
 have hlen:=jZ 1 .fls s
 have hz:=cQ 1 .fls s
 have htl:=h.len
 rw [rdL0]
 refine iCall ((bO 62 (by decide) (by omega) h1).mono ?_)
 rintro _ w2 ⟨rfl,h2,hc2⟩
 have ho2:=ho1.ch hc2 (i4 h ho1 (Nat.le_refl _))
 cases hk:tk 62 (rdL 1 .fls s).2
 ·rw [hk,if_neg (by decide)] at h2
  exact iCndF rfl ⟨h2,aE hc1 hc2,ho2⟩
 ·rw [hk,if_pos rfl] at h2
  have hnx:=bE hk
  rw [if_pos rfl]
  refine iCndT rfl ?_
  refine iCall ((him e b t _ w2 ht h2 (by rw [fl0];omega)).mono ?_)
  rintro v3 w3 ⟨h3,hc3,ho3⟩
  have hz3:=cQ 0 .fls (nx (rdL 1 .fls s).2)
  have hf:Fm.fls.size = 1:=rfl
  have ho23:=ho2.ch hc3 (i4 h ho2 (Nat.le_refl _))
  have hsz:(Fm.imp (rdL 1 .fls s).1 (rdL 0 .fls (nx (rdL 1 .fls s).2)).1).size ≤ 1099511627776:=by
   show 1 + _ + _ ≤ _;omega
  refine iCall ((dM (c:=.imp (rdL 1 .fls s).1 (rdL 0 .fls (nx (rdL 1 .fls s).2)).1) (k:=4) rfl rfl ho23.sl ho3.sl hsz).mono ?_)
  rintro v4 w4 ⟨h4,ho4⟩
  have hcc:=aE hc1 (aE hc2 hc3)
  exact ⟨h3.ext h4,aL hcc h4,ho4.mono hcc.size⟩
theorem G8 {m:Nat} (hsub:Rds jV 2 m):Rds kJ 1 (m + 1):=by
 intro e b t s w ht h hm
 rw [fl1] at hm
 apply JR;unfold vX
 refine iCall ((hsub e b t s w ht h (by rw [fl2];omega)).mono ?_)
 rintro v w1 ⟨h1,hc1,ho1⟩
 have hlen:=jZ 2 .fls s
 have hz:=cQ 2 .fls s
 have htl:=h.len
 have hf:Fm.fls.size = 1:=rfl
 rw [rdL1]
 refine iLp (fun q:Value × Fm × RSt=>[q.1]) (fun q w'=>RdS e b t q.2.2 w' ∧ Ch (fun x=>x = b) w w' ∧ OwK 2 w.heap.size aW w' q.1 q.2.1.size q.2.1.cells ∧ rdL 4 q.2.1 q.2.2 = rdL 4 (rdL 2 .fls s).1 (rdL 2 .fls s).2 ∧ q.2.2.1.length ≤ s.1.length ∧ q.2.1.size + 3 * q.2.2.1.length ≤ 1 + 3 * s.1.length) (fun q=>q.2.2.1.length) (v,rdL 2 .fls s) rfl
  ⟨h1,hc1,ho1,rfl,hlen,by show (rdL 2 .fls s).1.size + 3 * (rdL 2 .fls s).2.1.length ≤ _;omega⟩ ?_
 rintro ⟨v,a,q⟩ w3 Kn ⟨h3,hc3,ho3,hq,hql,hqs⟩ hKn
 have h3:RdS e b t q w3:=h3
 have ho3:OwK 2 w.heap.size aW w3 v a.size a.cells:=ho3
 have hq:rdL 4 a q = _:=hq
 have hql:q.1.length ≤ s.1.length:=hql
 have hqs:a.size + 3 * q.1.length ≤ 1 + 3 * s.1.length:=hqs
 intro _
 refine iCall ((a8 124 (by decide) (by omega) h3).mono ?_)
 rintro _ w4 ⟨rfl,h4,hc4⟩
 have ho4:=ho3.ch hc4 (i4 h ho3 (Nat.le_refl _))
 rw [← hq,rdL4]
 cases hk:tk 124 q
 ·rw [hk,if_neg (by decide)] at h4
  rw [if_neg (by decide)]
  exact iCndF rfl ⟨h4,aE hc3 hc4,ho4⟩
 ·rw [hk,if_pos rfl] at h4
  have hnx:=bE hk
  rw [if_pos rfl]
  refine iCndT rfl ?_
  refine iCall ((hsub e b t _ w4 ht h4 (by rw [fl2];omega)).mono ?_)
  rintro v5 w5 ⟨h5,hc5,ho5⟩
  have hz5:=cQ 2 .fls (nx q)
  have hl5:=jZ 2 .fls (nx q)
  have ho45:=ho4.ch hc5 (i4 h ho4 (Nat.le_refl _))
  have hsz:(Fm.or a (rdL 2 .fls (nx q)).1).size ≤ 1099511627776:=by
   show 1 + _ + _ ≤ _;omega
  refine iCall ((lO (c:=.or a (rdL 2 .fls (nx q)).1) (k:=3) rfl rfl ho45.sl ho5.sl hsz).mono ?_)
  rintro v6 w6 ⟨h6,ho6⟩
  have hcc:=aE hc3 (aE hc4 hc5)
  have e1:rdL 4 (rdL 2 .fls s).1 (rdL 2 .fls s).2 = rdL 4 (.or a (rdL 2 .fls (nx q)).1) (rdL 2 .fls (nx q)).2:=by rw [← hq,rdL4,if_pos hk]
  refine hKn (v6,.or a (rdL 2 .fls (nx q)).1,(rdL 2 .fls (nx q)).2) _ ⟨h5.ext h6,aL hcc h6,ho6.mono hcc.size,e1.symm,by show (rdL 2 .fls (nx q)).2.1.length ≤ _;omega,?_⟩ (by show (rdL 2 .fls (nx q)).2.1.length < q.1.length;omega)
  show 1 + a.size + (rdL 2 .fls (nx q)).1.size + 3 * (rdL 2 .fls (nx q)).2.1.length ≤ _
  omega
theorem GD {m:Nat} (hsub:Rds eH 3 m):Rds jV 2 (m + 1):=by
 intro e b t s w ht h hm
 rw [fl2] at hm
 apply HZ;unfold uH
 refine iCall ((hsub e b t s w ht h (by rw [fl3];omega)).mono ?_)
 rintro v w1 ⟨h1,hc1,ho1⟩
 have hlen:=jZ 3 .fls s
 have hz:=cQ 3 .fls s
 have htl:=h.len
 have hf:Fm.fls.size = 1:=rfl
 rw [rdL2]
 refine iLp (fun q:Value × Fm × RSt=>[q.1]) (fun q w'=>RdS e b t q.2.2 w' ∧ Ch (fun x=>x = b) w w' ∧ OwK 2 w.heap.size aW w' q.1 q.2.1.size q.2.1.cells ∧ rdL 5 q.2.1 q.2.2 = rdL 5 (rdL 3 .fls s).1 (rdL 3 .fls s).2 ∧ q.2.2.1.length ≤ s.1.length ∧ q.2.1.size + 3 * q.2.2.1.length ≤ 1 + 3 * s.1.length) (fun q=>q.2.2.1.length) (v,rdL 3 .fls s) rfl
  ⟨h1,hc1,ho1,rfl,hlen,by show (rdL 3 .fls s).1.size + 3 * (rdL 3 .fls s).2.1.length ≤ _;omega⟩ ?_
 rintro ⟨v,a,q⟩ w3 Kn ⟨h3,hc3,ho3,hq,hql,hqs⟩ hKn
 have h3:RdS e b t q w3:=h3
 have ho3:OwK 2 w.heap.size aW w3 v a.size a.cells:=ho3
 have hq:rdL 5 a q = _:=hq
 have hql:q.1.length ≤ s.1.length:=hql
 have hqs:a.size + 3 * q.1.length ≤ 1 + 3 * s.1.length:=hqs
 intro _
 refine iCall ((a8 38 (by decide) (by omega) h3).mono ?_)
 rintro _ w4 ⟨rfl,h4,hc4⟩
 have ho4:=ho3.ch hc4 (i4 h ho3 (Nat.le_refl _))
 rw [← hq,rdL5]
 cases hk:tk 38 q
 ·rw [hk,if_neg (by decide)] at h4
  rw [if_neg (by decide)]
  exact iCndF rfl ⟨h4,aE hc3 hc4,ho4⟩
 ·rw [hk,if_pos rfl] at h4
  have hnx:=bE hk
  rw [if_pos rfl]
  refine iCndT rfl ?_
  refine iCall ((hsub e b t _ w4 ht h4 (by rw [fl3];omega)).mono ?_)
  rintro v5 w5 ⟨h5,hc5,ho5⟩
  have hz5:=cQ 3 .fls (nx q)
  have hl5:=jZ 3 .fls (nx q)
  have ho45:=ho4.ch hc5 (i4 h ho4 (Nat.le_refl _))
  have hsz:(Fm.and a (rdL 3 .fls (nx q)).1).size ≤ 1099511627776:=by
   show 1 + _ + _ ≤ _;omega
  refine iCall ((lO (c:=.and a (rdL 3 .fls (nx q)).1) (k:=2) rfl rfl ho45.sl ho5.sl hsz).mono ?_)
  rintro v6 w6 ⟨h6,ho6⟩
  have hcc:=aE hc3 (aE hc4 hc5)
  have e1:rdL 5 (rdL 3 .fls s).1 (rdL 3 .fls s).2 = rdL 5 (.and a (rdL 3 .fls (nx q)).1) (rdL 3 .fls (nx q)).2:=by rw [← hq,rdL5,if_pos hk]
  refine hKn (v6,.and a (rdL 3 .fls (nx q)).1,(rdL 3 .fls (nx q)).2) _ ⟨h5.ext h6,aL hcc h6,ho6.mono hcc.size,e1.symm,by show (rdL 3 .fls (nx q)).2.1.length ≤ _;omega,?_⟩ (by show (rdL 3 .fls (nx q)).2.1.length < q.1.length;omega)
  show 1 + a.size + (rdL 3 .fls (nx q)).1.size + 3 * (rdL 3 .fls (nx q)).2.1.length ≤ _
  omega
theorem O7 {m:Nat} (hsub:Rds oC 2 m):Rds pM 1 (m + 1):=by
 intro e b t s w ht h hm
 rw [fl1] at hm
 apply PT;unfold GR
 refine iCall ((hsub e b t s w ht h (by rw [fl2];omega)).mono ?_)
 rintro v w1 ⟨h1,hc1,ho1⟩
 have hlen:=jZ 2 .fls s
 have hz:=cQ 2 .fls s
 have htl:=h.len
 have hf:Fm.fls.size = 1:=rfl
 rw [rdL1]
 refine iLp (fun q:Value × Fm × RSt=>[q.1]) (fun q w'=>RdS e b t q.2.2 w' ∧ Ch (fun x=>x = b) w w' ∧ OwK 2 w.heap.size aW w' q.1 q.2.1.size q.2.1.cells ∧ rdL 4 q.2.1 q.2.2 = rdL 4 (rdL 2 .fls s).1 (rdL 2 .fls s).2 ∧ q.2.2.1.length ≤ s.1.length ∧ q.2.1.size + 3 * q.2.2.1.length ≤ 1 + 3 * s.1.length) (fun q=>q.2.2.1.length) (v,rdL 2 .fls s) rfl
  ⟨h1,hc1,ho1,rfl,hlen,by show (rdL 2 .fls s).1.size + 3 * (rdL 2 .fls s).2.1.length ≤ _;omega⟩ ?_
 rintro ⟨v,a,q⟩ w3 Kn ⟨h3,hc3,ho3,hq,hql,hqs⟩ hKn
 have h3:RdS e b t q w3:=h3
 have ho3:OwK 2 w.heap.size aW w3 v a.size a.cells:=ho3
 have hq:rdL 4 a q = _:=hq
 have hql:q.1.length ≤ s.1.length:=hql
 have hqs:a.size + 3 * q.1.length ≤ 1 + 3 * s.1.length:=hqs
 intro _
 refine iCall ((bO 124 (by decide) (by omega) h3).mono ?_)
 rintro _ w4 ⟨rfl,h4,hc4⟩
 have ho4:=ho3.ch hc4 (i4 h ho3 (Nat.le_refl _))
 rw [← hq,rdL4]
 cases hk:tk 124 q
 ·rw [hk,if_neg (by decide)] at h4
  rw [if_neg (by decide)]
  exact iCndF rfl ⟨h4,aE hc3 hc4,ho4⟩
 ·rw [hk,if_pos rfl] at h4
  have hnx:=bE hk
  rw [if_pos rfl]
  refine iCndT rfl ?_
  refine iCall ((hsub e b t _ w4 ht h4 (by rw [fl2];omega)).mono ?_)
  rintro v5 w5 ⟨h5,hc5,ho5⟩
  have hz5:=cQ 2 .fls (nx q)
  have hl5:=jZ 2 .fls (nx q)
  have ho45:=ho4.ch hc5 (i4 h ho4 (Nat.le_refl _))
  have hsz:(Fm.or a (rdL 2 .fls (nx q)).1).size ≤ 1099511627776:=by
   show 1 + _ + _ ≤ _;omega
  refine iCall ((dM (c:=.or a (rdL 2 .fls (nx q)).1) (k:=3) rfl rfl ho45.sl ho5.sl hsz).mono ?_)
  rintro v6 w6 ⟨h6,ho6⟩
  have hcc:=aE hc3 (aE hc4 hc5)
  have e1:rdL 4 (rdL 2 .fls s).1 (rdL 2 .fls s).2 = rdL 4 (.or a (rdL 2 .fls (nx q)).1) (rdL 2 .fls (nx q)).2:=by rw [← hq,rdL4,if_pos hk]
  refine hKn (v6,.or a (rdL 2 .fls (nx q)).1,(rdL 2 .fls (nx q)).2) _ ⟨h5.ext h6,aL hcc h6,ho6.mono hcc.size,e1.symm,by show (rdL 2 .fls (nx q)).2.1.length ≤ _;omega,?_⟩ (by show (rdL 2 .fls (nx q)).2.1.length < q.1.length;omega)
  show 1 + a.size + (rdL 2 .fls (nx q)).1.size + 3 * (rdL 2 .fls (nx q)).2.1.length ≤ _
  omega
theorem MJ {m:Nat} (hsub:Rds gU 3 m):Rds oC 2 (m + 1):=by
 intro e b t s w ht h hm
 rw [fl2] at hm
 apply PH;unfold EE
 refine iCall ((hsub e b t s w ht h (by rw [fl3];omega)).mono ?_)
 rintro v w1 ⟨h1,hc1,ho1⟩
 have hlen:=jZ 3 .fls s
 have hz:=cQ 3 .fls s
 have htl:=h.len
 have hf:Fm.fls.size = 1:=rfl
 rw [rdL2]
 refine iLp (fun q:Value × Fm × RSt=>[q.1]) (fun q w'=>RdS e b t q.2.2 w' ∧ Ch (fun x=>x = b) w w' ∧ OwK 2 w.heap.size aW w' q.1 q.2.1.size q.2.1.cells ∧ rdL 5 q.2.1 q.2.2 = rdL 5 (rdL 3 .fls s).1 (rdL 3 .fls s).2 ∧ q.2.2.1.length ≤ s.1.length ∧ q.2.1.size + 3 * q.2.2.1.length ≤ 1 + 3 * s.1.length) (fun q=>q.2.2.1.length) (v,rdL 3 .fls s) rfl
  ⟨h1,hc1,ho1,rfl,hlen,by show (rdL 3 .fls s).1.size + 3 * (rdL 3 .fls s).2.1.length ≤ _;omega⟩ ?_
 rintro ⟨v,a,q⟩ w3 Kn ⟨h3,hc3,ho3,hq,hql,hqs⟩ hKn
 have h3:RdS e b t q w3:=h3
 have ho3:OwK 2 w.heap.size aW w3 v a.size a.cells:=ho3
 have hq:rdL 5 a q = _:=hq
 have hql:q.1.length ≤ s.1.length:=hql
 have hqs:a.size + 3 * q.1.length ≤ 1 + 3 * s.1.length:=hqs
 intro _
 refine iCall ((bO 38 (by decide) (by omega) h3).mono ?_)
 rintro _ w4 ⟨rfl,h4,hc4⟩
 have ho4:=ho3.ch hc4 (i4 h ho3 (Nat.le_refl _))
 rw [← hq,rdL5]
 cases hk:tk 38 q
 ·rw [hk,if_neg (by decide)] at h4
  rw [if_neg (by decide)]
  exact iCndF rfl ⟨h4,aE hc3 hc4,ho4⟩
 ·rw [hk,if_pos rfl] at h4
  have hnx:=bE hk
  rw [if_pos rfl]
  refine iCndT rfl ?_
  refine iCall ((hsub e b t _ w4 ht h4 (by rw [fl3];omega)).mono ?_)
  rintro v5 w5 ⟨h5,hc5,ho5⟩
  have hz5:=cQ 3 .fls (nx q)
  have hl5:=jZ 3 .fls (nx q)
  have ho45:=ho4.ch hc5 (i4 h ho4 (Nat.le_refl _))
  have hsz:(Fm.and a (rdL 3 .fls (nx q)).1).size ≤ 1099511627776:=by
   show 1 + _ + _ ≤ _;omega
  refine iCall ((dM (c:=.and a (rdL 3 .fls (nx q)).1) (k:=2) rfl rfl ho45.sl ho5.sl hsz).mono ?_)
  rintro v6 w6 ⟨h6,ho6⟩
  have hcc:=aE hc3 (aE hc4 hc5)
  have e1:rdL 5 (rdL 3 .fls s).1 (rdL 3 .fls s).2 = rdL 5 (.and a (rdL 3 .fls (nx q)).1) (rdL 3 .fls (nx q)).2:=by rw [← hq,rdL5,if_pos hk]
  refine hKn (v6,.and a (rdL 3 .fls (nx q)).1,(rdL 3 .fls (nx q)).2) _ ⟨h5.ext h6,aL hcc h6,ho6.mono hcc.size,e1.symm,by show (rdL 3 .fls (nx q)).2.1.length ≤ _;omega,?_⟩ (by show (rdL 3 .fls (nx q)).2.1.length < q.1.length;omega)
  show 1 + a.size + (rdL 3 .fls (nx q)).1.size + 3 * (rdL 3 .fls (nx q)).2.1.length ≤ _
  omega
theorem FM {m:Nat} (him:Rds cR 0 m) (e:TypeId) (b:Nat) (t:Str) (s:RSt) (w:World) (ht:t.length ≤ 4194304) (h:RdS e b t s w) (hm:8 * s.1.length + 1 ≤ m + 1) (hn1:tk 126 s = false) (hn2:tk 91 s = false) (hn3:tk 60 s = false):
  Cal Tryz.prog s5 #[.pointer (some ⟨b,0,none⟩)] w (ReadQ e b t aW (rdL 3 .fls s) w):=by
 apply F6;unfold iT
 have htl:=h.len
 have key:∀ {r:Fm × RSt},(rdL 3 .fls s = r → iT (.pointer (some ⟨b,0,none⟩)) w (ReadQ e b t aW r w)) → rdL 3 .fls s = r → iT (.pointer (some ⟨b,0,none⟩)) w (ReadQ e b t aW (rdL 3 .fls s) w):=fun h e=>by rw [e];exact h e
 refine iCall ((a8 70 (by decide) (by omega) h).mono ?_)
 rintro _ w1 ⟨rfl,h1,hc1⟩
 have two:∀ {c d:UInt8},tk c s = true → c ≠ d → tk d s = false:=fun a b=>KC a b
 cases k1:tk 70 s
 rotate_left
 ·rw [k1,if_pos rfl] at h1
  refine iCndT rfl ?_
  have er:rdL 3 .fls s = (.fls,nx s):=rdL3 (Q:=fun x=>x = _) (fun h=>absurd (hn1.symm.trans h) (by decide)) (fun h=>absurd (hn2.symm.trans h) (by decide)) (fun h=>absurd (hn3.symm.trans h) (by decide)) (fun _=>rfl) (fun h=>absurd ((two k1 (by decide)).symm.trans h) (by decide)) (fun h=>absurd ((two k1 (by decide)).symm.trans h) (by decide)) (fun v hv h=>absurd ((two k1 (f4 hv (by decide)).symm).symm.trans h) (by decide)) (fun _ _ _ h _ _ _=>absurd (h.symm.trans k1) (by decide))
  rw [er]
  refine iCall ((qY w1).mono ?_)
  rintro v w2 ⟨h2,ho2⟩
  exact ⟨h1.ext h2,aL hc1 h2,ho2.mono hc1.size⟩
 rw [k1,if_neg (by decide)] at h1
 refine iCndF rfl ?_
 refine iCall ((a8 84 (by decide) (by omega) h1).mono ?_)
 rintro _ w3 ⟨rfl,h3,hc3⟩
 have hc13:=aE hc1 hc3
 cases k2:tk 84 s
 rotate_left
 ·rw [k2,if_pos rfl] at h3
  refine iCndT rfl ?_
  have er:rdL 3 .fls s = (.imp .fls .fls,nx s):=rdL3 (Q:=fun x=>x = _) (fun h=>absurd (hn1.symm.trans h) (by decide)) (fun h=>absurd (hn2.symm.trans h) (by decide)) (fun h=>absurd (hn3.symm.trans h) (by decide)) (fun h=>absurd (k1.symm.trans h) (by decide)) (fun _=>rfl) (fun h=>absurd ((two k2 (by decide)).symm.trans h) (by decide)) (fun v hv h=>absurd ((two k2 (f4 hv (by decide)).symm).symm.trans h) (by decide)) (fun _ _ _ _ h _ _=>absurd (h.symm.trans k2) (by decide))
  rw [er]
  refine iCall ((PB w3).mono ?_)
  rintro v w2 ⟨h2,ho2⟩
  exact ⟨h3.ext h2,aL hc13 h2,ho2.mono hc13.size⟩
 rw [k2,if_neg (by decide)] at h3
 refine iCndF rfl ?_
 refine iCall ((a8 40 (by decide) (by omega) h3).mono ?_)
 rintro _ w5 ⟨rfl,h5,hc5⟩
 have hc15:=aE hc13 hc5
 cases k3:tk 40 s
 rotate_left
 ·rw [k3,if_pos rfl] at h5
  refine iCndT rfl ?_
  have er:rdL 3 .fls s = ((rdL 0 .fls (nx s)).1,ndd 41 (rdL 0 .fls (nx s)).2):=rdL3 (Q:=fun x=>x = _) (fun h=>absurd (hn1.symm.trans h) (by decide)) (fun h=>absurd (hn2.symm.trans h) (by decide)) (fun h=>absurd (hn3.symm.trans h) (by decide)) (fun h=>absurd (k1.symm.trans h) (by decide)) (fun h=>absurd (k2.symm.trans h) (by decide)) (fun _=>rfl) (fun v hv h=>absurd ((two k3 (f4 hv (by decide)).symm).symm.trans h) (by decide)) (fun _ _ _ _ _ h _=>absurd (h.symm.trans k3) (by decide))
  rw [er]
  have hnx:=bE k3
  refine iCall ((him e b t _ w5 ht h5 (by rw [fl0];omega)).mono ?_)
  rintro v w6 ⟨h6,hc6,ho6⟩
  refine iCall ((lC 41 (by decide) (by omega) h6).mono ?_)
  rintro _ w7 ⟨h7,hc7⟩
  exact ⟨h7,aE hc15 (aE hc6 hc7),(ho6.ch hc7 (i4 h ho6 hc15.size)).mono hc15.size⟩
 rw [k3,if_neg (by decide)] at h5
 refine iCndF rfl ?_
 have hlet:(.string ⟨#[112,113,114,115,116,117]⟩:Value) = sv [112,113,114,115,116,117]:=rfl
 rw [hlet]
 refine WK (by kernel_rfl) fun q w8 hq h8 hI=>?_
 have hqb:q ≠ b:=by have:=h5.lt;omega
 refine iLp (fun _:Nat=>[]) (fun i w'=>i ≤ 6 ∧ RdS e b t s w' ∧ Ch (fun x=>x = b) w w' ∧ It w' q [112,113,114,115,116,117] i ∧ w.heap.size ≤ q ∧ ∀ v,v < i → tk (vl v) s = false) (fun i=>6 - i) 0 rfl ⟨Nat.zero_le _,h5.ext h8,aL hc15 h8,hI,by have:=hc15.size;omega,fun v hv=>by omega⟩ ?_
 rintro i w10 Kn ⟨hi,h10,hc10,hI10,hwq,hno⟩ hKn
 intro _
 by_cases hi6:i = 6
 ·subst hi6
  refine WN hI10 (by decide) ?_
  refine iEx (by rfl) ?_
  refine iCndF rfl ?_
  have er:rdL 3 .fls s = (.fls,(s.1,true)):=rdL3 (Q:=fun x=>x = _) (fun h=>absurd (hn1.symm.trans h) (by decide)) (fun h=>absurd (hn2.symm.trans h) (by decide)) (fun h=>absurd (hn3.symm.trans h) (by decide)) (fun h=>absurd (k1.symm.trans h) (by decide)) (fun h=>absurd (k2.symm.trans h) (by decide)) (fun h=>absurd (k3.symm.trans h) (by decide)) (fun v hv h=>absurd ((hno v hv).symm.trans h) (by decide)) (fun _ _ _ _ _ _ _=>rfl)
  rw [er]
  obtain ⟨k,_,_,hB⟩:=id h10
  ((with_reducible refine iNil ?_;refine iFa ?_))
  refine iStB hB (by simp) rfl fun _=>?_
  have hu:=Upd.setCell w10 b 2 (.bool true)
  refine iCall ((qY _).mono ?_)
  rintro v w2 ⟨h2,ho2⟩
  have hcu:=hc10.trans (hu.ch (S:=fun x=>x = b) rfl) (fun _ h=>.inl h)
  exact ⟨(RdS.bad h10).ext h2,aL hcu h2,ho2.mono hcu.size⟩
 ·have hi5:i < 6:=by omega
  have hgd:(([112,113,114,115,116,117]:Str).getD i 0) = vl i:=by
   have:i = 0 ∨ i = 1 ∨ i = 2 ∨ i = 3 ∨ i = 4 ∨ i = 5:=by omega
   rcases this with rfl | rfl | rfl | rfl | rfl | rfl <;> rfl
  refine V6 hI10 (by show i < 6;exact hi5) fun c d w11 _ hlow _ _ hu hI11=>?_
  rw [hgd,GC i hi5] at hlow
  obtain ⟨rfl,rfl⟩:=hlow (by omega)
  have hcu:Ch (fun x=>x = b) w w11:=hc10.trans (hu.ch (S:=fun x=>x = q) rfl) (fun x hx=>.inr (by omega))
  have h11:RdS e b t s w11:=by
   obtain ⟨k,a1,a2,hB⟩:=h10
   exact ⟨k,a1,a2,hB.upd hu (fun e=>hqb e.symm)⟩
  ((with_reducible refine iE30 ?_))
  refine iCndT rfl ?_
  ((with_reducible refine iE31 ?_;refine iE32 ?_))
  refine ⟨_,_,rfl,?_⟩
  have ew:IntKind.u8.wrap ((112 + i:Nat):Int) = (((vl i).toNat:Nat):Int):=by
   rw [GC i hi5]
   have:i = 0 ∨ i = 1 ∨ i = 2 ∨ i = 3 ∨ i = 4 ∨ i = 5:=by omega
   rcases this with rfl | rfl | rfl | rfl | rfl | rfl <;> decide
  refine iCall ((a8 (vl i) ew (by omega) h11).mono ?_)
  rintro _ w12 ⟨rfl,h12,hc12⟩
  have hcc:=aE hcu hc12
  cases kv:tk (vl i) s
  ·rw [kv,if_neg (by decide)] at h12
   refine iCndF rfl ?_
   refine hKn (i + 1) _ ⟨by omega,h12,hcc,hI11.ch hc12 hqb,hwq,fun v hv=>?_⟩ (by omega)
   by_cases hvi:v = i
   ·rw [hvi];exact kv
   ·exact hno v (by omega)
  ·rw [kv,if_pos rfl] at h12
   refine iCndT rfl ?_
   have er:rdL 3 .fls s = (.var i,nx s):=rdL3 (Q:=fun x=>x = _) (fun h=>absurd (hn1.symm.trans h) (by decide)) (fun h=>absurd (hn2.symm.trans h) (by decide)) (fun h=>absurd (hn3.symm.trans h) (by decide)) (fun h=>absurd (k1.symm.trans h) (by decide)) (fun h=>absurd (k2.symm.trans h) (by decide)) (fun h=>absurd (k3.symm.trans h) (by decide)) (fun v hv h=>by
    have:vl i = vl v:=by
     apply Classical.byContradiction
     intro hne
     exact absurd ((two kv hne).symm.trans h) (by decide)
    rw [S8 hi5 hv this]) (fun _ _ _ _ _ _ h=>absurd ((h i hi5).symm.trans kv) (by decide))
   rw [er]
   refine iCall ((JG i w12).mono ?_)
   rintro v w2 ⟨h2,ho2⟩
   exact ⟨h12.ext h2,aL hcc h2,ho2.mono hcc.size⟩
theorem BM {m:Nat} (hpre:Rds eH 3 m) (him:Rds cR 0 m):Rds eH 3 (m + 1):=by
 intro e b t s w ht h hm
 rw [fl3] at hm
 apply C8;unfold qC
 have htl:=h.len
 have two:∀ {c d:UInt8},tk c s = true → c ≠ d → tk d s = false:=fun a b=>KC a b
 refine iCall ((a8 126 (by decide) (by omega) h).mono ?_)
 rintro _ w1 ⟨rfl,h1,hc1⟩
 have hf:Fm.fls.size = 1:=rfl
 cases k1:tk 126 s
 rotate_left
 ·rw [k1,if_pos rfl] at h1
  refine iCndT rfl ?_
  have er:rdL 3 .fls s = (.imp (rdL 3 .fls (nx s)).1 .fls,(rdL 3 .fls (nx s)).2):=rdL3 (Q:=fun x=>x = _) (fun _=>rfl) (fun h=>absurd ((two k1 (by decide)).symm.trans h) (by decide)) (fun h=>absurd ((two k1 (by decide)).symm.trans h) (by decide)) (fun h=>absurd ((two k1 (by decide)).symm.trans h) (by decide)) (fun h=>absurd ((two k1 (by decide)).symm.trans h) (by decide)) (fun h=>absurd ((two k1 (by decide)).symm.trans h) (by decide)) (fun v hv h=>absurd ((two k1 (f4 hv (by decide)).symm).symm.trans h) (by decide)) (fun h _ _ _ _ _ _=>absurd (h.symm.trans k1) (by decide))
  rw [er]
  have hnx:=bE k1
  refine iCall ((hpre e b t _ w1 ht h1 (by rw [fl3];omega)).mono ?_)
  rintro v w2 ⟨h2,hc2,ho2⟩
  have hz:=cQ 3 .fls (nx s)
  refine iCall ((I3 ho2.sl (by omega)).mono ?_)
  rintro v w3 ⟨h3,ho3⟩
  have hcc:=aE hc1 hc2
  exact ⟨h2.ext h3,aL hcc h3,ho3.mono hcc.size⟩
 rw [k1,if_neg (by decide)] at h1
 refine iCndF rfl ?_
 refine iCall ((a8 91 (by decide) (by omega) h1).mono ?_)
 rintro _ w3 ⟨rfl,h3,hc3⟩
 have hc13:=aE hc1 hc3
 cases k2:tk 91 s
 rotate_left
 ·rw [k2,if_pos rfl] at h3
  refine iCndT rfl ?_
  have er:rdL 3 .fls s = (.box (rdL 3 .fls (ndd 93 (nx s))).1,(rdL 3 .fls (ndd 93 (nx s))).2):=rdL3 (Q:=fun x=>x = _) (fun h=>absurd (k1.symm.trans h) (by decide)) (fun _=>rfl) (fun h=>absurd ((two k2 (by decide)).symm.trans h) (by decide)) (fun h=>absurd ((two k2 (by decide)).symm.trans h) (by decide)) (fun h=>absurd ((two k2 (by decide)).symm.trans h) (by decide)) (fun h=>absurd ((two k2 (by decide)).symm.trans h) (by decide)) (fun v hv h=>absurd ((two k2 (f4 hv (by decide)).symm).symm.trans h) (by decide)) (fun _ h _ _ _ _ _=>absurd (h.symm.trans k2) (by decide))
  rw [er]
  have hnx:=bE k2
  have hnd:=mP 93 (nx s)
  refine iCall ((lC 93 (by decide) (by omega) h3).mono ?_)
  rintro _ w4 ⟨h4,hc4⟩
  refine iCall ((hpre e b t _ w4 ht h4 (by rw [fl3];omega)).mono ?_)
  rintro v w5 ⟨h5,hc5,ho5⟩
  have hz:=cQ 3 .fls (ndd 93 (nx s))
  refine iCall ((CK (c:=.box (rdL 3 .fls (ndd 93 (nx s))).1) (k:=5) rfl rfl ho5.sl (by show 1 + _ ≤ _;omega)).mono ?_)
  rintro v w6 ⟨h6,ho6⟩
  have hcc:=aE hc13 (aE hc4 hc5)
  exact ⟨h5.ext h6,aL hcc h6,ho6.mono hcc.size⟩
 rw [k2,if_neg (by decide)] at h3
 refine iCndF rfl ?_
 refine iCall ((a8 60 (by decide) (by omega) h3).mono ?_)
 rintro _ w7 ⟨rfl,h7,hc7⟩
 have hc17:=aE hc13 hc7
 cases k3:tk 60 s
 rotate_left
 ·rw [k3,if_pos rfl] at h7
  refine iCndT rfl ?_
  have er:rdL 3 .fls s = (.dia (rdL 3 .fls (ndd 62 (nx s))).1,(rdL 3 .fls (ndd 62 (nx s))).2):=rdL3 (Q:=fun x=>x = _) (fun h=>absurd (k1.symm.trans h) (by decide)) (fun h=>absurd (k2.symm.trans h) (by decide)) (fun _=>rfl) (fun h=>absurd ((two k3 (by decide)).symm.trans h) (by decide)) (fun h=>absurd ((two k3 (by decide)).symm.trans h) (by decide)) (fun h=>absurd ((two k3 (by decide)).symm.trans h) (by decide)) (fun v hv h=>absurd ((two k3 (f4 hv (by decide)).symm).symm.trans h) (by decide)) (fun _ _ h _ _ _ _=>absurd (h.symm.trans k3) (by decide))
  rw [er]
  have hnx:=bE k3
  have hnd:=mP 62 (nx s)
  refine iCall ((lC 62 (by decide) (by omega) h7).mono ?_)
  rintro _ w4 ⟨h4,hc4⟩
  refine iCall ((hpre e b t _ w4 ht h4 (by rw [fl3];omega)).mono ?_)
  rintro v w5 ⟨h5,hc5,ho5⟩
  have hz:=cQ 3 .fls (ndd 62 (nx s))
  refine iCall ((CK (c:=.dia (rdL 3 .fls (ndd 62 (nx s))).1) (k:=6) rfl rfl ho5.sl (by show 1 + _ ≤ _;omega)).mono ?_)
  rintro v w6 ⟨h6,ho6⟩
  have hcc:=aE hc17 (aE hc4 hc5)
  exact ⟨h5.ext h6,aL hcc h6,ho6.mono hcc.size⟩
 rw [k3,if_neg (by decide)] at h7
 refine iCndF rfl ?_
 refine iCall ((FM him e b t s w7 ht h7 hm k1 k2 k3).mono ?_)
 rintro v w8 ⟨h8,hc8,ho8⟩
 exact ⟨h8,aE hc17 hc8,ho8.mono hc17.size⟩
theorem R4:∀ m,Rds cR 0 m ∧ Rds kJ 1 m ∧ Rds jV 2 m ∧ Rds eH 3 m
 | 0=>⟨fun _ _ _ _ _ _ _ h=>by rw [fl0] at h;omega,fun _ _ _ _ _ _ _ h=>by rw [fl1] at h;omega,fun _ _ _ _ _ _ _ h=>by rw [fl2] at h;omega,fun _ _ _ _ _ _ _ h=>by rw [fl3] at h;omega⟩
 | m + 1=>
  have h:=R4 m
  ⟨DU h.2.1 h.1,G8 h.2.2.1,GD h.2.2.2,BM h.2.2.2 h.1⟩
theorem DB {e:TypeId} {b:Nat} {t:Str} {s:RSt} {w:World} (ht:t.length ≤ 4194304) (h:RdS e b t s w):Cal Tryz.prog cR #[.pointer (some ⟨b,0,none⟩)] w (ReadQ e b t aW (rdL 0 .fls s) w):=
 (R4 _).1 e b t s w ht h (Nat.le_refl _)
end Go.Proofs.YtkjoppimpmojfaaGreat

namespace Go.Vc
def rdOk (t:Str):Bool:=!(rd t).2.2 && decide ((rd t).2.1 = [])
def rdAt (t:Str):Nat:=t.length - (rd t).2.1.length
theorem T0 (t:Str):rd t = rdL 0 .fls (t,false):=rfl
theorem S5 (t:Str):(rd t).2.1.length ≤ t.length:=jZ 0 .fls (t,false)
theorem G5 (t:Str):(rd t).1.good:=dV _ _ _ _ trivial
theorem RdS.place {e:TypeId} {b:Nat} {t:Str} {s:RSt} {w:World} (h:RdS e b t s w):Blk e w b [sv t,.int .i64 ((t.length - s.1.length:Nat):Int),.bool s.2]:=by
 obtain ⟨k,h1,h2,h3⟩:=h
 have:t.length - s.1.length = k:=by rw [h2,List.length_drop];omega
 rw [this];exact h3
theorem RdS.new {e:TypeId} {b:Nat} {t:Str} {w:World} (h:Blk e w b [sv t,.int .i64 0,.bool false]):RdS e b t (t,false) w:=⟨0,Nat.zero_le _,rfl,h⟩
end Go.Vc
namespace Go.Proofs.YtkjoppimpmojfaaGreat
open Go.Vc
theorem HA {m:Nat} (hpre:Rds gU 3 m) (him:Rds fR 0 m):Rds gU 3 (m + 1):=by
 intro e b t s w ht h hm
 rw [fl3] at hm
 apply JP;unfold wP
 have htl:=h.len
 have hf:Fm.fls.size = 1:=rfl
 have two:∀ {c d:UInt8},tk c s = true → c ≠ d → tk d s = false:=fun a b=>KC a b
 have hlet:(.string ⟨#[112,113,114,115,116,117]⟩:Value) = sv [112,113,114,115,116,117]:=rfl
 rw [hlet]
 refine iLp (fun i:Nat=>[.int .i64 (i:Int)]) (fun i w'=>i ≤ 6 ∧ RdS e b t s w' ∧ Ch (fun x=>x = b) w w' ∧ ∀ v,v < i → tk (vl v) s = false) (fun i=>6 - i) 0 rfl ⟨Nat.zero_le _,h,(Ext.refl w).ch,fun v hv=>by omega⟩ ?_
 rintro i w2 Kn ⟨hi,h2,hc2,hno⟩ hKn
 (intro _;(try simp only [gx]))
 refine iLenT ?_
 refine iLt ?_
 refine iCndP (fun h3=>?_) (fun h3=>?_)
 ·have hi5:i < 6:=by simp at h3;omega
  have hgd:(([112,113,114,115,116,117]:Str).getD i 0) = vl i:=by
   have:i = 0 ∨ i = 1 ∨ i = 2 ∨ i = 3 ∨ i = 4 ∨ i = 5:=by omega
   rcases this with rfl | rfl | rfl | rfl | rfl | rfl <;> rfl
  refine iIs (by show i < 6;exact hi5) ?_
  rw [hgd]
  refine iCall ((bO (vl i) rfl (by omega) h2).mono ?_)
  rintro _ w3 ⟨rfl,h4,hc4⟩
  have hcc:=aE hc2 hc4
  cases kv:tk (vl i) s
  ·rw [kv,if_neg (by decide)] at h4
   refine iCndF rfl ?_
   (refine iAdd (by omega) ?_)
   refine hKn (i + 1) _ ⟨by omega,h4,hcc,fun v hv=>?_⟩ (by omega)
   by_cases hvi:v = i
   ·rw [hvi];exact kv
   ·exact hno v (by omega)
  ·rw [kv,if_pos rfl] at h4
   refine iCndT rfl ?_
   have er:rdL 3 .fls s = (.var i,nx s):=rdL3 (Q:=fun x=>x = _) (fun h=>absurd ((two kv (f4 hi5 (by decide))).symm.trans h) (by decide)) (fun h=>absurd ((two kv (f4 hi5 (by decide))).symm.trans h) (by decide)) (fun h=>absurd ((two kv (f4 hi5 (by decide))).symm.trans h) (by decide)) (fun h=>absurd ((two kv (f4 hi5 (by decide))).symm.trans h) (by decide)) (fun h=>absurd ((two kv (f4 hi5 (by decide))).symm.trans h) (by decide)) (fun h=>absurd ((two kv (f4 hi5 (by decide))).symm.trans h) (by decide)) (fun v hv h=>by
    have:vl i = vl v:=by
     apply Classical.byContradiction
     intro hne
     exact absurd ((two kv hne).symm.trans h) (by decide)
    rw [S8 hi5 hv this]) (fun _ _ _ _ _ _ h=>absurd ((h i hi5).symm.trans kv) (by decide))
   rw [er]
   refine iCall ((q8 i w3).mono ?_)
   rintro v w4 ⟨h5,ho5⟩
   exact ⟨h4.ext h5,aL hcc h5,ho5.mono hcc.size⟩
 have hi6:i = 6:=by simp at h3;omega
 subst hi6
 refine iCall ((bO 70 (by decide) (by omega) h2).mono ?_)
 rintro _ wa1 ⟨rfl,ha1,ca1⟩
 have cb1:=aE hc2 ca1
 cases k1:tk 70 s
 rotate_left
 ·rw [k1,if_pos rfl] at ha1
  refine iCndT rfl ?_
  have er:rdL 3 .fls s = (.fls,nx s):=rdL3 (Q:=fun x=>x = _) (fun h=>absurd ((two k1 (by decide)).symm.trans h) (by decide)) (fun h=>absurd ((two k1 (by decide)).symm.trans h) (by decide)) (fun h=>absurd ((two k1 (by decide)).symm.trans h) (by decide)) (fun _=>rfl) (fun h=>absurd ((two k1 (by decide)).symm.trans h) (by decide)) (fun h=>absurd ((two k1 (by decide)).symm.trans h) (by decide)) (fun v hv h=>absurd ((hno v hv).symm.trans h) (by decide)) (fun _ _ _ h _ _ _=>absurd (h.symm.trans k1) (by decide))
  rw [er]
  have hnx:=bE k1
  refine iCall ((gS wa1).mono ?_)
  rintro v w4 ⟨h5,ho5⟩
  exact ⟨ha1.ext h5,aL cb1 h5,ho5.mono cb1.size⟩
 rw [k1,if_neg (by decide)] at ha1
 refine iCndF rfl ?_
 refine iCall ((bO 84 (by decide) (by omega) ha1).mono ?_)
 rintro _ wa2 ⟨rfl,ha2,ca2⟩
 have cb2:=aE cb1 ca2
 cases k2:tk 84 s
 rotate_left
 ·rw [k2,if_pos rfl] at ha2
  refine iCndT rfl ?_
  have er:rdL 3 .fls s = (.imp .fls .fls,nx s):=rdL3 (Q:=fun x=>x = _) (fun h=>absurd ((two k2 (by decide)).symm.trans h) (by decide)) (fun h=>absurd ((two k2 (by decide)).symm.trans h) (by decide)) (fun h=>absurd ((two k2 (by decide)).symm.trans h) (by decide)) (fun h=>absurd (k1.symm.trans h) (by decide)) (fun _=>rfl) (fun h=>absurd ((two k2 (by decide)).symm.trans h) (by decide)) (fun v hv h=>absurd ((hno v hv).symm.trans h) (by decide)) (fun _ _ _ _ h _ _=>absurd (h.symm.trans k2) (by decide))
  rw [er]
  have hnx:=bE k2
  refine iCall ((zU wa2).mono ?_)
  rintro v w4 ⟨h5,ho5⟩
  exact ⟨ha2.ext h5,aL cb2 h5,ho5.mono cb2.size⟩
 rw [k2,if_neg (by decide)] at ha2
 refine iCndF rfl ?_
 refine iCall ((bO 126 (by decide) (by omega) ha2).mono ?_)
 rintro _ wa3 ⟨rfl,ha3,ca3⟩
 have cb3:=aE cb2 ca3
 cases k3:tk 126 s
 rotate_left
 ·rw [k3,if_pos rfl] at ha3
  refine iCndT rfl ?_
  have er:rdL 3 .fls s = (.imp (rdL 3 .fls (nx s)).1 .fls,(rdL 3 .fls (nx s)).2):=rdL3 (Q:=fun x=>x = _) (fun _=>rfl) (fun h=>absurd ((two k3 (by decide)).symm.trans h) (by decide)) (fun h=>absurd ((two k3 (by decide)).symm.trans h) (by decide)) (fun h=>absurd (k1.symm.trans h) (by decide)) (fun h=>absurd (k2.symm.trans h) (by decide)) (fun h=>absurd ((two k3 (by decide)).symm.trans h) (by decide)) (fun v hv h=>absurd ((hno v hv).symm.trans h) (by decide)) (fun h _ _ _ _ _ _=>absurd (h.symm.trans k3) (by decide))
  rw [er]
  have hnx:=bE k3
  refine iCall ((hpre e b t _ wa3 ht ha3 (by rw [fl3];omega)).mono ?_)
  rintro v w5 ⟨h5,hc5,ho5⟩
  have hz:=cQ 3 .fls (nx s)
  refine iCall ((mI ho5.sl (by omega)).mono ?_)
  rintro v w6 ⟨h6,ho6⟩
  have hcc:=aE cb3 hc5
  exact ⟨h5.ext h6,aL hcc h6,ho6.mono hcc.size⟩
 rw [k3,if_neg (by decide)] at ha3
 refine iCndF rfl ?_
 refine iCall ((bO 91 (by decide) (by omega) ha3).mono ?_)
 rintro _ wa4 ⟨rfl,ha4,ca4⟩
 have cb4:=aE cb3 ca4
 cases k4:tk 91 s
 rotate_left
 ·rw [k4,if_pos rfl] at ha4
  refine iCndT rfl ?_
  have er:rdL 3 .fls s = (.box (rdL 3 .fls (ndd 93 (nx s))).1,(rdL 3 .fls (ndd 93 (nx s))).2):=rdL3 (Q:=fun x=>x = _) (fun h=>absurd (k3.symm.trans h) (by decide)) (fun _=>rfl) (fun h=>absurd ((two k4 (by decide)).symm.trans h) (by decide)) (fun h=>absurd (k1.symm.trans h) (by decide)) (fun h=>absurd (k2.symm.trans h) (by decide)) (fun h=>absurd ((two k4 (by decide)).symm.trans h) (by decide)) (fun v hv h=>absurd ((hno v hv).symm.trans h) (by decide)) (fun _ h _ _ _ _ _=>absurd (h.symm.trans k4) (by decide))
  rw [er]
  have hnx:=bE k4
  have hnd:=mP 93 (nx s)
  refine iCall ((pT 93 (by decide) (by omega) ha4).mono ?_)
  rintro _ w4 ⟨h4,hc4⟩
  refine iCall ((hpre e b t _ w4 ht h4 (by rw [fl3];omega)).mono ?_)
  rintro v w5 ⟨h5,hc5,ho5⟩
  have hz:=cQ 3 .fls (ndd 93 (nx s))
  refine iCall ((rW (c:=.box (rdL 3 .fls (ndd 93 (nx s))).1) (k:=5) rfl rfl ho5.sl (by show 1 + _ ≤ _;omega)).mono ?_)
  rintro v w6 ⟨h6,ho6⟩
  have hcc:=aE cb4 (aE hc4 hc5)
  exact ⟨h5.ext h6,aL hcc h6,ho6.mono hcc.size⟩
 rw [k4,if_neg (by decide)] at ha4
 refine iCndF rfl ?_
 refine iCall ((bO 60 (by decide) (by omega) ha4).mono ?_)
 rintro _ wa5 ⟨rfl,ha5,ca5⟩
 have cb5:=aE cb4 ca5
 cases k5:tk 60 s
 rotate_left
 ·rw [k5,if_pos rfl] at ha5
  refine iCndT rfl ?_
  have er:rdL 3 .fls s = (.dia (rdL 3 .fls (ndd 62 (nx s))).1,(rdL 3 .fls (ndd 62 (nx s))).2):=rdL3 (Q:=fun x=>x = _) (fun h=>absurd (k3.symm.trans h) (by decide)) (fun h=>absurd (k4.symm.trans h) (by decide)) (fun _=>rfl) (fun h=>absurd (k1.symm.trans h) (by decide)) (fun h=>absurd (k2.symm.trans h) (by decide)) (fun h=>absurd ((two k5 (by decide)).symm.trans h) (by decide)) (fun v hv h=>absurd ((hno v hv).symm.trans h) (by decide)) (fun _ _ h _ _ _ _=>absurd (h.symm.trans k5) (by decide))
  rw [er]
  have hnx:=bE k5
  have hnd:=mP 62 (nx s)
  refine iCall ((pT 62 (by decide) (by omega) ha5).mono ?_)
  rintro _ w4 ⟨h4,hc4⟩
  refine iCall ((hpre e b t _ w4 ht h4 (by rw [fl3];omega)).mono ?_)
  rintro v w5 ⟨h5,hc5,ho5⟩
  have hz:=cQ 3 .fls (ndd 62 (nx s))
  refine iCall ((rW (c:=.dia (rdL 3 .fls (ndd 62 (nx s))).1) (k:=6) rfl rfl ho5.sl (by show 1 + _ ≤ _;omega)).mono ?_)
  rintro v w6 ⟨h6,ho6⟩
  have hcc:=aE cb5 (aE hc4 hc5)
  exact ⟨h5.ext h6,aL hcc h6,ho6.mono hcc.size⟩
 rw [k5,if_neg (by decide)] at ha5
 refine iCndF rfl ?_
 refine iCall ((bO 40 (by decide) (by omega) ha5).mono ?_)
 rintro _ wa6 ⟨rfl,ha6,ca6⟩
 have cb6:=aE cb5 ca6
 cases k6:tk 40 s
 rotate_left
 ·rw [k6,if_pos rfl] at ha6
  refine iCndT rfl ?_
  have er:rdL 3 .fls s = ((rdL 0 .fls (nx s)).1,ndd 41 (rdL 0 .fls (nx s)).2):=rdL3 (Q:=fun x=>x = _) (fun h=>absurd (k3.symm.trans h) (by decide)) (fun h=>absurd (k4.symm.trans h) (by decide)) (fun h=>absurd (k5.symm.trans h) (by decide)) (fun h=>absurd (k1.symm.trans h) (by decide)) (fun h=>absurd (k2.symm.trans h) (by decide)) (fun _=>rfl) (fun v hv h=>absurd ((hno v hv).symm.trans h) (by decide)) (fun _ _ _ _ _ h _=>absurd (h.symm.trans k6) (by decide))
  rw [er]
  have hnx:=bE k6
  refine iCall ((him e b t _ wa6 ht ha6 (by rw [fl0];omega)).mono ?_)
  rintro v w6 ⟨h6,hc6,ho6⟩
  refine iCall ((pT 41 (by decide) (by omega) h6).mono ?_)
  rintro _ w7 ⟨h7,hc7⟩
  exact ⟨h7,aE cb6 (aE hc6 hc7),(ho6.ch hc7 (i4 h ho6 cb6.size)).mono cb6.size⟩
 rw [k6,if_neg (by decide)] at ha6
 refine iCndF rfl ?_
 have er:rdL 3 .fls s = (.fls,(s.1,true)):=rdL3 (Q:=fun x=>x = _) (fun h=>absurd (k3.symm.trans h) (by decide)) (fun h=>absurd (k4.symm.trans h) (by decide)) (fun h=>absurd (k5.symm.trans h) (by decide)) (fun h=>absurd (k1.symm.trans h) (by decide)) (fun h=>absurd (k2.symm.trans h) (by decide)) (fun h=>absurd (k6.symm.trans h) (by decide)) (fun v hv h=>absurd ((hno v hv).symm.trans h) (by decide)) (fun _ _ _ _ _ _ _=>rfl)
 rw [er]
 obtain ⟨k,_,_,hB⟩:=id ha6
 ((with_reducible refine iNil ?_;refine iFa ?_))
 refine iStB hB (by simp) rfl fun _=>?_
 have hu:=Upd.setCell wa6 b 2 (.bool true)
 refine iCall ((gS _).mono ?_)
 rintro v w4 ⟨h5,ho5⟩
 have hcu:=cb6.trans (hu.ch (S:=fun x=>x = b) rfl) (fun _ h=>.inl h)
 exact ⟨(RdS.bad ha6).ext h5,aL hcu h5,ho5.mono hcu.size⟩
theorem RY:∀ m,Rds fR 0 m ∧ Rds pM 1 m ∧ Rds oC 2 m ∧ Rds gU 3 m
 | 0=>⟨fun _ _ _ _ _ _ _ h=>by rw [fl0] at h;omega,fun _ _ _ _ _ _ _ h=>by rw [fl1] at h;omega,fun _ _ _ _ _ _ _ h=>by rw [fl2] at h;omega,fun _ _ _ _ _ _ _ h=>by rw [fl3] at h;omega⟩
 | m + 1=>
  have h:=RY m
  ⟨JQ h.2.1 h.1,O7 h.2.2.1,MJ h.2.2.2,HA h.2.2.2 h.1⟩
theorem JA {e:TypeId} {b:Nat} {t:Str} {s:RSt} {w:World} (ht:t.length ≤ 4194304) (h:RdS e b t s w):Cal Tryz.prog fR #[.pointer (some ⟨b,0,none⟩)] w (ReadQ e b t aW (rdL 0 .fls s) w):=
 (RY _).1 e b t s w ht h (Nat.le_refl _)
theorem KB {t:Str} (ht:t.length ≤ 4194304) (w:World):Cal Tryz.prog BI #[sv t] w fun r w'=>Ext w w' ∧ ∃ v,r = .tuple #[v,.int .i64 (if rdOk t then -1 else (rdAt t:Int))] ∧ (rdOk t = true → FmW w.heap.size w' v (rd t).1) ∧ (rdOk t = false → v = .slice none 0 0):=by
 apply NO;unfold C0
 refine j4 (cs:=#[sv t,.int .i64 0,.bool false]) (by simp [Instr.fill,Value.cells]) ?_
 refine iNew fun b w1 hb h1 hB=>?_
 obtain ⟨e,hB⟩:∃ e,Blk e w1 b [sv t,.int .i64 0,.bool false]:=⟨_,hB⟩
 refine iCall ((JA ht (RdS.new hB)).mono ?_)
 rintro v w2 ⟨h2,hc2,ho2⟩
 rw [← T0] at h2 ho2
 have hX2:Ext w w2:=h1.thenCh hc2 (fun c hc=>by omega)
 have hB2:=h2.place
 have hrl:=S5 t
 have hlt:decide (((t.length - (rd t).2.1.length:Nat):Int) < (t.length:Nat)) = !decide ((rd t).2.1 = []):=by
  cases hr:(rd t).2.1 with
  | nil=>simp
  | cons x l=>rw [hr] at hrl;simp only [List.length_cons] at hrl ⊢;rw [decide_eq_true (by omega)];rfl
 have hor:rdOk t = !((rd t).2.2 || !decide ((rd t).2.1 = [])):=by unfold rdOk;rw [Bool.not_or,Bool.not_not]
 refine iJnB ((rd t).2.2 || !decide ((rd t).2.1 = [])) w2 (fun J hJ=>?_) (fun w4 h4=>?_)
 ·((with_reducible refine iNil ?_;refine iFa ?_);refine iLdB (by assumption) (by first | rfl | simp) ?_)
  cases hb2:(rd t).2.2
  ·rw [hb2,Bool.false_or] at hJ
   refine iCndF rfl ?_
   ((with_reducible refine iNil ?_;refine iFa ?_);refine iLdB (by assumption) (by first | rfl | simp) ?_)
   refine iLenT ?_
   ((with_reducible refine iLt ?_))
   rw [hlt]
   exact hJ w2 (Ext.refl _)
  ·rw [hb2,Bool.true_or] at hJ
   exact iCndT rfl (hJ w2 (Ext.refl _))
 ·intro _
  have hB4:=hB2.ext h4
  cases hk:rdOk t
  ·refine iCndT (by show ((rd t).2.2 || !decide ((rd t).2.1 = [])) = true;rw [hk] at hor;rwa [Eq.comm,Bool.not_eq_false'] at hor) ?_
   ((with_reducible refine iNil ?_;refine iFa ?_);refine iLdB (by assumption) (by first | rfl | simp) ?_)
   intro w5 h5
   exact ⟨hX2.trans (h4.trans h5),_,rfl,(fun h=>by cases h),fun _=>rfl⟩
  ·refine iCndF (by show ((rd t).2.2 || !decide ((rd t).2.1 = [])) = false;rw [hk] at hor;rwa [Eq.comm,Bool.not_eq_true'] at hor) ?_
   exact ⟨hX2.trans h4,v,rfl,fun _=>(ho2.mono h1.size).ext h4,fun h=>by cases h⟩
end Go.Proofs.YtkjoppimpmojfaaGreat





namespace Go.Vc
/-! ### Rows of strings -/
def strs (L:List Str):List Value:=L.map sv
theorem aI (L:List Str):(strs L).length = L.length:=List.length_map _
theorem s4 (L:List Str) (s:Str):strs L ++ [sv s] = strs (L ++ [s]):=by simp [strs]
abbrev SlT (w:World) (v:Value) (L:List Str):Prop:=Sl w v (strs L)
theorem iIaT {w:World} {v:Value} {L:List Str} {j:Nat} {k:IntKind} {K:Value → Prop} (hs:SlT w v L) (hj:j < L.length) (h:∀ p,w.cell? p = some (sv L[j]) → K (.pointer (some p))):xIa 1 v (.int k (j:Int)) K:=by
 refine iIa hs (by omega) (by rw [aI];omega) fun p hp=>h p (hp.trans ?_)
 rw [Int.toNat_natCast]
 simp [strs,hj]
theorem aM {w:World} {v:Value} {L:List Str} {K:Value → Prop} (hs:SlT w v L) (h:K (.int .i64 (L.length:Nat))):xLenS v K:=iLenS hs (by rw [aI];exact h)
theorem l3 (L:List Str):∀ u ∈ strs L,aD u = true:=by
 intro u hu
 obtain ⟨s,_,rfl⟩:=List.mem_map.1 hu
 rfl
end Go.Vc


namespace Go.Vc
universe u
section
variable {α:Type u} [Inhabited α]
def gt (L:List α) (k:Nat):α:=L.getD k default
theorem gt_eq {L:List α} {k:Nat} (h:k < L.length):gt L k = L[k]:=by unfold gt;simp [List.getD_eq_getElem?_getD,h]
theorem QD {L:List α} {i:Nat} (x:α) (hi:i < L.length) (k:Nat):gt (L.set i x) k = if k = i then x else gt L k:=by
 unfold gt
 simp only [List.getD_eq_getElem?_getD,List.getElem?_set]
 by_cases h:i = k
 ·subst h;simp [hi]
 ·simp [h,Ne.symm h]
def sw (L:List α) (i j:Nat):List α:=(L.set i (gt L j)).set j (gt L i)
theorem WR (L:List α) (i j:Nat):(sw L i j).length = L.length:=by simp [sw]
theorem gt_sw {L:List α} {i j:Nat} (hi:i < L.length) (hj:j < L.length) (k:Nat):gt (sw L i j) k = if k = j then gt L i else if k = i then gt L j else gt L k:=by
 unfold sw
 rw [QD _ (by simpa using hj),QD _ hi]
theorem VU {L:List α} {i j:Nat} (hi:i < L.length) (hj:j < L.length):List.Perm (sw L i j) L:=by
 unfold sw
 rw [gt_eq hi,gt_eq hj]
 exact List.set_set_perm hi hj
inductive SwR (a b:Nat) (L:List α):List α → Prop
 | refl:SwR a b L L
 | step {L':List α} {i j:Nat}:SwR a b L L' → a ≤ i → i < b → a ≤ j → j < b → b ≤ L.length → SwR a b L (sw L' i j)
theorem SwR.len {a b:Nat} {L L':List α} (h:SwR a b L L'):L'.length = L.length:=by
 induction h with
 | refl=>rfl
 | step _ _ _ _ _ _ ih=>rw [WR,ih]
theorem SwR.perm {a b:Nat} {L L':List α} (h:SwR a b L L'):List.Perm L' L:=by
 induction h with
 | refl=>exact List.Perm.refl _
 | step hs _ _ _ _ _ ih=>exact (VU (by rw [hs.len];omega) (by rw [hs.len];omega)).trans ih
theorem SwR.trans {a b:Nat} {L L' L'':List α} (h:SwR a b L L') (k:SwR a b L' L''):SwR a b L L'':=by
 induction k with
 | refl=>exact h
 | step _ h1 h2 h3 h4 h5 ih=>exact .step ih h1 h2 h3 h4 (by rw [← h.len];exact h5)
theorem SwR.mono {a b a' b':Nat} {L L':List α} (h:SwR a b L L') (ha:a' ≤ a) (hb:b ≤ b') (hl:b' ≤ L.length):SwR a' b' L L':=by
 induction h with
 | refl=>exact .refl
 | step _ h1 h2 h3 h4 _ ih=>exact .step ih (by omega) (by omega) (by omega) (by omega) hl
theorem SwR.out {a b:Nat} {L L':List α} (h:SwR a b L L') {k:Nat} (hk:k < a ∨ b ≤ k):gt L' k = gt L k:=by
 induction h with
 | refl=>rfl
 | step hs h1 h2 h3 h4 h5 ih=>rw [gt_sw (by rw [hs.len];omega) (by rw [hs.len];omega),if_neg (by omega),if_neg (by omega),ih]
theorem SwR.all {a b:Nat} {L L':List α} (h:SwR a b L L') {p:α → Prop} (hp:∀ k,a ≤ k → k < b → p (gt L k)):∀ k,a ≤ k → k < b → p (gt L' k):=by
 induction h with
 | refl=>exact hp
 | step hs h1 h2 h3 h4 h5 ih=>
  intro k hk hk'
  rw [gt_sw (by rw [hs.len];omega) (by rw [hs.len];omega)]
  split
  ·exact ih _ h1 h2
  ·split
   ·exact ih _ h3 h4
   ·exact ih _ hk hk'
theorem SwR.one {a b i j:Nat} {L:List α} (h1:a ≤ i) (h2:i < b) (h3:a ≤ j) (h4:j < b) (h5:b ≤ L.length):SwR a b L (sw L i j):=.step .refl h1 h2 h3 h4 h5
structure Ordr (lt:α → α → Bool):Prop where
 asym:∀ {a b},lt a b = true → lt b a = false
 tr:∀ {a b c},lt b a = false → lt c b = false → lt c a = false
variable {lt:α → α → Bool}
 omit [Inhabited α] in
theorem Ordr.rfl (O:Ordr lt) (a:α):lt a a = false:=by
  cases h:lt a a
  ·exact Eq.refl _
  ·have:=O.asym h;rw [h] at this;exact this
 omit [Inhabited α] in
theorem Ordr.lt_le (O:Ordr lt) {a b c:α} (h:lt a b = true) (k:lt c b = false):lt a c = true:=by
  cases h':lt a c
  ·have:=O.tr (a:=b) (b:=c) (c:=a) k h';rw [h] at this;cases this
  ·exact Eq.refl _
 omit [Inhabited α] in
def Srt (lt:α → α → Bool) (a b:Nat) (L:List α):Prop:=∀ p q,a ≤ p → p < q → q < b → lt (gt L q) (gt L p) = false
theorem Srt.mono {a b a' b':Nat} {L:List α} (h:Srt lt a b L) (ha:a ≤ a') (hb:b' ≤ b):Srt lt a' b' L:=fun p q h1 h2 h3=>h p q (by omega) h2 (by omega)
theorem Srt.short {a b:Nat} {L:List α} (h:b ≤ a + 1):Srt lt a b L:=fun p q h1 h2 h3=>by omega
theorem Srt.out {a b c d:Nat} {L L':List α} (h:Srt lt a b L) (hs:SwR c d L L') (hd:d ≤ a ∨ b ≤ c):Srt lt a b L':=fun p q h1 h2 h3=>by
 rw [hs.out (by omega),hs.out (by omega)];exact h p q h1 h2 h3
/-! ### Insertion -/
def Ins (lt:α → α → Bool) (a i j:Nat) (L:List α):Prop:=∀ p q,a ≤ p → p < q → q ≤ i → q ≠ j → lt (gt L q) (gt L p) = false
theorem Ins.init {a i:Nat} {L:List α} (h:Srt lt a i L):Ins lt a i i L:=fun p q h1 h2 h3 h4=>h p q h1 h2 (by omega)
theorem Ins.done (O:Ordr lt) {a i j:Nat} {L:List α} (h:Ins lt a i j L) (hj:j ≤ a ∨ (a < j ∧ lt (gt L j) (gt L (j - 1)) = false)) (hji:j ≤ i):Srt lt a (i + 1) L:=fun p q h1 h2 h3=>by
 by_cases hq:q = j
 ·subst hq
  rcases hj with hj | ⟨h4,h5⟩
  ·omega
  ·by_cases hp:p = q - 1
   ·subst hp;exact h5
   ·exact O.tr (h p (q - 1) h1 (by omega) (by omega) (by omega)) h5
 ·exact h p q h1 h2 (by omega) hq
theorem Ins.swap (O:Ordr lt) {a i j:Nat} {L:List α} (h:Ins lt a i j L) (haj:a < j) (hji:j ≤ i) (hi:i < L.length) (hlt:lt (gt L j) (gt L (j - 1)) = true):Ins lt a i (j - 1) (sw L j (j - 1)):=fun p q h1 h2 h3 h4=>by
 rw [gt_sw (by omega) (by omega),gt_sw (by omega) (by omega)]
 rw [if_neg h4]
 by_cases hq:q = j
 ·subst hq
  rw [if_pos rfl]
  by_cases hp:p = q - 1
  ·rw [if_pos hp];exact O.asym hlt
  ·rw [if_neg hp,if_neg (by omega)];exact h p (q - 1) h1 (by omega) (by omega) (by omega)
 ·rw [if_neg hq]
  by_cases hp:p = j - 1
  ·rw [if_pos hp];exact h j q (by omega) (by omega) h3 hq
  ·rw [if_neg hp]
   by_cases hp2:p = j
   ·rw [if_pos hp2];exact h (j - 1) q (by omega) (by omega) h3 hq
   ·rw [if_neg hp2];exact h p q h1 h2 h3 hq
/-! ### Heaps -/
def Heap (lt:α → α → Bool) (first lo hi:Nat) (L:List α):Prop:=∀ p c,lo ≤ p → (c = 2 * p + 1 ∨ c = 2 * p + 2) → c < hi → lt (gt L (first + p)) (gt L (first + c)) = false
def Sift (lt:α → α → Bool) (first lo hi r:Nat) (L:List α):Prop:=
 (∀ p c,lo ≤ p → p ≠ r → (c = 2 * p + 1 ∨ c = 2 * p + 2) → c < hi → lt (gt L (first + p)) (gt L (first + c)) = false) ∧
 (∀ p c,lo ≤ p → (r = 2 * p + 1 ∨ r = 2 * p + 2) → (c = 2 * r + 1 ∨ c = 2 * r + 2) → c < hi → lt (gt L (first + p)) (gt L (first + c)) = false)
theorem Sift.init {first lo hi:Nat} {L:List α} (h:Heap lt first (lo + 1) hi L):Sift lt first lo hi lo L:=
 ⟨fun p c h1 h2 h3 h4=>h p c (by omega) h3 h4,fun p c h1 h2 h3 h4=>by omega⟩
theorem Sift.done {first lo hi r:Nat} {L:List α} (h:Sift lt first lo hi r L) (hr:∀ c,(c = 2 * r + 1 ∨ c = 2 * r + 2) → c < hi → lt (gt L (first + r)) (gt L (first + c)) = false):Heap lt first lo hi L:=fun p c h1 h2 h3=>by
 by_cases hp:p = r
 ·subst hp;exact hr c h2 h3
 ·exact h.1 p c h1 hp h2 h3
theorem Sift.swap (O:Ordr lt) {first lo hi r c:Nat} {L:List α} (h:Sift lt first lo hi r L) (hlo:lo ≤ r) (hc:c = 2 * r + 1 ∨ c = 2 * r + 2) (hch:c < hi) (hl:first + hi ≤ L.length)
  (hlt:lt (gt L (first + r)) (gt L (first + c)) = true) (hmax:∀ d,(d = 2 * r + 1 ∨ d = 2 * r + 2) → d < hi → lt (gt L (first + c)) (gt L (first + d)) = false):
  Sift lt first lo hi c (sw L (first + r) (first + c)):=by
 have e:∀ k,k < hi → gt (sw L (first + r) (first + c)) (first + k) = if k = c then gt L (first + r) else if k = r then gt L (first + c) else gt L (first + k):=fun k hk=>by
  rw [gt_sw (by omega) (by omega)]
  simp only [Nat.add_left_cancel_iff]
 constructor
 ·intro p d h1 h2 h3 h4
  rw [e p (by omega),e d h4,if_neg h2]
  by_cases hp:p = r
  ·subst hp
   rw [if_pos rfl]
   by_cases hd:d = c
   ·rw [if_pos hd];exact O.asym hlt
   ·rw [if_neg hd,if_neg (by omega)];exact hmax d h3 h4
  ·rw [if_neg hp]
   have hdc:d ≠ c:=by omega
   rw [if_neg hdc]
   by_cases hd:d = r
   ·rw [if_pos hd];subst hd;exact h.2 p c h1 h3 hc hch
   ·rw [if_neg hd];exact h.1 p d h1 hp h3 h4
 ·intro p d h1 h2 h3 h4
  have hp:p = r:=by omega
  subst hp
  rw [e p (by omega),e d h4,if_neg (by omega),if_pos rfl,if_neg (by omega),if_neg (by omega)]
  exact h.1 c d (by omega) (by omega) h3 h4
theorem Heap.top (O:Ordr lt) {first hi:Nat} {L:List α} (h:Heap lt first 0 hi L):∀ k,k < hi → lt (gt L first) (gt L (first + k)) = false:=by
 intro k
 induction k using Nat.strongRecOn with
 | ind k ih=>
  intro hk
  by_cases h0:k = 0
  ·subst h0;exact O.rfl _
  ·exact O.tr (h ((k - 1) / 2) k (Nat.zero_le _) (by omega) hk) (ih ((k - 1) / 2) (by omega) (by omega))
/-! ### Windows -/
def Crs (lt:α → α → Bool) (a0 b0 a b:Nat) (L:List α):Prop:=∀ p q,a0 ≤ p → p < q → q < b0 → ¬ (a ≤ p ∧ q < b) → lt (gt L q) (gt L p) = false
def Blw (lt:α → α → Bool) (a b:Nat) (L:List α):Prop:=∀ k,a ≤ k → k < b → 1 ≤ a → lt (gt L k) (gt L (a - 1)) = false
theorem Crs.all {a b:Nat} {L:List α}:Crs lt a b a b L:=fun _ _ h1 _ h3 h4=>(h4 ⟨h1,h3⟩).elim
theorem Crs.keep {a0 b0 a b:Nat} {L L':List α} (h:Crs lt a0 b0 a b L) (hs:SwR a b L L') (ha:a0 ≤ a) (hb:b ≤ b0):Crs lt a0 b0 a b L':=fun p q h1 h2 h3 h4=>by
 by_cases hp:a ≤ p ∧ p < b
 ·rw [hs.out (k:=q) (by omega)]
  exact hs.all (p:=fun x=>lt (gt L q) x = false) (fun k hk hk'=>h k q (by omega) (by omega) h3 (by omega)) p hp.1 hp.2
 ·rw [hs.out (k:=p) (by omega)]
  by_cases hq:a ≤ q ∧ q < b
  ·exact hs.all (p:=fun x=>lt x (gt L p) = false) (fun k hk hk'=>h p k h1 (by omega) (by omega) (by omega)) q hq.1 hq.2
  ·rw [hs.out (k:=q) (by omega)];exact h p q h1 h2 h3 h4
theorem Crs.done {a0 b0 a b:Nat} {L L':List α} (h:Crs lt a0 b0 a b L) (hs:SwR a b L L') (ha:a0 ≤ a) (hb:b ≤ b0) (k:Srt lt a b L'):Srt lt a0 b0 L':=fun p q h1 h2 h3=>by
 by_cases hw:a ≤ p ∧ q < b
 ·exact k p q hw.1 h2 hw.2
 ·exact h.keep hs ha hb p q h1 h2 h3 hw
theorem Blw.keep {a b a' b':Nat} {L L':List α} (h:Blw lt a b L) (hs:SwR a' b' L L') (ha:a ≤ a') (hb:b' ≤ b):Blw lt a b L':=fun k h1 h2 h3=>by
 rw [hs.out (k:=a - 1) (by omega)]
 by_cases hk:a' ≤ k ∧ k < b'
 ·exact hs.all (p:=fun x=>lt x (gt L (a - 1)) = false) (fun k hk hk'=>h k (by omega) (by omega) h3) k hk.1 hk.2
 ·rw [hs.out (k:=k) (by omega)];exact h k h1 h2 h3
theorem Blw.low {a b m:Nat} {L:List α} (h:Blw lt a b L) (hm:m ≤ b):Blw lt a m L:=fun k h1 h2 h3=>h k h1 (by omega) h3
def iU (lt:α → α → Bool) (a b m:Nat) (L:List α):Prop:=(∀ k,a ≤ k → k < m → lt (gt L k) (gt L m) = true) ∧ ∀ k,m < k → k < b → lt (gt L k) (gt L m) = false
theorem iU.lowS {a b m:Nat} {L L':List α} (h:iU lt a b m L) (hs:SwR a m L L'):iU lt a b m L':=
 ⟨fun k h1 h2=>by rw [hs.out (k:=m) (by omega)];exact hs.all (p:=fun x=>lt x (gt L m) = true) h.1 k h1 h2,
  fun k h1 h2=>by rw [hs.out (k:=m) (by omega),hs.out (k:=k) (by omega)];exact h.2 k h1 h2⟩
theorem iU.highS {a b m:Nat} {L L':List α} (h:iU lt a b m L) (hs:SwR (m + 1) b L L'):iU lt a b m L':=
 ⟨fun k h1 h2=>by rw [hs.out (k:=m) (by omega),hs.out (k:=k) (by omega)];exact h.1 k h1 h2,
  fun k h1 h2=>by rw [hs.out (k:=m) (by omega)];exact hs.all (p:=fun x=>lt x (gt L m) = false) (fun k h1 h2=>h.2 k (by omega) h2) k (by omega) h2⟩
theorem iU.blw {a b m:Nat} {L:List α} (h:iU lt a b m L):Blw lt (m + 1) b L:=fun k h1 h2 _=>h.2 k (by omega) h2
theorem iU.up (O:Ordr lt) {a0 b0 a b m:Nat} {L:List α} (h:iU lt a b m L) (hc:Crs lt a0 b0 a b L) (hs:Srt lt a m L):Crs lt a0 b0 (m + 1) b L:=fun p q h1 h2 h3 h4=>by
 by_cases hw:a ≤ p ∧ q < b
 ·rcases Nat.lt_trichotomy q m with hq | hq | hq
  ·exact hs p q hw.1 h2 hq
  ·subst hq;exact O.asym (h.1 p hw.1 h2)
  ·rcases Nat.lt_trichotomy p m with hp | hp | hp
   ·exact O.tr (O.asym (h.1 p hw.1 hp)) (h.2 q hq hw.2)
   ·subst hp;exact h.2 q hq hw.2
   ·omega
 ·exact hc p q h1 h2 h3 hw
theorem iU.down (O:Ordr lt) {a0 b0 a b m:Nat} {L:List α} (h:iU lt a b m L) (hc:Crs lt a0 b0 a b L) (hs:Srt lt (m + 1) b L):Crs lt a0 b0 a m L:=fun p q h1 h2 h3 h4=>by
 by_cases hw:a ≤ p ∧ q < b
 ·rcases Nat.lt_trichotomy p m with hp | hp | hp
  ·rcases Nat.lt_trichotomy q m with hq | hq | hq
   ·omega
   ·subst hq;exact O.asym (h.1 p hw.1 h2)
   ·exact O.tr (O.asym (h.1 p hw.1 hp)) (h.2 q hq hw.2)
  ·subst hp;exact h.2 q h2 hw.2
  ·exact hs p q hp h2 hw.2
 ·exact hc p q h1 h2 h3 hw
theorem UF (O:Ordr lt) {a0 b0 a b m:Nat} {L:List α} {x:α} (hc:Crs lt a0 b0 a b L) (hx:∀ k,a ≤ k → k < b → lt (gt L k) x = false) (h1:∀ k,a ≤ k → k < m → lt x (gt L k) = false) (_:m ≤ b):Crs lt a0 b0 m b L:=fun p q g1 g2 g3 g4=>by
 by_cases hw:a ≤ p ∧ q < b
 ·exact O.tr (h1 p hw.1 (by omega)) (hx q (by omega) hw.2)
 ·exact hc p q g1 g2 g3 hw
theorem TU (O:Ordr lt) {a b m:Nat} {L:List α} {x:α} (hx:∀ k,a ≤ k → k < b → lt (gt L k) x = false) (h1:∀ k,a ≤ k → k < m → lt x (gt L k) = false) (ham:a < m):Blw lt m b L:=fun k g1 g2 _=>
 O.tr (h1 (m - 1) (by omega) (by omega)) (hx k (by omega) g2)
theorem Srt.pairwise {L:List α} (h:Srt lt 0 L.length L):L.Pairwise fun x y=>lt y x = false:=by
 rw [List.pairwise_iff_getElem]
 intro i j hi hj hij
 rw [← gt_eq hi,← gt_eq hj]
 exact h i j (Nat.zero_le _) hij hj
theorem ordrS:Ordr ltS:=⟨OB,fun {a b c} h k=>by
 cases h':ltS c a
 ·rfl
 ·rcases zQ b c with e | e | e
  ·have:=zD e h';rw [h] at this;cases this
  ·subst e;rw [h] at h';cases h'
  ·rw [k] at e;cases e⟩
end
end Go.Vc

namespace Go.Vc
section
universe u
variable {α:Type u} {enc:α → Value} {P:Program}
structure Turn (lo:Nat) (e:TypeId) (enc:α → Value) (v:Value) (w w':World) (L':List α):Prop where
 ow:Ow lo e w' v (L'.map enc)
 ch:Ch (fun c=>v.ownBlock = some c) w w'
theorem Turn.refl {lo:Nat} {e:TypeId} {v:Value} {w:World} {L:List α} (h:Ow lo e w v (L.map enc)):Turn lo e enc v w w L:=⟨h,(Ext.refl w).ch⟩
theorem Turn.ext {lo:Nat} {e:TypeId} {v:Value} {w w' w'':World} {L:List α} (h:Turn lo e enc v w w' L) (k:Ext w' w''):Turn lo e enc v w w'' L:=
 ⟨h.ow.ext k,h.ch.trans (k.ch (S:=fun _=>False)) fun _ e=>e.elim⟩
theorem Turn.trans {lo:Nat} {e:TypeId} {v:Value} {w w' w'':World} {L L':List α} (h:Turn lo e enc v w w' L) (k:Turn lo e enc v w' w'' L'):Turn lo e enc v w w'' L':=
 ⟨k.ow,h.ch.trans k.ch fun _ e=>.inl e⟩
theorem iRdO [Inhabited α] {lo:Nat} {e:TypeId} {w:World} {v:Value} {L:List α} {z:Int} {j:Nat} {k:IntKind} {K:Value → Prop} (hs:Ow lo e w v (L.map enc)) (hz:z = (j:Int)) (hj:j < L.length) (h:K (enc (gt L j))):xIa 1 v (.int k z) fun p=>xLd w p K:=by
 subst hz
 refine iIaOw hs (by omega) (by rw [List.length_map];omega) fun b o _ _ _ hc _ _=>iLd (hc.trans ?_) h
 rw [Int.toNat_natCast,gt_eq hj]
 simp [hj]
theorem iWr2 {lo:Nat} {e:TypeId} {w:World} {v:Value} {L:List α} {z z':Int} {i j:Nat} {k k':IntKind} {x y:α} {K:World → Prop} (hE:∀ x,aD (enc x) = true) (hs:Ow lo e w v (L.map enc)) (hz:z = (i:Int)) (hz':z' = (j:Int)) (hi:i < L.length) (hj:j < L.length)
  (h:∀ w',Turn lo e enc v w w' ((L.set i x).set j y) → K w'):
  xIa 1 v (.int k z) fun p=>∀ w1,Ext w w1 → xSt w1 p (enc x) fun w2=>xIa 1 v (.int k' z') fun q=>∀ w3,Ext w2 w3 → xSt w3 q (enc y) fun w4=>∀ w5,Ext w4 w5 → K w5:=by
 subst hz
 subst hz'
 refine TR hs (by rw [List.length_map];exact hi) fun b hb H=>?_
 intro w1 h1
 obtain ⟨hc,hf,hset⟩:=H w1 _ rfl (hs.ext h1)
 refine iSt (hc.trans (List.getElem?_eq_getElem (by rw [List.length_map];exact hi))) hf (hE x) ?_
 have hs2:=hset (enc x)
 have hc2:Ch (fun c=>v.ownBlock = some c) w (w1.setCell ⟨b,i,none⟩ (enc x)):=(h1.ch (S:=fun c=>v.ownBlock = some c)).trans ((Upd.setCell w1 b i _).ch (S:=fun c=>v.ownBlock = some c) hb) fun _ e=>.inl e
 refine TR hs2 (by rw [List.length_set,List.length_map];exact hj) fun b' hb' H'=>?_
 intro w3 h3
 obtain ⟨hc3,hf3,hset3⟩:=H' w3 _ rfl (hs2.ext h3)
 refine iSt (hc3.trans (List.getElem?_eq_getElem (by rw [List.length_set,List.length_map];exact hj))) hf3 (hE y) ?_
 intro w5 h5
 refine h w5 (Turn.ext ⟨?_,?_⟩ h5)
 ·have:=hset3 (enc y)
  rwa [← List.map_set,← List.map_set] at this
 ·exact (hc2.trans (h3.ch (S:=fun c=>v.ownBlock = some c)) fun _ e=>.inl e).trans ((Upd.setCell w3 b' j _).ch (S:=fun c=>v.ownBlock = some c) hb') fun _ e=>.inl e
end
section
variable {P:Program} {w:World} {lo:Nat} {e:TypeId}
theorem Ow.open {v:Value} {xs:List Value} (hs:Ow lo e w v xs) (hne:xs ≠ []):∃ g cap,v = .slice (some ⟨g,0,none⟩) xs.length cap ∧ xs.length ≤ cap ∧ cap ≤ 9223372036854775807:=by
 obtain ⟨_,⟨_,h0⟩ | ⟨g,cap,cur,hv,_,_,h1,h2,_⟩⟩:=hs
 ·exact absurd (List.length_eq_zero_iff.1 h0) hne
 ·exact ⟨g,cap,hv,h1,h2⟩
theorem Ow.at {g n cap:Nat} {xs:List Value} (hs:Ow lo e w (.slice (some ⟨g,0,none⟩) n cap) xs) (hn:xs.length = n) {j:Nat} (hj:j < n):w.cell? ⟨g,j,none⟩ = xs[j]?:=by
 have h:w.ownsRow lo e 1 (.slice (some ⟨g,0,none⟩) n cap) n xs:=by unfold Ow at hs;rw [hn] at hs;exact hs
 exact h.cellAt j (by omega)
theorem Q8 {g n cap k:Nat} {ki:IntKind} {K:Value → Prop} (hk:k < n) (hc:n ≤ cap) (h:K (.slice (some ⟨g,k,none⟩) (n - k) (cap - k))):xSl 1 (.slice (some ⟨g,0,none⟩) n cap) (some (.int ki (k:Int))) none K:=by
 refine ⟨_,_,_,k,n,rfl,rfl,⟨ki,rfl⟩,by omega,hc,?_⟩
 rw [if_neg (by omega),Option.map_some,dB,Nat.zero_add,Nat.mul_one]
 exact h
theorem VB {g n cap k:Nat} {ki:IntKind} {K:Value → Prop} (hk:k ≤ n) (hc:n ≤ cap) (h:K (.slice (some ⟨g,0,none⟩) k cap)):xSl 1 (.slice (some ⟨g,0,none⟩) n cap) none (some (.int ki (k:Int))) K:=by
 refine ⟨_,_,_,0,k,rfl,⟨ki,rfl⟩,rfl,Nat.zero_le _,by omega,?_⟩
 have e:(if cap = 0 then some (⟨g,0,none⟩:Addr) else (some (⟨g,0,none⟩:Addr)).map (·.add (0 * 1))) = some ⟨g,0,none⟩:=by
  split
  ·rfl
  ·simp [Addr.add]
 rw [e,Nat.sub_zero,Nat.sub_zero]
 exact h
theorem iClr {t ty:TypeId} {z:Value} {bytes g n cap k:Nat} {xs:List Value} {K:Value → World → Prop} (ht:P.underlying t = some (.slice e)) (hi:(P.info? e).map (fun i=>(i.zero,i.size,i.bytes)) = some (some z,1,bytes)) (hz:aD z = true)
  (hs:Ow lo e w (.slice (some ⟨g,0,none⟩) n cap) xs) (hn:xs.length = n) (hk:k < n) (h:∀ w',Ow lo e w' (.slice (some ⟨g,0,none⟩) k cap) (xs.take k) → Ch (fun c=>c = g) w w' → K (.tuple #[]) w'):
  xOp P (Builtin.clear_ #[t] ty #[.slice (some ⟨g,k,none⟩) (n - k) (cap - k)]) w K:=by
 obtain ⟨i,hi,h3⟩:=Option.map_eq_some_iff.1 hi
 simp only [Prod.mk.injEq] at h3
 obtain ⟨hz0,-,-⟩:=h3
 obtain ⟨-,⟨hv,-⟩ | ⟨g',cap',cur,hv,hg,hh,h1,h2,h3,h4⟩⟩:=hs
 ·cases hv
 ·injection hv with e1 e2 e3
  injection e1 with e1
  injection e1 with e1
  subst e1
  subst e3
  rw [hn] at h1 h4
  rw [Nat.mul_one] at h3 h4
  have hzc:(Builtin.zeroCells z.cells (n - k)).toList = List.replicate (n - k) z:=by
   rw [aH hz]
   simp [Builtin.zeroCells]
   apply List.ext_getElem
   ·simp
   ·intro i h1 h2
    simp [Nat.mod_one]
  have hrun:=run_storeCells_at P g k e (List.replicate (n - k) z) 0 cur w hh (by rw [List.length_replicate];omega) (fun v hv=>mM (by rw [List.eq_of_mem_replicate hv];exact hz))
  refine ⟨_,_,?_,h (w.setRow g (cur.toList.take (k + 0) ++ List.replicate (n - k) z ++ cur.toList.drop (k + 0 + (List.replicate (n - k) z).length)).toArray) ?_ ?_⟩
  ·obtain ⟨m,hm⟩:∃ m,n - k = m + 1:=⟨n - k - 1,by omega⟩
   rw [hm] at hrun hzc ⊢
   simp [Builtin.clear_,run_underlying ht,zeroValue,oH hi,hz0,hzc,hrun]
  ·refine ⟨by simp,.inr ⟨g,cap,_,?_,hg,setRow_heap w g cur _ e (0,0) hh,by rw [List.length_take];omega,h2,?_,?_⟩⟩
   ·rw [List.length_take,hn,Nat.min_eq_left (by omega)]
   ·simp;omega
   ·rw [List.length_take,hn,Nat.min_eq_left (by omega),Nat.mul_one,Nat.add_zero,List.take_append_of_le_length (by simp;omega),List.take_append_of_le_length (by simp;omega),List.take_take,Nat.min_self,← h4,List.take_take,Nat.min_eq_left (by omega)]
  ·exact ⟨rfl,rfl,rfl,by rw [setRow_size];exact Nat.le_refl _,fun c _ hc=>setRow_other w g c _ hc⟩
end
end Go.Vc

namespace Go.Proofs.YtkjoppimpmojfaaGreat
open Go.Vc
theorem FE (a:Str) (w:World):Ret Tryz.prog s6 #[sv a] w (.bool false):=by
 apply GQ;unfold sS
 refine iNeT ?_
 rw [show decide (¬ a = a) = false by simp]
 exact ⟨by first | trivial | rfl,Ext.refl _⟩
theorem aR (a b:Str) (w:World):Ret Tryz.prog uF #[sv a,sv b] w (.bool (ltS a b)):=by
 apply HN;unfold tQ
 refine iJnB (ltS a b) w (fun J hJ=>?_) (fun w4 h4=>?_)
 ·refine iRet (FE a w) fun w3 h3=>?_
  refine iCndF rfl ?_
  refine iLtT ?_
  exact hJ w3 h3
 ·intro _
  simp only [gx]
  exact ⟨by first | trivial | rfl,h4⟩
theorem lJ {lo:Nat} {w:World} {v:Value} {L:List Str} {a b:Nat} (hs:Ow lo aB w v (strs L)) (hab:a ≤ b) (hb:b ≤ L.length) (hL:L.length ≤ 1152921504606846976):
  Cal Tryz.prog fP #[v,.int .i64 (a:Int),.int .i64 (b:Int)] w fun _ w'=>∃ L',Turn lo aB sv v w w' L' ∧ SwR a b L L' ∧ Srt ltS a b L':=by
 apply lN;unfold fF
 (refine iAdd (by omega) ?_)
 refine iLp (fun i:Nat=>[.int .i64 (i:Int)]) (fun i w'=>a + 1 ≤ i ∧ i ≤ b + 1 ∧ ∃ L',Turn lo aB sv v w w' L' ∧ SwR a b L L' ∧ Srt ltS a i L') (fun i=>b + 1 - i) (a + 1) (by simp) ⟨Nat.le_refl _,by omega,L,Turn.refl hs,.refl,Srt.short (Nat.le_refl _)⟩ ?_
 rintro i w2 Kn ⟨hi,hib,L1,ht1,hw1,hs1⟩ hKn
 intro _
 simp only [gx]
 refine iLt ?_
 refine iCndP (fun h=>?_) (fun h=>?_)
 ·have hl1:=hw1.len
  refine iLp (fun j:Nat=>[.int .i64 (j:Int)]) (fun j w'=>a ≤ j ∧ j ≤ i ∧ ∃ L',Turn lo aB sv v w w' L' ∧ SwR a b L L' ∧ Ins ltS a i j L') (fun j=>j) i rfl ⟨by omega,Nat.le_refl _,L1,ht1,hw1,Ins.init hs1⟩ ?_
  rintro j w4 Kn2 ⟨haj,hji,L2,ht2,hw2,hin⟩ hKn2
  have hl2:=hw2.len
  intro _
  simp only [gx]
  refine iJnB (decide (a < j) && ltS (gt L2 j) (gt L2 (j - 1))) w4 (fun J hJ=>?_) (fun w6 h6=>?_)
  ·refine iLt ?_
   refine iCndP (fun h5=>?_) (fun h5=>?_)
   ·rw [decide_eq_true (show a < j by omega),Bool.true_and] at hJ
    refine iRdO (j:=j) ht2.ow rfl (by omega) ?_
    (refine iSub (by omega) ?_)
    refine iRdO (j:=j - 1) ht2.ow (by omega) (by omega) ?_
    exact iRetQ (fun w' _=>aR _ _ w') hJ
   ·rw [decide_eq_false (show ¬ a < j by omega),Bool.false_and] at hJ
    exact hJ
  ·intro _
   simp only [gx]
   have ht6:=ht2.ext h6
   cases hc:decide (a < j) && ltS (gt L2 j) (gt L2 (j - 1))
   ·refine iCndF rfl ?_
    (refine iAdd (by omega) ?_)
    refine hKn (i + 1) _ ⟨by omega,by omega,L2,ht6,hw2,hin.done ordrS ?_ hji⟩ (by omega)
    rw [Bool.and_eq_false_iff,decide_eq_false_iff_not] at hc
    rcases hc with hc | hc
    ·exact .inl (by omega)
    ·rcases Nat.lt_or_ge a j with h' | h'
     ·exact .inr ⟨h',hc⟩
     ·exact .inl h'
   ·rw [Bool.and_eq_true,decide_eq_true_eq] at hc
    refine iCndT rfl ?_
    (refine iSub (by omega) ?_;refine iSub (by omega) ?_)
    refine iRdO (j:=j - 1) ht6.ow (by omega) (by omega) ?_
    refine iRdO (j:=j) ht6.ow rfl (by omega) ?_
    refine iWr2 (i:=j) (j:=j - 1) (fun _=>rfl) ht6.ow rfl (by omega) (by omega) (by omega) fun w13 h13=>?_
    (refine iSub (by omega) ?_)
    rw [show (j:Int) - 1 = ((j - 1:Nat):Int) by omega]
    exact hKn2 (j - 1) _ ⟨by omega,by omega,sw L2 j (j - 1),ht6.trans h13,.step hw2 (by omega) (by omega) (by omega) (by omega) hb,hin.swap ordrS hc.1 hji (by omega) hc.2⟩ (by omega)
 ·exact ⟨L1,ht1,hw1,hs1.mono (Nat.le_refl _) (by omega)⟩
theorem l6 {lo:Nat} {w:World} {v:Value} {L:List Str} {a b:Nat} (hs:Ow lo aB w v (strs L)) (hab:a ≤ b) (hb:b ≤ L.length) (hL:L.length ≤ 1152921504606846976):
  Cal Tryz.prog fV #[v,.int .i64 (a:Int),.int .i64 (b:Int)] w fun _ w'=>∃ L',Turn lo aB sv v w w' L' ∧ SwR a b L L':=by
 apply mR;unfold fS
 (refine iSub (by omega) ?_)
 refine iLp (fun s:Nat × Int=>[.int .i64 (s.1:Int),.int .i64 s.2]) (fun s w'=>a ≤ s.1 ∧ s.1 ≤ b ∧ -1 ≤ s.2 ∧ s.2 < b ∧ (b:Int) - s.2 ≤ s.1 - a + 1 ∧ ∃ L',Turn lo aB sv v w w' L' ∧ SwR a b L L') (fun s=>b - s.1) (a,(b:Int) - 1) rfl ⟨Nat.le_refl _,hab,by show -1 ≤ (b:Int) - 1;omega,by show (b:Int) - 1 < b;omega,by show (b:Int) - ((b:Int) - 1) ≤ a - a + 1;omega,L,Turn.refl hs,.refl⟩ ?_
 rintro ⟨i,j⟩ w2 Kn ⟨hi,hib,hj,hjb,hij,L1,ht1,hw1⟩ hKn
 have hi:a ≤ i:=hi
 have hib:i ≤ b:=hib
 have hj:-1 ≤ j:=hj
 have hjb:j < b:=hjb
 have hij:(b:Int) - j ≤ i - a + 1:=hij
 have hl1:=hw1.len
 intro _
 simp only [gx]
 refine iLt ?_
 refine iCndP (fun h=>?_) (fun h=>?_)
 ·refine iRdO (j:=j.toNat) ht1.ow (by omega) (by omega) ?_
  refine iRdO (j:=i) ht1.ow rfl (by omega) ?_
  refine iWr2 (i:=i) (j:=j.toNat) (fun _=>rfl) ht1.ow rfl (by omega) (by omega) (by omega) fun w7 h7=>?_
  (refine iAdd (by omega) ?_;refine iSub (by omega) ?_)
  exact hKn (i + 1,j - 1) _ ⟨by show a ≤ i + 1;omega,by show i + 1 ≤ b;omega,by show -1 ≤ j - 1;omega,by show j - 1 < b;omega,by show (b:Int) - (j - 1) ≤ ((i + 1:Nat):Int) - a + 1;omega,sw L1 i j.toNat,ht1.trans h7,.step hw1 hi (by omega) (by omega) (by omega) hb⟩ (by show b - (i + 1) < b - i;omega)
 ·exact ⟨L1,ht1,hw1⟩
theorem g9 {lo0:Nat} {w:World} {v:Value} {L:List Str} {lo hi first:Nat} (hs:Ow lo0 aB w v (strs L)) (hlo:lo ≤ hi) (hb:first + hi ≤ L.length) (hL:L.length ≤ 1152921504606846976) (hh:Heap ltS first (lo + 1) hi L):
  Cal Tryz.prog iG #[v,.int .i64 (lo:Int),.int .i64 (hi:Int),.int .i64 (first:Int)] w fun _ w'=>∃ L',Turn lo0 aB sv v w w' L' ∧ SwR (first + lo) (first + hi) L L' ∧ Heap ltS first lo hi L':=by
 apply o9;unfold iD
 refine iLp (fun r:Nat=>[.int .i64 (r:Int)]) (fun r w'=>lo ≤ r ∧ r ≤ hi ∧ ∃ L',Turn lo0 aB sv v w w' L' ∧ SwR (first + lo) (first + hi) L L' ∧ Sift ltS first lo hi r L') (fun r=>hi - r) lo rfl ⟨Nat.le_refl _,hlo,L,Turn.refl hs,.refl,Sift.init hh⟩ ?_
 rintro r w2 Kn ⟨hr,hrh,L1,ht1,hw1,hsf⟩ hKn
 have hl1:=hw1.len
 intro _
 simp only [gx]
 refine iMul (by omega) ?_
 (refine iAdd (by omega) ?_;(with_reducible refine iLe ?_))
 refine iCndP (fun h=>?_) (fun h=>?_)
 ·exact ⟨L1,ht1,hw1,hsf.done fun c hc hch=>by omega⟩
 ·have hlr:r < hi:=by omega
  refine iJnB (decide (2 * r + 2 < hi) && ltS (gt L1 (first + (2 * r + 1))) (gt L1 (first + (2 * r + 2)))) w2 (fun J hJ=>?_) (fun w4 h4=>?_)
  ·(refine iAdd (by omega) ?_;(with_reducible refine iLt ?_))
   refine iCndP (fun h5=>?_) (fun h5=>?_)
   ·rw [decide_eq_true (show 2 * r + 2 < hi by omega),Bool.true_and] at hJ
    (refine iAdd (by omega) ?_)
    refine iRdO (j:=first + (2 * r + 1)) ht1.ow (by omega) (by omega) ?_
    (refine iAdd (by omega) ?_;refine iAdd (by omega) ?_)
    refine iRdO (j:=first + (2 * r + 2)) ht1.ow (by omega) (by omega) ?_
    exact iRetQ (fun w' _=>aR _ _ w') hJ
   ·rw [decide_eq_false (show ¬ 2 * r + 2 < hi by omega),Bool.false_and] at hJ
    exact hJ
  ·intro _
   simp only [gx]
   have ht4:=ht1.ext h4
   refine iJnX (fun xs w8=>Ext w4 w8 ∧ ∃ c:Nat,xs = [.int .i64 (c:Int)] ∧ (c = 2 * r + 1 ∨ c = 2 * r + 2) ∧ c < hi ∧ ∀ d,(d = 2 * r + 1 ∨ d = 2 * r + 2) → d < hi → ltS (gt L1 (first + c)) (gt L1 (first + d)) = false) (fun J hJ=>?_) ?_
   ·cases hc:decide (2 * r + 2 < hi) && ltS (gt L1 (first + (2 * r + 1))) (gt L1 (first + (2 * r + 2)))
    ·refine iCndF rfl ?_
     refine hJ _ _ ⟨Ext.refl _,2 * r + 1,rfl,.inl rfl,by omega,fun d hd hdh=>?_⟩
     rcases hd with hd | hd
     ·subst hd;exact ordrS.rfl _
     ·subst hd;rw [decide_eq_true hdh,Bool.true_and] at hc;exact hc
    ·rw [Bool.and_eq_true,decide_eq_true_eq] at hc
     refine iCndT rfl ?_
     (refine iAdd (by omega) ?_)
     refine hJ _ _ ⟨Ext.refl _,2 * r + 2,rfl,.inr rfl,hc.1,fun d hd hdh=>?_⟩
     rcases hd with hd | hd
     ·subst hd;exact ordrS.asym hc.2
     ·subst hd;exact ordrS.rfl _
   ·rintro xs w8 ⟨h8,c,rfl,hc,hch,hmax⟩
    intro _
    simp only [gx]
    have ht8:=ht4.ext h8
    (refine iAdd (by omega) ?_)
    refine iRdO (j:=first + r) ht8.ow (by omega) (by omega) ?_
    (refine iAdd (by omega) ?_)
    refine iRdO (j:=first + c) ht8.ow (by omega) (by omega) ?_
    refine iRetQ (fun w' _=>aR _ _ w') ?_
    refine iNot ?_
    intro w9 h9
    have ht9:=ht8.ext h9
    refine iCnd (fun h5=>?_) (fun h5=>?_)
    ·refine ⟨L1,ht9,hw1,hsf.done fun d hd hdh=>?_⟩
     have h5:ltS (gt L1 (first + r)) (gt L1 (first + c)) = false:=by simpa using h5
     exact ordrS.tr (hmax d hd hdh) h5
    ·have h5:ltS (gt L1 (first + r)) (gt L1 (first + c)) = true:=by simpa using h5
     (refine iAdd (by omega) ?_;refine iAdd (by omega) ?_;refine iAdd (by omega) ?_)
     refine iRdO (j:=first + c) ht9.ow (by omega) (by omega) ?_
     (refine iAdd (by omega) ?_)
     refine iRdO (j:=first + r) ht9.ow (by omega) (by omega) ?_
     refine iWr2 (i:=first + r) (j:=first + c) (fun _=>rfl) ht9.ow (by omega) (by omega) (by omega) (by omega) fun w14 h14=>?_
     exact hKn c _ ⟨by omega,by omega,sw L1 (first + r) (first + c),ht9.trans h14,.step hw1 (by omega) (by omega) (by omega) (by omega) (by omega),hsf.swap ordrS hr hc hch (by omega) h5 hmax⟩ (by omega)
theorem oM {lo:Nat} {w:World} {v:Value} {L:List Str} {a b:Nat} (hs:Ow lo aB w v (strs L)) (hab:a < b) (hb:b ≤ L.length) (hL:L.length ≤ 1152921504606846976):
  Cal Tryz.prog iE #[v,.int .i64 (a:Int),.int .i64 (b:Int)] w fun _ w'=>∃ L',Turn lo aB sv v w w' L' ∧ SwR a b L L' ∧ Srt ltS a b L':=by
 apply pA;unfold iF
 obtain ⟨n,rfl⟩:∃ n,b = a + n:=⟨b - a,by omega⟩
 (refine iSub (by omega) ?_;refine iSub (by omega) ?_)
 refine iQuo (by omega) ?_
 refine iLp (fun s:Nat=>[.int .i64 ((s:Int) - 1)]) (fun s w'=>s ≤ n ∧ ∃ L',Turn lo aB sv v w w' L' ∧ SwR a (a + n) L L' ∧ Heap ltS a s n L') (fun s=>s) ((n - 1) / 2 + 1) (by congr 2;omega) ⟨by omega,L,Turn.refl hs,.refl,fun p c h1 h2 h3=>by omega⟩ ?_
 rintro s w2 Kn ⟨hsn,L1,ht1,hw1,hh⟩ hKn
 have hl1:=hw1.len
 intro _
 simp only [gx]
 refine iLe ?_
 refine iCndP (fun h=>?_) (fun h=>?_)
 ·rw [show (s:Int) - 1 = ((s - 1:Nat):Int) by omega,show ((a + n:Nat):Int) - a = (n:Int) by omega]
  refine iCall ?_
  refine (g9 (lo:=s - 1) (hi:=n) (first:=a) ht1.ow (by omega) (by omega) (by omega) (by rw [show s - 1 + 1 = s by omega];exact hh)).mono fun _ w3 h3=>?_
  obtain ⟨L2,ht2,hw2,hh2⟩:=h3
  (refine iSub (by omega) ?_)
  exact hKn (s - 1) _ ⟨by omega,L2,ht1.trans ht2,hw1.trans (hw2.mono (by omega) (Nat.le_refl _) (by omega)),hh2⟩ (by omega)
 ·(refine iSub (by omega) ?_)
  have hs0:s = 0:=by omega
  subst hs0
  refine iLp (fun s:Nat=>[.int .i64 ((s:Int) - 1)]) (fun s w'=>s ≤ n ∧ ∃ L',Turn lo aB sv v w w' L' ∧ SwR a (a + n) L L' ∧ Heap ltS a 0 s L' ∧ (∀ p q,a ≤ p → p < q → a + s ≤ q → q < a + n → ltS (gt L' q) (gt L' p) = false)) (fun s=>s) n (by congr 2;omega) ⟨Nat.le_refl _,L1,ht1,hw1,hh,fun p q h1 h2 h3 h4=>by omega⟩ ?_
  rintro s w5 Kn5 ⟨hsn,L2,ht2,hw2,hh2,hpr⟩ hKn5
  have hl2:=hw2.len
  intro _
  simp only [gx]
  refine iLe ?_
  refine iCndP (fun h5=>?_) (fun h5=>?_)
  ·(refine iAdd (by omega) ?_;refine iAdd (by omega) ?_)
   refine iRdO (j:=a + (s - 1)) ht2.ow (by omega) (by omega) ?_
   refine iRdO (j:=a) ht2.ow rfl (by omega) ?_
   refine iWr2 (i:=a) (j:=a + (s - 1)) (fun _=>rfl) ht2.ow rfl (by omega) (by omega) (by omega) fun w10 h10=>?_
   rw [show (s:Int) - 1 = ((s - 1:Nat):Int) by omega]
   have e:∀ k,gt (sw L2 a (a + (s - 1))) k = if k = a + (s - 1) then gt L2 a else if k = a then gt L2 (a + (s - 1)) else gt L2 k:=gt_sw (by omega) (by omega)
   have hw3:SwR a (a + n) L2 (sw L2 a (a + (s - 1))):=.one (by omega) (by omega) (by omega) (by omega) (by omega)
   have htop:=Heap.top ordrS hh2
   refine iCall ?_
   refine (g9 (L:=sw L2 a (a + (s - 1))) (lo:=0) (hi:=s - 1) (first:=a) h10.ow (by omega) (by rw [hw3.len];omega) (by rw [hw3.len];omega) (fun p c h1 h2 h3=>by
    rw [e,e,if_neg (by omega),if_neg (by omega),if_neg (by omega),if_neg (by omega)]
    exact hh2 p c (by omega) h2 (by omega))).mono fun _ w11 h11=>?_
   obtain ⟨L4,ht4,hw4,hh4⟩:=h11
   (refine iSub (by omega) ?_)
   refine hKn5 (s - 1) _ ⟨by omega,L4,(ht2.trans h10).trans ht4,(hw2.trans hw3).trans (hw4.mono (by omega) (by omega) (by rw [hw3.len];omega)),hh4,fun p q h1 h2 h3 h4=>?_⟩ (by omega)
   rw [hw4.out (k:=q) (by omega)]
   have main:∀ p,a ≤ p → p < q → ltS (gt (sw L2 a (a + (s - 1))) q) (gt (sw L2 a (a + (s - 1))) p) = false:=fun p h1 h2=>by
    rw [e,e]
    by_cases hq:q = a + (s - 1)
    ·rw [if_pos hq,if_neg (by omega)]
     split
     ·exact htop _ (by omega)
     ·obtain ⟨k,rfl⟩:∃ k,p = a + k:=⟨p - a,by omega⟩
      exact htop _ (by omega)
    ·rw [if_neg hq,if_neg (by omega)]
     split
     ·exact hpr a q (by omega) (by omega) (by omega) h4
     ·split
      ·exact hpr _ q (by omega) (by omega) (by omega) h4
      ·exact hpr p q h1 h2 (by omega) h4
   rcases Nat.lt_or_ge p (a + (s - 1)) with hp | hp
   ·exact hw4.all (p:=fun x=>ltS (gt (sw L2 a (a + (s - 1))) q) x = false) (fun k hk hk'=>main k (by omega) (by omega)) p (by omega) hp
   ·rw [hw4.out (k:=p) (by omega)];exact main p h1 h2
  ·exact ⟨L2,ht2,hw2,fun p q h1 h2 h3=>hpr p q h1 h2 (by omega) h3⟩
end Go.Proofs.YtkjoppimpmojfaaGreat

namespace Go.Vc
def len8T:Str:=[0,1,2,2,3,3,3,3,4,4,4,4,4,4,4,4,5,5,5,5,5,5,5,5,5,5,5,5,5,5,5,5,6,6,6,6,6,6,6,6,6,6,6,6,6,6,6,6,6,6,6,6,6,6,6,6,6,6,6,6,6,6,6,6,
 7,7,7,7,7,7,7,7,7,7,7,7,7,7,7,7,7,7,7,7,7,7,7,7,7,7,7,7,7,7,7,7,7,7,7,7,7,7,7,7,7,7,7,7,7,7,7,7,7,7,7,7,7,7,7,7,7,7,7,7,7,7,7,7,
 8,8,8,8,8,8,8,8,8,8,8,8,8,8,8,8,8,8,8,8,8,8,8,8,8,8,8,8,8,8,8,8,8,8,8,8,8,8,8,8,8,8,8,8,8,8,8,8,8,8,8,8,8,8,8,8,8,8,8,8,8,8,8,8,
 8,8,8,8,8,8,8,8,8,8,8,8,8,8,8,8,8,8,8,8,8,8,8,8,8,8,8,8,8,8,8,8,8,8,8,8,8,8,8,8,8,8,8,8,8,8,8,8,8,8,8,8,8,8,8,8,8,8,8,8,8,8,8,8]
theorem UT:∀ x:Fin 256,x.val < 2 ^ (len8T.getD x.val 0).toNat ∧ (1 ≤ x.val → 2 ^ (len8T.getD x.val 0).toNat ≤ 2 * x.val) ∧ (len8T.getD x.val 0).toNat ≤ 8:=by decide +kernel
theorem V4 {a:Int} {m:Nat} {K:Value → Prop} (hm:m < 2 ^ 64) (h:∀ x:Nat,x ≤ m → K (.int .u64 (x:Int))):xBits iAnd .u64 (.int .u64 a) (.int .u64 (m:Int)) K:=by
 refine ⟨_,_,rfl,rfl,?_⟩
 have e:iAnd .u64 a (m:Int) = (((BitVec.ofInt 64 a &&& BitVec.ofInt 64 (m:Int)).toNat:Nat):Int):=by
  rw [show iAnd .u64 a (m:Int) = IntKind.u64.wrap ((BitVec.ofInt 64 a &&& BitVec.ofInt 64 (m:Int)).toNat:Nat) from rfl]
  exact IntWalk.u64_in _ (by have:=(BitVec.ofInt 64 a &&& BitVec.ofInt 64 (m:Int)).isLt;omega)
 rw [e]
 refine h _ ?_
 rw [BitVec.toNat_and,GK,BitVec.toNat_ofNat,Nat.mod_eq_of_lt (a:=m) (by omega)]
 exact Nat.and_le_right
theorem iStC {e:TypeId} {w:World} {b:Nat} {old v:Value} {K:World → Prop} (hb:Blk e w b [old]) (hv:aD v = true) (h:∀ w',Blk e w' b [v] → Ch (fun c=>c = b) w w' → K w'):xSt w (.pointer (some ⟨b,0,none⟩)) v K:=
 iStB hb (by simp) hv fun h2=>h _ h2 ((Upd.setCell w b 0 v).ch rfl)
theorem PW {a j:Nat} {K:Value → Prop} (hj:j ≤ 64) (h:K (.int .u64 ((a / 2 ^ j:Nat):Int))):xSh iShr .u64 (.int .u64 (a:Int)) (.int .u64 (j:Int)) K:=by
 refine ⟨_,_,_,rfl,rfl,by omega,?_⟩
 rw [show iShr .u64 (a:Int) (j:Int) = ((a / 2 ^ j:Nat):Int) by
  unfold iShr
  rw [Int.toNat_natCast,show IntKind.u64.bits = 64 from rfl,Nat.min_eq_left hj,Int.fdiv_eq_ediv_of_nonneg _ (Int.le_of_lt (Int.pow_pos (by omega)))]
  push_cast
  rfl]
 exact h
end Go.Vc
namespace Go.Proofs.YtkjoppimpmojfaaGreat
open Go.Vc
set_option maxRecDepth 20000 in
theorem FF {n:Nat} (hn:n < 2 ^ 63) (w:World):Cal Tryz.prog uQ #[.int .u64 (n:Int)] w fun r w'=>Ext w w' ∧ ∃ k:Nat,r = .int .i64 (k:Int) ∧ n < 2 ^ k ∧ (1 ≤ n → 2 ^ k ≤ 2 * n) ∧ k ≤ 64:=by
 apply HH;unfold uB
 -- at each join: what is left of n, and by how many bits it was shifted
 have stage:∀ {x m s:Nat},x = n / 2 ^ m → x / 2 ^ s = n / 2 ^ (m + s):=fun {x m s} h=>by rw [h,Nat.div_div_eq_div_mul,← Nat.pow_add]
 ((with_reducible refine iLe ?_))
 refine iJnX (fun xs w'=>Ext w w' ∧ ∃ x m:Nat,xs = [.int .u64 (x:Int),.int .i64 (m:Int)] ∧ x = n / 2 ^ m ∧ x < 2 ^ 32 ∧ (1 ≤ m → 1 ≤ x) ∧ m ≤ 32) (fun J hJ=>?_) ?_
 ·refine iCndP (fun h=>?_) (fun h=>?_)
  ·refine PW (j:=32) (by omega) ?_
   exact hJ _ _ ⟨Ext.refl _,_,32,rfl,rfl,by omega,by omega,by omega⟩
  ·exact hJ _ _ ⟨Ext.refl _,n,0,rfl,by simp,by omega,by omega,by omega⟩
 rintro xs w2 ⟨h2,x,m,rfl,hx,hx32,hm1,hm⟩
 intro _
 simp only [gx]
 ((with_reducible refine iLe ?_))
 refine iJnX (fun xs w'=>Ext w w' ∧ ∃ x m:Nat,xs = [.int .u64 (x:Int),.int .i64 (m:Int)] ∧ x = n / 2 ^ m ∧ x < 2 ^ 16 ∧ (1 ≤ m → 1 ≤ x) ∧ m ≤ 48) (fun J hJ=>?_) ?_
 ·refine iCndP (fun h=>?_) (fun h=>?_)
  ·refine PW (j:=16) (by omega) ?_
   (refine iAdd (by omega) ?_)
   exact hJ _ _ ⟨h2,_,m + 16,rfl,stage hx,by omega,by omega,by omega⟩
  ·exact hJ _ _ ⟨h2,x,m,rfl,hx,by omega,hm1,by omega⟩
 rintro xs w4 ⟨h4,x,m,rfl,hx,hx16,hm1,hm⟩
 intro _
 simp only [gx]
 ((with_reducible refine iLe ?_))
 refine iJnX (fun xs w'=>Ext w w' ∧ ∃ x m:Nat,xs = [.int .u64 (x:Int),.int .i64 (m:Int)] ∧ x = n / 2 ^ m ∧ x < 2 ^ 8 ∧ (1 ≤ m → 1 ≤ x) ∧ m ≤ 56) (fun J hJ=>?_) ?_
 ·refine iCndP (fun h=>?_) (fun h=>?_)
  ·refine PW (j:=8) (by omega) ?_
   (refine iAdd (by omega) ?_)
   exact hJ _ _ ⟨h4,_,m + 8,rfl,stage hx,by omega,by omega,by omega⟩
  ·exact hJ _ _ ⟨h4,x,m,rfl,hx,by omega,hm1,by omega⟩
 rintro xs w6 ⟨h6,x,m,rfl,hx,hx8,hm1,hm⟩
 intro _
 simp only [gx]
 obtain ⟨t1,t2,t3⟩:x < 2 ^ (len8T.getD x 0).toNat ∧ (1 ≤ x → 2 ^ (len8T.getD x 0).toNat ≤ 2 * x) ∧ (len8T.getD x 0).toNat ≤ 8:=UT ⟨x,hx8⟩
 refine ⟨_,_,rfl,?_⟩
 rw [IntWalk.u8_in _ (by omega)]
 refine iIs (l:=len8T) (j:=x) (by show x < 256;omega) ?_
 refine G3 (by omega) ?_
 refine iAdd (by omega) ?_
 refine ⟨h6,m + (len8T.getD x 0).toNat,by first | rfl | (push_cast;rfl),?_,fun h1=>?_,by omega⟩
 ·have:=Nat.lt_div_mul_add (a:=n) (b:=2 ^ m) (Nat.two_pow_pos m)
  rw [← hx] at this
  have h3:(x + 1) * 2 ^ m ≤ 2 ^ (len8T.getD x 0).toNat * 2 ^ m:=Nat.mul_le_mul_right _ t1
  rw [Nat.pow_add,Nat.mul_comm (2 ^ m)]
  rw [Nat.add_mul] at h3
  omega
 ·rcases Nat.eq_zero_or_pos x with h0 | h0
  ·have hm0:m = 0:=by omega
   subst hm0
   simp at hx
   omega
  ·have h3:=Nat.mul_le_mul_left (2 ^ m) (t2 h0)
   have h4:2 ^ m * x ≤ n:=by rw [hx];exact Nat.mul_div_le n (2 ^ m)
   rw [Nat.pow_add]
   rw [Nat.mul_left_comm] at h3
   omega
theorem uL {n:Nat} (hn:n < 2 ^ 63) (w:World):Cal Tryz.prog zP #[.int .u64 (n:Int)] w fun r w'=>Ext w w' ∧ ∃ k:Nat,r = .int .i64 (k:Int) ∧ n < 2 ^ k ∧ (1 ≤ n → 2 ^ k ≤ 2 * n) ∧ k ≤ 64:=by
 apply JU;unfold xS
 exact iCall (FF hn w)
theorem vR {n:Nat} (h1:1 ≤ n) (hn:n ≤ 1152921504606846976) (w:World):Cal Tryz.prog mW #[.int .i64 (n:Int)] w fun r w'=>Ext w w' ∧ ∃ m:Nat,r = .int .u64 (m:Int) ∧ 1 ≤ m ∧ m ≤ 2 * n:=by
 apply xB;unfold mY
 refine GG (by omega) ?_
 refine iCall ?_
 refine (uL (by omega) w).mono fun r w1 h=>?_
 obtain ⟨h1',k,rfl,hk1,hk2,hk3⟩:=h
 have hk:=hk2 h1
 refine ⟨_,_,_,rfl,rfl,by omega,?_⟩
 have e:iShl .u64 1 (k:Int) = ((2 ^ k:Nat):Int):=by
  rw [show iShl .u64 1 (k:Int) = IntKind.u64.wrap (1 * 2 ^ min (k:Int).toNat 64) from rfl,Int.toNat_natCast,Nat.min_eq_left hk3,Int.one_mul,show ((2:Int) ^ k) = ((2 ^ k:Nat):Int) by push_cast;rfl]
  exact IntWalk.u64_in _ (by omega)
 rw [e]
 exact ⟨h1',2 ^ k,rfl,Nat.two_pow_pos k,hk⟩
theorem xH {e:TypeId} {w:World} {b:Nat} {x:Int} (hb:Blk e w b [.int .u64 x]):Cal Tryz.prog nJ #[.pointer (some ⟨b,0,none⟩)] w fun r w'=>∃ y:Int,r = .int .u64 y ∧ Blk e w' b [.int .u64 y] ∧ Ch (fun c=>c = b) w w':=by
 apply z9;unfold nP
 ((with_reducible refine iNil ?_);refine iLdB (by assumption) (by first | rfl | simp) ?_;(with_reducible refine iNil ?_);refine iLdB (by assumption) (by first | rfl | simp) ?_)
 refine ⟨_,_,_,rfl,rfl,by omega,?_⟩
 refine ⟨_,_,rfl,rfl,?_⟩
 ((with_reducible refine iNil ?_))
 intro w1 h1
 refine iStC (hb.ext h1) rfl fun w2 hb2 h2=>?_
 intro w3 h3
 have hb3:=hb2.ext h3
 have c3:=aL ((h1.ch.trans h2 fun _ e=>.inl e)) h3
 clear hb2 h2
 ((with_reducible refine iNil ?_);refine iLdB (by assumption) (by first | rfl | simp) ?_;(with_reducible refine iNil ?_);refine iLdB (by assumption) (by first | rfl | simp) ?_)
 refine ⟨_,_,_,rfl,rfl,by omega,?_⟩
 refine ⟨_,_,rfl,rfl,?_⟩
 ((with_reducible refine iNil ?_))
 intro w4 h4
 refine iStC (hb3.ext h4) rfl fun w5 hb5 h5=>?_
 intro w6 h6
 have hb6:=hb5.ext h6
 have c6:=aL (aE (aL c3 h4) h5) h6
 clear hb5 hb3 hb c3
 ((with_reducible refine iNil ?_);refine iLdB (by assumption) (by first | rfl | simp) ?_;(with_reducible refine iNil ?_);refine iLdB (by assumption) (by first | rfl | simp) ?_)
 refine ⟨_,_,_,rfl,rfl,by omega,?_⟩
 refine ⟨_,_,rfl,rfl,?_⟩
 ((with_reducible refine iNil ?_))
 intro w7 h7
 refine iStC (hb6.ext h7) rfl fun w8 hb8 h8=>?_
 intro w9 h9
 have hb9:=hb8.ext h9
 have c9:=aL (aE (aL c6 h7) h8) h9
 clear hb8 hb6 c6
 ((with_reducible refine iNil ?_);refine iLdB (by assumption) (by first | rfl | simp) ?_)
 exact ⟨_,rfl,hb9,c9⟩
theorem lK {lo:Nat} {w:World} {v:Value} {L:List Str} {a b:Nat} (hs:Ow lo aB w v (strs L)) (hab:a ≤ b) (hb:b ≤ L.length) (hL:L.length ≤ 1152921504606846976):
  Cal Tryz.prog fO #[v,.int .i64 (a:Int),.int .i64 (b:Int)] w fun _ w'=>∃ L',Turn lo aB sv v w w' L' ∧ SwR a b L L':=by
 apply l8;unfold fJ
 obtain ⟨n,rfl⟩:∃ n,b = a + n:=⟨b - a,by omega⟩
 refine iSub (by omega) ?_
 rw [show ((a + n:Nat):Int) - a = (n:Int) by omega]
 refine iLe ?_
 refine iCndP (fun h=>?_) (fun h=>?_)
 ·refine GG (by omega) ?_
  refine iNew fun c w1 hc1 h1 hb1=>?_
  refine iStB hb1 (by simp [Value.cells]) rfl fun hb2=>?_
  have x2:Ext w (w1.setCell ⟨c,0,none⟩ (.int .u64 (n:Int))):=VQ h1 (by show w.heap.size ≤ c;omega) _
  refine iCall ?_
  refine (vR (by omega) (by omega) _).mono fun r w3 h3=>?_
  obtain ⟨h3,m,rfl,hm1,hm2⟩:=h3
  have hb3:=hb2.ext h3
  have hs3:=(hs.ext x2).ext h3
  have hne:v.ownBlock ≠ some c:=hs.lt (by omega)
  refine iQuo (by omega) ?_
  refine iMul (by omega) ?_
  refine iAdd (by omega) ?_
  refine iSub (by omega) ?_
  refine iLp (fun i:Nat=>[.int .i64 (i:Int)]) (fun i w'=>a + n / 4 * 2 - 1 ≤ i ∧ (∃ x,Blk 225 w' c [.int .u64 x]) ∧ ∃ L',Turn lo aB sv v w w' L' ∧ SwR a (a + n) L L') (fun i=>a + n - i) (a + n / 4 * 2 - 1) (by congr 2;omega)
   ⟨Nat.le_refl _,⟨_,hb3⟩,L,⟨hs3,((x2.trans h3).ch)⟩,.refl⟩ ?_
  rintro i w5 Kn ⟨hi,⟨x,hb5⟩,L1,ht1,hw1⟩ hKn
  have hl1:=hw1.len
  intro _
  simp only [gx]
  refine iQuo (by omega) ?_
  refine iMul (by omega) ?_
  refine iAdd (by omega) ?_
  refine iAdd (by omega) ?_
  refine iLe ?_
  refine iCndP (fun h5=>?_) (fun h5=>?_)
  ·refine iCall ?_
   refine (xH hb5).mono fun r w6 h6=>?_
   obtain ⟨y,rfl,hb6,hc6⟩:=h6
   have hs6:=ht1.ow.ch hc6 fun c' hc' e=>hne (e ▸ hc')
   refine ⟨_,_,rfl,rfl,?_⟩
   rw [show IntKind.u64.wrap ((m:Int) - 1) = ((m - 1:Nat):Int) by rw [IntWalk.u64_in _ (by omega)];omega]
   refine V4 (by omega) fun x hx=>?_
   refine G3 (by omega) ?_
   refine iLe ?_
   refine iJnX (fun xs w8=>Ext w6 w8 ∧ ∃ z:Nat,xs = [.int .i64 (z:Int)] ∧ z < n) (fun J hJ=>?_) ?_
   ·refine iCndP (fun h7=>?_) (fun h7=>?_)
    ·refine iSub (by omega) ?_
     rw [show (x:Int) - n = ((x - n:Nat):Int) by omega]
     exact hJ _ _ ⟨Ext.refl _,x - n,rfl,by omega⟩
    ·exact hJ _ _ ⟨Ext.refl _,x,rfl,by omega⟩
   rintro xs w8 ⟨h8,z,rfl,hz⟩
   intro _
   simp only [gx]
   have hs8:=hs6.ext h8
   have hb8:=hb6.ext h8
   have hc8:=aL hc6 h8
   refine iAdd (by omega) ?_
   refine iAdd (by omega) ?_
   refine iRdO (j:=a + z) hs8 (by omega) (by omega) ?_
   refine iRdO (j:=i) hs8 rfl (by omega) ?_
   refine iWr2 (i:=i) (j:=a + z) (fun _=>rfl) hs8 rfl (by omega) (by omega) (by omega) fun w13 h13=>?_
   refine iAdd (by omega) ?_
   refine hKn (i + 1) _ ⟨by omega,⟨_,hb8.ch h13.ch fun e=>hne e⟩,sw L1 i (a + z),⟨h13.ow,?_⟩,.step hw1 (by omega) (by omega) (by omega) (by omega) hb⟩ (by omega)
   refine (ht1.ch.trans hc8 fun c' e=>.inr ?_).trans h13.ch fun _ e=>.inl e
   omega
  ·exact ⟨L1,ht1,hw1⟩
 ·exact ⟨L,Turn.refl hs,.refl⟩
end Go.Proofs.YtkjoppimpmojfaaGreat

namespace Go.Proofs.YtkjoppimpmojfaaGreat
open Go.Vc
theorem eJ {lo:Nat} {e:TypeId} {w:World} {v:Value} {L:List Str} {i j c n:Nat} (hs:Ow lo aB w v (strs L)) (hi:i < L.length) (hj:j < L.length) (hb:Blk e w c [.int .i64 (n:Int)]) (hn:n ≤ 1000):
  Cal Tryz.prog jJ #[v,.int .i64 (i:Int),.int .i64 (j:Int),.pointer (some ⟨c,0,none⟩)] w fun r w'=>∃ i' j' m:Nat,r = .tuple #[.int .i64 (i':Int),.int .i64 (j':Int)] ∧ ((i' = i ∧ j' = j) ∨ (i' = j ∧ j' = i)) ∧ m ≤ n + 1 ∧ Blk e w' c [.int .i64 (m:Int)] ∧ Ch (fun d=>d = c) w w':=by
 apply qG;unfold jF
 refine iRdO (j:=j) hs rfl hj ?_
 refine iRdO (j:=i) hs rfl hi ?_
 refine iRetQ (fun w' _=>aR _ _ w') ?_
 intro w1 h1
 have hb1:=hb.ext h1
 refine iCnd (fun h=>?_) (fun h=>?_)
 ·((with_reducible refine iNil ?_);refine iLdB (by assumption) (by first | rfl | simp) ?_;refine iAdd (by omega) ?_;(with_reducible refine iNil ?_))
  refine iStC hb1 rfl fun w2 hb2 hc2=>?_
  exact ⟨j,i,n + 1,rfl,.inr ⟨rfl,rfl⟩,Nat.le_refl _,hb2,(h1.ch.trans hc2 fun _ e=>.inl e)⟩
 ·exact ⟨i,j,n,rfl,.inl ⟨rfl,rfl⟩,by omega,hb1,h1.ch⟩
theorem iW {lo:Nat} {e:TypeId} {w:World} {v:Value} {L:List Str} {i j k c n:Nat} (hs:Ow lo aB w v (strs L)) (hne:v.ownBlock ≠ some c) (hi:i < L.length) (hj:j < L.length) (hk:k < L.length) (hb:Blk e w c [.int .i64 (n:Int)]) (hn:n ≤ 900):
  Cal Tryz.prog jL #[v,.int .i64 (i:Int),.int .i64 (j:Int),.int .i64 (k:Int),.pointer (some ⟨c,0,none⟩)] w fun r w'=>∃ t m:Nat,r = .int .i64 (t:Int) ∧ (t = i ∨ t = j ∨ t = k) ∧ m ≤ n + 3 ∧ Blk e w' c [.int .i64 (m:Int)] ∧ Ch (fun d=>d = c) w w':=by
 apply qE;unfold jH
 refine iCall ?_
 refine (eJ hs hi hj hb (by omega)).mono fun r w1 h1=>?_
 obtain ⟨i1,j1,n1,rfl,h1,hn1,hb1,hc1⟩:=h1
 have hs1:=hs.ch hc1 fun d hd e=>hne (e ▸ hd)
 ((with_reducible refine iE20 ?_;refine iE21 ?_))
 refine iCall ?_
 refine (eJ (i:=j1) hs1 (by rcases h1 with h | h <;> omega) hk hb1 (by omega)).mono fun r w2 h2=>?_
 obtain ⟨j2,k2,n2,rfl,h2,hn2,hb2,hc2⟩:=h2
 have hs2:=hs1.ch hc2 fun d hd e=>hne (e ▸ hd)
 ((with_reducible refine iE20 ?_;refine iE21 ?_))
 refine iCall ?_
 refine (eJ (i:=i1) (j:=j2) hs2 (by rcases h1 with h | h <;> omega) (by rcases h1 with h | h <;> rcases h2 with h' | h' <;> omega) hb2 (by omega)).mono fun r w3 h3=>?_
 obtain ⟨i3,j3,n3,rfl,h3,hn3,hb3,hc3⟩:=h3
 ((with_reducible refine iE20 ?_;refine iE21 ?_))
 exact ⟨j3,n3,rfl,by rcases h1 with h | h <;> rcases h2 with h' | h' <;> rcases h3 with h'' | h'' <;> omega,by omega,hb3,aE (aE hc1 hc2) hc3⟩
theorem cT {lo:Nat} {e:TypeId} {w:World} {v:Value} {L:List Str} {i c n:Nat} (hs:Ow lo aB w v (strs L)) (hne:v.ownBlock ≠ some c) (h1:1 ≤ i) (hi:i + 1 < L.length) (hL:L.length ≤ 1152921504606846976) (hb:Blk e w c [.int .i64 (n:Int)]) (hn:n ≤ 900):
  Cal Tryz.prog fB #[v,.int .i64 (i:Int),.pointer (some ⟨c,0,none⟩)] w fun r w'=>∃ t m:Nat,r = .int .i64 (t:Int) ∧ (t = i - 1 ∨ t = i ∨ t = i + 1) ∧ m ≤ n + 3 ∧ Blk e w' c [.int .i64 (m:Int)] ∧ Ch (fun d=>d = c) w w':=by
 apply lI;unfold e9
 (refine iSub (by omega) ?_;refine iAdd (by omega) ?_)
 rw [show (i:Int) - 1 = ((i - 1:Nat):Int) by omega]
 refine iCall ?_
 exact iW (i:=i - 1) (j:=i) (k:=i + 1) hs hne (by omega) (by omega) hi hb hn
theorem mG {lo:Nat} {w:World} {v:Value} {L:List Str} {a b:Nat} (hs:Ow lo aB w v (strs L)) (hab:a + 8 ≤ b) (hb:b ≤ L.length) (hL:L.length ≤ 1152921504606846976):
  Cal Tryz.prog f6 #[v,.int .i64 (a:Int),.int .i64 (b:Int)] w fun r w'=>Ext w w' ∧ ∃ t:Nat,∃ x:Int,r = .tuple #[.int .i64 (t:Int),.int .i64 x] ∧ a ≤ t ∧ t < b:=by
 apply nE;unfold gF
 obtain ⟨n,rfl⟩:∃ n,b = a + n:=⟨b - a,by omega⟩
 refine iSub (by omega) ?_
 rw [show ((a + n:Nat):Int) - a = (n:Int) by omega]
 refine iNew fun c w1 hc1 h1 hb1=>?_
 have hne:v.ownBlock ≠ some c:=hs.lt (by omega)
 have hs1:=hs.ext h1
 have new:∀ {w':World},Ch (fun d=>d = c) w1 w' → Ext w w':=fun {w'} h=>h1.thenCh h fun d e=>by omega
 refine iQuo (by omega) ?_
 refine iMul (by omega) ?_
 refine iAdd (by omega) ?_
 refine iQuo (by omega) ?_
 refine iMul (by omega) ?_
 refine iAdd (by omega) ?_
 refine iQuo (by omega) ?_
 refine iMul (by omega) ?_
 refine iAdd (by omega) ?_
 refine iLe ?_
 rw [show (a:Int) + (n:Int) / 4 * 1 = ((a + n / 4 * 1:Nat):Int) by omega,show (a:Int) + (n:Int) / 4 * 2 = ((a + n / 4 * 2:Nat):Int) by omega,show (a:Int) + (n:Int) / 4 * 3 = ((a + n / 4 * 3:Nat):Int) by omega]
 refine iJnX (fun xs w'=>∃ t m:Nat,xs = [.int .i64 (t:Int)] ∧ a ≤ t ∧ t < a + n ∧ Blk 3 w' c [.int .i64 (m:Int)] ∧ Ch (fun d=>d = c) w1 w') (fun J hJ=>?_) ?_
 ·refine iCndP (fun h=>?_) (fun h=>?_)
  ·refine iLe ?_
   refine iJnX (fun xs w'=>∃ i j k m:Nat,xs = [.int .i64 (i:Int),.int .i64 (j:Int),.int .i64 (k:Int)] ∧ a ≤ i ∧ i < a + n ∧ a ≤ j ∧ j < a + n ∧ a ≤ k ∧ k < a + n ∧ m ≤ 9 ∧ Blk 3 w' c [.int .i64 (m:Int)] ∧ Ch (fun d=>d = c) w1 w') (fun J' hJ'=>?_) ?_
   ·refine iCndP (fun h5=>?_) (fun h5=>?_)
    ·refine iCall ?_
     refine (cT (n:=0) hs1 hne (by omega) (by omega) hL hb1 (by omega)).mono fun r w2 h2=>?_
     obtain ⟨i,m1,rfl,hi,hm1,hb2,hc2⟩:=h2
     have hs2:=hs1.ch hc2 fun d hd e=>hne (e ▸ hd)
     refine iCall ?_
     refine (cT hs2 hne (by omega) (by omega) hL hb2 (by omega)).mono fun r w3 h3=>?_
     obtain ⟨j,m2,rfl,hj,hm2,hb3,hc3⟩:=h3
     have hs3:=hs2.ch hc3 fun d hd e=>hne (e ▸ hd)
     refine iCall ?_
     refine (cT hs3 hne (by omega) (by omega) hL hb3 (by omega)).mono fun r w4 h4=>?_
     obtain ⟨k,m3,rfl,hk,hm3,hb4,hc4⟩:=h4
     exact hJ' _ _ ⟨i,j,k,m3,rfl,by omega,by omega,by omega,by omega,by omega,by omega,by omega,hb4,aE (aE hc2 hc3) hc4⟩
    ·exact hJ' _ _ ⟨_,_,_,0,rfl,by omega,by omega,by omega,by omega,by omega,by omega,by omega,hb1,(Ext.refl _).ch⟩
   rintro xs w5 ⟨i,j,k,m,rfl,h11,h12,h21,h22,h31,h32,hm,hb5,hc5⟩
   intro _
   simp only [gx]
   have hs5:=hs1.ch hc5 fun d hd e=>hne (e ▸ hd)
   refine iCall ?_
   refine (iW hs5 hne (i:=i) (j:=j) (k:=k) (by omega) (by omega) (by omega) hb5 (by omega)).mono fun r w6 h6=>?_
   obtain ⟨t,m',rfl,ht,hm',hb6,hc6⟩:=h6
   exact hJ _ _ ⟨t,m',rfl,by omega,by omega,hb6,aE hc5 hc6⟩
  ·omega
 rintro xs w3 ⟨t,m,rfl,ht1,ht2,hb3,hc3⟩
 intro _
 simp only [gx]
 (refine iLdB (by assumption) (by first | rfl | simp) ?_;(with_reducible refine iEq ?_))
 refine iCndP (fun h=>?_) (fun h=>?_)
 ·exact ⟨new hc3,t,1,rfl,ht1,ht2⟩
 ·((with_reducible refine iEq ?_))
  refine iCndP (fun h=>?_) (fun h=>?_)
  ·exact ⟨new hc3,t,2,rfl,ht1,ht2⟩
  ·exact ⟨new hc3,t,0,rfl,ht1,ht2⟩
theorem lA {lo:Nat} {w:World} {v:Value} {L:List Str} {a b t:Nat} (hs:Ow lo aB w v (strs L)) (hat:a ≤ t) (htb:t < b) (hb:b ≤ L.length) (hL:L.length ≤ 1152921504606846976):
  Cal Tryz.prog fC #[v,.int .i64 (a:Int),.int .i64 (b:Int),.int .i64 (t:Int)] w fun r w'=>∃ L':List Str,∃ m:Nat,r = .int .i64 (m:Int) ∧ Turn lo aB sv v w w' L' ∧ SwR a b L L' ∧ a < m ∧ m ≤ b ∧ (∀ k,a ≤ k → k < m → ltS (gt L t) (gt L' k) = false):=by
 apply lH;unfold fA
 refine iRdO (j:=t) hs rfl (by omega) ?_
 refine iRdO (j:=a) hs rfl (by omega) ?_
 refine iWr2 (i:=a) (j:=t) (fun _=>rfl) hs rfl rfl (by omega) (by omega) fun w5 h5=>?_
 have e0:gt (sw L a t) a = gt L t:=by rw [gt_sw (by omega) (by omega)];split <;> simp_all
 (refine iAdd (by omega) ?_;refine iSub (by omega) ?_)
 refine iLp (fun s:Nat × Int=>[.int .i64 (s.1:Int),.int .i64 s.2]) (fun s w'=>a + 1 ≤ s.1 ∧ s.1 ≤ b ∧ (s.1:Int) - 1 ≤ s.2 + 1 ∧ s.2 < b ∧ ∃ L',Turn lo aB sv v w w' L' ∧ SwR a b L L' ∧ gt L' a = gt L t ∧ ∀ k,a ≤ k → k < s.1 → ltS (gt L t) (gt L' k) = false) (fun s=>b - s.1) (a + 1,(b:Int) - 1) rfl
  ⟨Nat.le_refl _,by show a + 1 ≤ b;omega,by show ((a + 1:Nat):Int) - 1 ≤ (b:Int) - 1 + 1;omega,by show (b:Int) - 1 < b;omega,sw L a t,h5,.one (Nat.le_refl _) (by omega) hat htb hb,e0,fun k h1 h2=>by have h2:k < a + 1:=h2;rw [show k = a by omega,e0];exact ordrS.rfl _⟩ ?_
 rintro ⟨i0,j0⟩ w7 Kn ⟨hi0,hib0,hij0,hjb0,L1,ht1,hw1,he1,hq1⟩ hKn
 have hi0:a + 1 ≤ i0:=hi0
 have hib0:i0 ≤ b:=hib0
 have hij0:(i0:Int) - 1 ≤ j0 + 1:=hij0
 have hjb0:j0 < b:=hjb0
 have hq1:∀ k,a ≤ k → k < i0 → ltS (gt L t) (gt L1 k) = false:=hq1
 have hl1:=hw1.len
 intro _
 simp only [gx]
 refine iLp (fun i:Nat=>[.int .i64 (i:Int)]) (fun i w'=>i0 ≤ i ∧ i ≤ b ∧ (i:Int) - 1 ≤ j0 + 1 ∧ Ext w7 w' ∧ ∀ k,a ≤ k → k < i → ltS (gt L t) (gt L1 k) = false) (fun i=>b - i) i0 rfl ⟨Nat.le_refl _,hib0,hij0,Ext.refl _,hq1⟩ ?_
 rintro i w9 Kn9 ⟨hi,hib,hij,h9,hq⟩ hKn9
 intro _
 simp only [gx]
 have ht9:=ht1.ext h9
 refine iJnB (decide ((i:Int) ≤ j0) && !ltS (gt L1 a) (gt L1 i)) w9 (fun J hJ=>?_) (fun w11 h11=>?_)
 ·refine iLe ?_
  refine iCndP (fun h=>?_) (fun h=>?_)
  ·rw [decide_eq_true h,Bool.true_and] at hJ
   refine iRdO (j:=a) ht9.ow rfl (by omega) ?_
   refine iRdO (j:=i) ht9.ow rfl (by omega) ?_
   exact iRetQ (fun w' _=>aR _ _ w') (iNot hJ)
  ·rw [decide_eq_false h,Bool.false_and] at hJ
   exact hJ
 intro _
 simp only [gx]
 have h9':=h9.trans h11
 cases hc:decide ((i:Int) ≤ j0) && !ltS (gt L1 a) (gt L1 i)
 rotate_left
 ·rw [Bool.and_eq_true,decide_eq_true_eq,Bool.not_eq_true'] at hc
  refine iCndT rfl ?_
  (refine iAdd (by omega) ?_)
  refine hKn9 (i + 1) _ ⟨by omega,by omega,by omega,h9',fun k h1 h2=>?_⟩ (by omega)
  by_cases hk:k = i
  ·rw [hk,← he1];exact hc.2
  ·exact hq k h1 (by omega)
 refine iCndF rfl ?_
 refine iLp (fun j:Int=>[.int .i64 j]) (fun j w'=>j ≤ j0 ∧ (i:Int) - 1 ≤ j + 1 ∧ Ext w7 w' ∧ (j < j0 → (i:Int) - 1 ≤ j)) (fun j=>(j + 2).toNat) j0 rfl ⟨Int.le_refl _,hij,h9',fun h=>by omega⟩ ?_
 rintro j w15 Kn15 ⟨hjj,hij2,h15,hij3⟩ hKn15
 intro _
 simp only [gx]
 have ht15:=ht1.ext h15
 refine iJnB (decide ((i:Int) ≤ j) && ltS (gt L1 a) (gt L1 j.toNat)) w15 (fun J hJ=>?_) (fun w17 h17=>?_)
 ·refine iLe ?_
  refine iCndP (fun h=>?_) (fun h=>?_)
  ·rw [decide_eq_true h,Bool.true_and] at hJ
   refine iRdO (j:=a) ht15.ow rfl (by omega) ?_
   refine iRdO (j:=j.toNat) ht15.ow (by omega) (by omega) ?_
   exact iRetQ (fun w' _=>aR _ _ w') hJ
  ·rw [decide_eq_false h,Bool.false_and] at hJ
   exact hJ
 intro _
 simp only [gx]
 have ht17:=ht15.ext h17
 cases hc2:decide ((i:Int) ≤ j) && ltS (gt L1 a) (gt L1 j.toNat)
 rotate_left
 ·rw [Bool.and_eq_true,decide_eq_true_eq] at hc2
  refine iCndT rfl ?_
  refine iSub (by omega) ?_
  exact hKn15 (j - 1) _ ⟨by omega,by omega,h15.trans h17,fun _=>by omega⟩ (by omega)
 refine iCndF rfl ?_
 refine iLt ?_
 refine iCndP (fun h=>?_) (fun h=>?_)
 ·exact ⟨L1,i,rfl,ht17,hw1,by omega,hib,hq⟩
 ·have hlt:ltS (gt L1 a) (gt L1 j.toNat) = false:=by
   rw [decide_eq_true (show (i:Int) ≤ j by omega),Bool.true_and] at hc2;exact hc2
  refine iRdO (j:=j.toNat) ht17.ow (by omega) (by omega) ?_
  refine iRdO (j:=i) ht17.ow rfl (by omega) ?_
  refine iWr2 (i:=i) (j:=j.toNat) (fun _=>rfl) ht17.ow rfl (by omega) (by omega) (by omega) fun w24 h24=>?_
  refine iAdd (by omega) ?_
  refine iSub (by omega) ?_
  have eS:∀ k,gt (sw L1 i j.toNat) k = if k = j.toNat then gt L1 i else if k = i then gt L1 j.toNat else gt L1 k:=gt_sw (by omega) (by omega)
  refine hKn (i + 1,j - 1) _ ⟨by show a + 1 ≤ i + 1;omega,by show i + 1 ≤ b;omega,by show ((i + 1:Nat):Int) - 1 ≤ j - 1 + 1;omega,by show j - 1 < b;omega,sw L1 i j.toNat,ht17.trans h24,.step hw1 (by omega) (by omega) (by omega) (by omega) hb,by rw [eS,if_neg (by omega),if_neg (by omega)];exact he1,fun k h1 h2=>?_⟩ (by show b - (i + 1) < b - i0;omega)
  have h2:k < i + 1:=h2
  rw [eS]
  by_cases hk:k = i
  ·subst hk
   split
   ·rename_i hkj;rw [← hkj,he1] at hlt;exact hlt
   ·rw [if_pos rfl,← he1];exact hlt
  ·rw [if_neg (by omega),if_neg hk];exact hq k h1 (by omega)
end Go.Proofs.YtkjoppimpmojfaaGreat

namespace Go.Vc
theorem PR {L:List Str} {a b j:Nat} {pv:Str} (haj:a ≤ j) (hjb:j < b) (hb:b ≤ L.length) (he:gt L a = pv) (h1:∀ k,a + 1 ≤ k → k ≤ j → ltS (gt L k) pv = true) (h2:∀ k,j < k → k < b → ltS (gt L k) pv = false):iU ltS a b j (sw L j a):=by
 have e:∀ k,gt (sw L j a) k = if k = a then gt L j else if k = j then gt L a else gt L k:=gt_sw (by omega) (by omega)
 have ej:gt (sw L j a) j = pv:=by
  rw [e]
  split
  ·rename_i h;rw [h];exact he
  ·rw [if_pos rfl];exact he
 refine ⟨fun k hk hk'=>?_,fun k hk hk'=>?_⟩
 ·rw [ej,e]
  by_cases hka:k = a
  ·rw [if_pos hka];exact h1 j (by omega) (Nat.le_refl _)
  ·rw [if_neg hka,if_neg (by omega)];exact h1 k (by omega) (by omega)
 ·rw [ej,e,if_neg (by omega),if_neg (by omega)];exact h2 k hk hk'
end Go.Vc
namespace Go.Proofs.YtkjoppimpmojfaaGreat
open Go.Vc
theorem nW {lo:Nat} {w:World} {v:Value} {L:List Str} {a b t:Nat} (hs:Ow lo aB w v (strs L)) (hat:a ≤ t) (htb:t < b) (hb:b ≤ L.length) (hL:L.length ≤ 1152921504606846976):
  Cal Tryz.prog hZ #[v,.int .i64 (a:Int),.int .i64 (b:Int),.int .i64 (t:Int)] w fun r w'=>∃ L':List Str,∃ m:Nat,∃ y:Bool,r = .tuple #[.int .i64 (m:Int),.bool y] ∧ Turn lo aB sv v w w' L' ∧ SwR a b L L' ∧ a ≤ m ∧ m < b ∧ iU ltS a b m L':=by
 apply oE;unfold gY
 refine iRdO (j:=t) hs rfl (by omega) ?_
 refine iRdO (j:=a) hs rfl (by omega) ?_
 refine iWr2 (i:=a) (j:=t) (fun _=>rfl) hs rfl rfl (by omega) (by omega) fun w7 h5=>?_
 have h5:Turn lo aB sv v w w7 (sw L a t):=h5
 have e0:gt (sw L a t) a = gt L t:=by rw [gt_sw (by omega) (by omega)];split <;> simp_all
 have hw0:SwR a b L (sw L a t):=.one (Nat.le_refl _) (by omega) hat htb hb
 have hl0:=hw0.len
 generalize sw L a t = L0 at h5 e0 hw0 hl0
 (refine iAdd (by omega) ?_;refine iSub (by omega) ?_)
 obtain ⟨i0,hi0⟩:∃ i0,i0 = a + 1:=⟨_,rfl⟩
 obtain ⟨j0,hj0⟩:∃ j0:Int,j0 = (b:Int) - 1:=⟨_,rfl⟩
 rw [show (a:Int) + 1 = (i0:Int) by omega,← hj0]
 refine iLp (fun i:Nat=>[.int .i64 (i:Int)]) (fun i w'=>i0 ≤ i ∧ (i:Int) ≤ j0 + 1 ∧ Ext w7 w' ∧ ∀ k,a + 1 ≤ k → k < i → ltS (gt L0 k) (gt L t) = true) (fun i=>b - i) i0 rfl ⟨Nat.le_refl _,by omega,Ext.refl _,fun k h1 h2=>by omega⟩ ?_
 rintro i w9 Kn9 ⟨hi,hij,h9,hq⟩ hKn9
 intro _
 simp only [gx]
 have ht9:=h5.ext h9
 refine iJnB (decide ((i:Int) ≤ j0) && ltS (gt L0 i) (gt L0 a)) w9 (fun J hJ=>?_) (fun w11 h11=>?_)
 ·refine iLe ?_
  refine iCndP (fun h=>?_) (fun h=>?_)
  ·rw [decide_eq_true h,Bool.true_and] at hJ
   refine iRdO (j:=i) ht9.ow rfl (by omega) ?_
   refine iRdO (j:=a) ht9.ow rfl (by omega) ?_
   exact iRetQ (fun w' _=>aR _ _ w') hJ
  ·rw [decide_eq_false h,Bool.false_and] at hJ
   exact hJ
 intro _
 simp only [gx]
 have h9':=h9.trans h11
 cases hc:decide ((i:Int) ≤ j0) && ltS (gt L0 i) (gt L0 a)
 rotate_left
 ·rw [Bool.and_eq_true,decide_eq_true_eq] at hc
  refine iCndT rfl ?_
  (refine iAdd (by omega) ?_)
  refine hKn9 (i + 1) _ ⟨by omega,by omega,h9',fun k h1 h2=>?_⟩ (by omega)
  by_cases hk:k = i
  ·rw [hk,← e0];exact hc.2
  ·exact hq k h1 (by omega)
 refine iCndF rfl ?_
 refine iLp (fun j:Int=>[.int .i64 j]) (fun j w'=>j ≤ j0 ∧ (i:Int) ≤ j + 1 ∧ Ext w7 w' ∧ ∀ k:Nat,j < k → k < b → ltS (gt L0 k) (gt L t) = false) (fun j=>(j + 2).toNat) j0 rfl ⟨Int.le_refl _,hij,h9',fun k h1 h2=>by omega⟩ ?_
 rintro j w15 Kn15 ⟨hjj,hij2,h15,hq2⟩ hKn15
 intro _
 simp only [gx]
 have ht15:=h5.ext h15
 refine iJnB (decide ((i:Int) ≤ j) && !ltS (gt L0 j.toNat) (gt L0 a)) w15 (fun J hJ=>?_) (fun w17 h17=>?_)
 ·refine iLe ?_
  refine iCndP (fun h=>?_) (fun h=>?_)
  ·rw [decide_eq_true h,Bool.true_and] at hJ
   refine iRdO (j:=j.toNat) ht15.ow (by omega) (by omega) ?_
   refine iRdO (j:=a) ht15.ow rfl (by omega) ?_
   exact iRetQ (fun w' _=>aR _ _ w') (iNot hJ)
  ·rw [decide_eq_false h,Bool.false_and] at hJ
   exact hJ
 intro _
 simp only [gx]
 have ht17:=ht15.ext h17
 cases hc2:decide ((i:Int) ≤ j) && !ltS (gt L0 j.toNat) (gt L0 a)
 rotate_left
 ·rw [Bool.and_eq_true,decide_eq_true_eq,Bool.not_eq_true'] at hc2
  refine iCndT rfl ?_
  refine iSub (by omega) ?_
  refine hKn15 (j - 1) _ ⟨by omega,by omega,h15.trans h17,fun k h1 h2=>?_⟩ (by omega)
  by_cases hk:(k:Int) = j
  ·rw [show k = j.toNat by omega,← e0];exact hc2.2
  ·exact hq2 k (by omega) h2
 refine iCndF rfl ?_
 refine iLt ?_
 refine iCndP (fun h=>?_) (fun h=>?_)
 ·refine iRdO (j:=a) ht17.ow rfl (by omega) ?_
  refine iRdO (j:=j.toNat) ht17.ow (by omega) (by omega) ?_
  refine iWr2 (i:=j.toNat) (j:=a) (fun _=>rfl) ht17.ow (by omega) rfl (by omega) (by omega) fun w22 h22=>?_
  exact ⟨sw L0 j.toNat a,j.toNat,true,by rw [Int.toNat_of_nonneg (by omega)],ht17.trans h22,.step hw0 (by omega) (by omega) (Nat.le_refl _) (by omega) hb,by omega,by omega,PR (by omega) (by omega) (by omega) e0 (fun k h1 h2=>hq k h1 (by omega)) (fun k h1 h2=>hq2 k (by omega) h2)⟩
 have hlt1:ltS (gt L0 i) (gt L t) = false:=by
  rw [decide_eq_true (show (i:Int) ≤ j0 by omega),Bool.true_and,e0] at hc;exact hc
 have hlt2:ltS (gt L0 j.toNat) (gt L t) = true:=by
  rw [decide_eq_true (show (i:Int) ≤ j by omega),Bool.true_and,Bool.not_eq_false',e0] at hc2;exact hc2
 have hne:i ≠ j.toNat:=fun e=>by rw [e,hlt2] at hlt1;cases hlt1
 refine iRdO (j:=j.toNat) ht17.ow (by omega) (by omega) ?_
 refine iRdO (j:=i) ht17.ow rfl (by omega) ?_
 refine iWr2 (i:=i) (j:=j.toNat) (fun _=>rfl) ht17.ow rfl (by omega) (by omega) (by omega) fun w24 h24=>?_
 refine iAdd (by omega) ?_
 refine iSub (by omega) ?_
 have eS:∀ k,gt (sw L0 i j.toNat) k = if k = j.toNat then gt L0 i else if k = i then gt L0 j.toNat else gt L0 k:=gt_sw (by omega) (by omega)
 have nx1:∀ k,a + 1 ≤ k → k < i + 1 → ltS (gt (sw L0 i j.toNat) k) (gt L t) = true:=fun k h1 h2=>by
  rw [eS,if_neg (by omega)]
  by_cases hk:k = i
  ·rw [if_pos hk];exact hlt2
  ·rw [if_neg hk];exact hq k h1 (by omega)
 have nx2:∀ k:Nat,j - 1 < k → k < b → ltS (gt (sw L0 i j.toNat) k) (gt L t) = false:=fun k h1 h2=>by
  rw [eS]
  by_cases hk:k = j.toNat
  ·rw [if_pos hk];exact hlt1
  ·rw [if_neg hk,if_neg (by omega)];exact hq2 k (by omega) h2
 have nxe:gt (sw L0 i j.toNat) a = gt L t:=by rw [eS,if_neg (by omega),if_neg (by omega)];exact e0
 refine iLp (fun s:Nat × Int=>[.int .i64 (s.1:Int),.int .i64 s.2]) (fun s w'=>a + 1 ≤ s.1 ∧ (s.1:Int) ≤ s.2 + 1 ∧ s.2 < b ∧ ∃ L',Turn lo aB sv v w w' L' ∧ SwR a b L L' ∧ gt L' a = gt L t ∧ (∀ k,a + 1 ≤ k → k < s.1 → ltS (gt L' k) (gt L t) = true) ∧ ∀ k:Nat,s.2 < k → k < b → ltS (gt L' k) (gt L t) = false) (fun s=>b - s.1) (i + 1,j - 1) rfl
  ⟨by show a + 1 ≤ i + 1;omega,by show ((i + 1:Nat):Int) ≤ j - 1 + 1;omega,by show j - 1 < b;omega,sw L0 i j.toNat,ht17.trans h24,.step hw0 (by omega) (by omega) (by omega) (by omega) hb,nxe,nx1,nx2⟩ ?_
 clear hKn9 hKn15 nxe nx1 nx2 eS hq hq2
 rintro ⟨i1,j1⟩ w29 Kn ⟨hi1,hij1,hjb1,L1,ht1,hw1,he1,hq1,hq21⟩ hKn
 have hi1:a + 1 ≤ i1:=hi1
 have hij1:(i1:Int) ≤ j1 + 1:=hij1
 have hjb1:j1 < b:=hjb1
 have hl1:=hw1.len
 intro _
 simp only [gx]
 refine iLp (fun i:Nat=>[.int .i64 (i:Int)]) (fun i w'=>i1 ≤ i ∧ (i:Int) ≤ j1 + 1 ∧ Ext w29 w' ∧ ∀ k,a + 1 ≤ k → k < i → ltS (gt L1 k) (gt L t) = true) (fun i=>b - i) i1 rfl ⟨Nat.le_refl _,by omega,Ext.refl _,hq1⟩ ?_
 rintro i w9 Kn9 ⟨hi,hij,h9,hq⟩ hKn9
 intro _
 simp only [gx]
 have ht9:=ht1.ext h9
 refine iJnB (decide ((i:Int) ≤ j1) && ltS (gt L1 i) (gt L1 a)) w9 (fun J hJ=>?_) (fun w11 h11=>?_)
 ·refine iLe ?_
  refine iCndP (fun h=>?_) (fun h=>?_)
  ·rw [decide_eq_true h,Bool.true_and] at hJ
   refine iRdO (j:=i) ht9.ow rfl (by omega) ?_
   refine iRdO (j:=a) ht9.ow rfl (by omega) ?_
   exact iRetQ (fun w' _=>aR _ _ w') hJ
  ·rw [decide_eq_false h,Bool.false_and] at hJ
   exact hJ
 intro _
 simp only [gx]
 have h9':=h9.trans h11
 cases hc:decide ((i:Int) ≤ j1) && ltS (gt L1 i) (gt L1 a)
 rotate_left
 ·rw [Bool.and_eq_true,decide_eq_true_eq] at hc
  refine iCndT rfl ?_
  (refine iAdd (by omega) ?_)
  refine hKn9 (i + 1) _ ⟨by omega,by omega,h9',fun k h1 h2=>?_⟩ (by omega)
  by_cases hk:k = i
  ·rw [hk,← he1];exact hc.2
  ·exact hq k h1 (by omega)
 refine iCndF rfl ?_
 refine iLp (fun j:Int=>[.int .i64 j]) (fun j w'=>j ≤ j1 ∧ (i:Int) ≤ j + 1 ∧ Ext w29 w' ∧ ∀ k:Nat,j < k → k < b → ltS (gt L1 k) (gt L t) = false) (fun j=>(j + 2).toNat) j1 rfl ⟨Int.le_refl _,hij,h9',hq21⟩ ?_
 rintro j w15 Kn15 ⟨hjj,hij2,h15,hq2⟩ hKn15
 intro _
 simp only [gx]
 have ht15:=ht1.ext h15
 refine iJnB (decide ((i:Int) ≤ j) && !ltS (gt L1 j.toNat) (gt L1 a)) w15 (fun J hJ=>?_) (fun w17 h17=>?_)
 ·refine iLe ?_
  refine iCndP (fun h=>?_) (fun h=>?_)
  ·rw [decide_eq_true h,Bool.true_and] at hJ
   refine iRdO (j:=j.toNat) ht15.ow (by omega) (by omega) ?_
   refine iRdO (j:=a) ht15.ow rfl (by omega) ?_
   exact iRetQ (fun w' _=>aR _ _ w') (iNot hJ)
  ·rw [decide_eq_false h,Bool.false_and] at hJ
   exact hJ
 intro _
 simp only [gx]
 have ht17:=ht15.ext h17
 cases hc2:decide ((i:Int) ≤ j) && !ltS (gt L1 j.toNat) (gt L1 a)
 rotate_left
 ·rw [Bool.and_eq_true,decide_eq_true_eq,Bool.not_eq_true'] at hc2
  refine iCndT rfl ?_
  refine iSub (by omega) ?_
  refine hKn15 (j - 1) _ ⟨by omega,by omega,h15.trans h17,fun k h1 h2=>?_⟩ (by omega)
  by_cases hk:(k:Int) = j
  ·rw [show k = j.toNat by omega,← he1];exact hc2.2
  ·exact hq2 k (by omega) h2
 refine iCndF rfl ?_
 refine iLt ?_
 refine iCndP (fun h=>?_) (fun h=>?_)
 ·refine iRdO (j:=a) ht17.ow rfl (by omega) ?_
  refine iRdO (j:=j.toNat) ht17.ow (by omega) (by omega) ?_
  refine iWr2 (i:=j.toNat) (j:=a) (fun _=>rfl) ht17.ow (by omega) rfl (by omega) (by omega) fun w22 h22=>?_
  exact ⟨sw L1 j.toNat a,j.toNat,false,by rw [Int.toNat_of_nonneg (by omega)],ht17.trans h22,.step hw1 (by omega) (by omega) (Nat.le_refl _) (by omega) hb,by omega,by omega,PR (by omega) (by omega) (by omega) he1 (fun k h1 h2=>hq k h1 (by omega)) (fun k h1 h2=>hq2 k (by omega) h2)⟩
 have hlt1:ltS (gt L1 i) (gt L t) = false:=by
  rw [decide_eq_true (show (i:Int) ≤ j1 by omega),Bool.true_and,he1] at hc;exact hc
 have hlt2:ltS (gt L1 j.toNat) (gt L t) = true:=by
  rw [decide_eq_true (show (i:Int) ≤ j by omega),Bool.true_and,Bool.not_eq_false',he1] at hc2;exact hc2
 have hne:i ≠ j.toNat:=fun e=>by rw [e,hlt2] at hlt1;cases hlt1
 refine iRdO (j:=j.toNat) ht17.ow (by omega) (by omega) ?_
 refine iRdO (j:=i) ht17.ow rfl (by omega) ?_
 refine iWr2 (i:=i) (j:=j.toNat) (fun _=>rfl) ht17.ow rfl (by omega) (by omega) (by omega) fun w24 h24=>?_
 refine iAdd (by omega) ?_
 refine iSub (by omega) ?_
 have eS:∀ k,gt (sw L1 i j.toNat) k = if k = j.toNat then gt L1 i else if k = i then gt L1 j.toNat else gt L1 k:=gt_sw (by omega) (by omega)
 have nx1:∀ k,a + 1 ≤ k → k < i + 1 → ltS (gt (sw L1 i j.toNat) k) (gt L t) = true:=fun k h1 h2=>by
  rw [eS,if_neg (by omega)]
  by_cases hk:k = i
  ·rw [if_pos hk];exact hlt2
  ·rw [if_neg hk];exact hq k h1 (by omega)
 have nx2:∀ k:Nat,j - 1 < k → k < b → ltS (gt (sw L1 i j.toNat) k) (gt L t) = false:=fun k h1 h2=>by
  rw [eS]
  by_cases hk:k = j.toNat
  ·rw [if_pos hk];exact hlt1
  ·rw [if_neg hk,if_neg (by omega)];exact hq2 k (by omega) h2
 have nxe:gt (sw L1 i j.toNat) a = gt L t:=by rw [eS,if_neg (by omega),if_neg (by omega)];exact he1
 exact hKn (i + 1,j - 1) _ ⟨by show a + 1 ≤ i + 1;omega,by show ((i + 1:Nat):Int) ≤ j - 1 + 1;omega,by show j - 1 < b;omega,sw L1 i j.toNat,ht17.trans h24,.step hw1 (by omega) (by omega) (by omega) (by omega) hb,nxe,nx1,nx2⟩ (by show b - (i + 1) < b - i1;omega)
theorem jB {lo:Nat} {w:World} {v:Value} {L:List Str} {a b:Nat} (hs:Ow lo aB w v (strs L)) (hab:a < b) (hb:b ≤ L.length) (hL:L.length ≤ 1152921504606846976) (hbl:Blw ltS a b L):
  Cal Tryz.prog dR #[v,.int .i64 (a:Int),.int .i64 (b:Int)] w fun r w'=>∃ y:Bool,∃ L':List Str,r = .bool y ∧ Turn lo aB sv v w w' L' ∧ SwR a b L L' ∧ (y = true → Srt ltS a b L'):=by
 apply jR;unfold dT
 (refine iAdd (by omega) ?_)
 refine iLp (fun s:Nat × Nat=>[.int .i64 (s.1:Int),.int .i64 (s.2:Int)]) (fun s w'=>a + 1 ≤ s.1 ∧ s.1 ≤ b ∧ s.2 ≤ 5 ∧ ∃ L',Turn lo aB sv v w w' L' ∧ SwR a b L L' ∧ Srt ltS a s.1 L') (fun s=>5 - s.2) (a + 1,0) rfl ⟨Nat.le_refl _,by show a + 1 ≤ b;omega,Nat.zero_le _,L,Turn.refl hs,.refl,Srt.short (Nat.le_refl _)⟩ ?_
 rintro ⟨i0,r⟩ w2 Kn ⟨hi0,hib0,hr,L1,ht1,hw1,hs1⟩ hKn
 have hi0:a + 1 ≤ i0:=hi0
 have hib0:i0 ≤ b:=hib0
 have hr:r ≤ 5:=hr
 have hs1:Srt ltS a i0 L1:=hs1
 have hl1:=hw1.len
 intro _
 simp only [gx]
 refine iLt ?_
 refine iCndP (fun h5=>?_) (fun h5=>?_)
 rotate_left
 ·exact ⟨false,L1,rfl,ht1,hw1,fun h=>by cases h⟩
 refine iLp (fun i:Nat=>[.int .i64 (i:Int)]) (fun i w'=>i0 ≤ i ∧ i ≤ b ∧ Ext w2 w' ∧ Srt ltS a i L1) (fun i=>b - i) i0 rfl ⟨Nat.le_refl _,hib0,Ext.refl _,hs1⟩ ?_
 rintro i w4 Kn4 ⟨hi,hib,h4,hsi⟩ hKn4
 intro _
 simp only [gx]
 have ht4:=ht1.ext h4
 refine iJnB (decide (i < b) && !ltS (gt L1 i) (gt L1 (i - 1))) w4 (fun J hJ=>?_) (fun w6 h6=>?_)
 ·refine iLt ?_
  refine iCndP (fun h=>?_) (fun h=>?_)
  ·rw [decide_eq_true (show i < b by omega),Bool.true_and] at hJ
   refine iRdO (j:=i) ht4.ow rfl (by omega) ?_
   refine iSub (by omega) ?_
   refine iRdO (j:=i - 1) ht4.ow (by omega) (by omega) ?_
   exact iRetQ (fun w' _=>aR _ _ w') (iNot hJ)
  ·rw [decide_eq_false (show ¬ i < b by omega),Bool.false_and] at hJ
   exact hJ
 intro _
 simp only [gx]
 have ht6:=ht4.ext h6
 cases hc:decide (i < b) && !ltS (gt L1 i) (gt L1 (i - 1))
 rotate_left
 ·rw [Bool.and_eq_true,decide_eq_true_eq,Bool.not_eq_true'] at hc
  refine iCndT rfl ?_
  refine iAdd (by omega) ?_
  refine hKn4 (i + 1) _ ⟨by omega,by omega,h4.trans h6,fun p q g1 g2 g3=>?_⟩ (by omega)
  by_cases hq:q = i
  ·subst hq
   by_cases hp:p = q - 1
   ·rw [hp];exact hc.2
   ·exact ordrS.tr (hsi p (q - 1) g1 (by omega) (by omega)) hc.2
  ·exact hsi p q g1 g2 (by omega)
 refine iCndF rfl ?_
 refine iEq ?_
 refine iCndP (fun h=>?_) (fun h=>?_)
 ·have:i = b:=by omega
  subst this
  exact ⟨true,L1,rfl,ht6,hw1,fun _=>hsi⟩
 have hlt:ltS (gt L1 i) (gt L1 (i - 1)) = true:=by
  rw [decide_eq_true (show i < b by omega),Bool.true_and,Bool.not_eq_false'] at hc;exact hc
 refine iSub (by omega) ?_
 refine iLt ?_
 refine iCndP (fun h7=>?_) (fun h7=>?_)
 ·exact ⟨false,L1,rfl,ht6,hw1,fun h=>by cases h⟩
 refine iSub (by omega) ?_
 refine iSub (by omega) ?_
 refine iRdO (j:=i - 1) ht6.ow (by omega) (by omega) ?_
 refine iRdO (j:=i) ht6.ow rfl (by omega) ?_
 refine iWr2 (i:=i) (j:=i - 1) (fun _=>rfl) ht6.ow rfl (by omega) (by omega) (by omega) fun w13 h13=>?_
 have h13:Turn lo aB sv v w6 w13 (sw L1 i (i - 1)):=h13
 have hw2:SwR a b L1 (sw L1 i (i - 1)):=.one (by omega) (by omega) (by omega) (by omega) (by omega)
 have hs2:Srt ltS a (i - 1) (sw L1 i (i - 1)):=(hsi.mono (Nat.le_refl _) (by omega)).out (SwR.one (a:=i - 1) (b:=b) (by omega) (by omega) (by omega) (by omega) (by omega)) (.inr (Nat.le_refl _))
 have ht13:=ht6.trans h13
 have hw13:=hw1.trans hw2
 generalize sw L1 i (i - 1) = L2 at h13 hw2 hs2 ht13 hw13
 have hl2:=hw13.len
 have hbl2:Blw ltS a b L2:=hbl.keep hw13 (Nat.le_refl _) (Nat.le_refl _)
 refine iSub (by omega) ?_
 refine iLe ?_
 refine iJnX (fun _ w'=>∃ L',Turn lo aB sv v w w' L' ∧ SwR a b L L' ∧ Srt ltS a i L') (fun J hJ=>?_) ?_
 ·refine iCndP (fun h8=>?_) (fun h8=>?_)
  ·refine iSub (by omega) ?_
   refine iLp (fun j:Nat=>[.int .i64 (j:Int)]) (fun j w'=>a ≤ j ∧ j ≤ i - 1 ∧ ∃ L',Turn lo aB sv v w w' L' ∧ SwR a b L L' ∧ Blw ltS a b L' ∧ Ins ltS a (i - 1) j L') (fun j=>j) (i - 1) (by congr 2;omega) ⟨by omega,Nat.le_refl _,L2,ht13,hw13,hbl2,Ins.init hs2⟩ ?_
   rintro j w17 Kn17 ⟨haj,hji,L3,ht3,hw3,hbl3,hin⟩ hKn17
   have hl3:=hw3.len
   intro _
   simp only [gx]
   refine iLe ?_
   refine iCndP (fun h9=>?_) (fun h9=>?_)
   ·refine iRdO (j:=j) ht3.ow rfl (by omega) ?_
    refine iSub (by omega) ?_
    refine iRdO (j:=j - 1) ht3.ow (by omega) (by omega) ?_
    refine iRetQ (fun w' _=>aR _ _ w') ?_
    refine iNot ?_
    intro w18 h18
    have ht18:=ht3.ext h18
    refine iCnd (fun h10=>?_) (fun h10=>?_)
    ·have h10:ltS (gt L3 j) (gt L3 (j - 1)) = false:=by simpa using h10
     refine hJ _ _ ⟨L3,ht18,hw3,?_⟩
     have:=hin.done ordrS (by rcases Nat.lt_or_ge a j with h' | h';exact .inr ⟨h',h10⟩;exact .inl h') hji
     rwa [show i - 1 + 1 = i by omega] at this
    ·have h10:ltS (gt L3 j) (gt L3 (j - 1)) = true:=by simpa using h10
     have haj':a < j:=by
      rcases Nat.lt_or_ge a j with h' | h'
      ·exact h'
      ·have e:j = a:=by omega
       subst e
       have:=hbl3 j (Nat.le_refl _) (by omega) (by omega)
       rw [h10] at this;cases this
     refine iSub (by omega) ?_
     refine iSub (by omega) ?_
     refine iRdO (j:=j - 1) ht18.ow (by omega) (by omega) ?_
     refine iRdO (j:=j) ht18.ow rfl (by omega) ?_
     refine iWr2 (i:=j) (j:=j - 1) (fun _=>rfl) ht18.ow rfl (by omega) (by omega) (by omega) fun w23 h23=>?_
     refine iSub (by omega) ?_
     rw [show (j:Int) - 1 = ((j - 1:Nat):Int) by omega]
     have hw4:SwR a b L3 (sw L3 j (j - 1)):=.one (by omega) (by omega) (by omega) (by omega) (by omega)
     exact hKn17 (j - 1) _ ⟨by omega,by omega,sw L3 j (j - 1),ht18.trans h23,hw3.trans hw4,hbl3.keep hw4 (Nat.le_refl _) (Nat.le_refl _),hin.swap ordrS haj' hji (by omega) h10⟩ (by omega)
   ·refine hJ _ _ ⟨L3,ht3,hw3,?_⟩
    have:=hin.done ordrS (.inl (by omega)) hji
    rwa [show i - 1 + 1 = i by omega] at this
  ·exact hJ _ _ ⟨L2,ht13,hw13,Srt.short (by omega)⟩
 rintro xs w15 ⟨L3,ht3,hw3,hs3⟩
 have hl3:=hw3.len
 intro _
 refine iSub (by omega) ?_
 refine iLe ?_
 refine iCndP (fun h8=>?_) (fun h8=>?_)
 ·refine iAdd (by omega) ?_
  refine iLp (fun j:Nat=>[.int .i64 (j:Int)]) (fun j w'=>i + 1 ≤ j ∧ j ≤ b ∧ ∃ L',Turn lo aB sv v w w' L' ∧ SwR a b L L' ∧ Srt ltS a i L') (fun j=>b - j) (i + 1) rfl ⟨Nat.le_refl _,by omega,L3,ht3,hw3,hs3⟩ ?_
  rintro j w25 Kn25 ⟨hij,hjb,L4,ht4,hw4,hs4⟩ hKn25
  have hl4:=hw4.len
  intro _
  simp only [gx]
  refine iLt ?_
  refine iCndP (fun h9=>?_) (fun h9=>?_)
  ·refine iRdO (j:=j) ht4.ow rfl (by omega) ?_
   refine iSub (by omega) ?_
   refine iRdO (j:=j - 1) ht4.ow (by omega) (by omega) ?_
   refine iRetQ (fun w' _=>aR _ _ w') ?_
   refine iNot ?_
   intro w26 h26
   have ht26:=ht4.ext h26
   refine iCnd (fun h10=>?_) (fun h10=>?_)
   ·refine iAdd (by omega) ?_
    exact hKn (i,r + 1) _ ⟨by show a + 1 ≤ i;omega,hib,by show r + 1 ≤ 5;omega,L4,ht26,hw4,hs4⟩ (by show 5 - (r + 1) < 5 - r;omega)
   ·refine iSub (by omega) ?_
    refine iSub (by omega) ?_
    refine iRdO (j:=j - 1) ht26.ow (by omega) (by omega) ?_
    refine iRdO (j:=j) ht26.ow rfl (by omega) ?_
    refine iWr2 (i:=j) (j:=j - 1) (fun _=>rfl) ht26.ow rfl (by omega) (by omega) (by omega) fun w31 h31=>?_
    refine iAdd (by omega) ?_
    exact hKn25 (j + 1) _ ⟨by omega,by omega,sw L4 j (j - 1),ht26.trans h31,.step hw4 (by omega) (by omega) (by omega) (by omega) hb,hs4.out (SwR.one (a:=i) (b:=b) (by omega) (by omega) (by omega) (by omega) (by omega)) (.inr (Nat.le_refl _))⟩ (by omega)
  ·refine iAdd (by omega) ?_
   exact hKn (i,r + 1) _ ⟨by show a + 1 ≤ i;omega,hib,by show r + 1 ≤ 5;omega,L4,ht4,hw4,hs4⟩ (by show 5 - (r + 1) < 5 - r;omega)
 ·refine iAdd (by omega) ?_
  exact hKn (i,r + 1) _ ⟨by show a + 1 ≤ i;omega,hib,by show r + 1 ≤ 5;omega,L3,ht3,hw3,hs3⟩ (by show 5 - (r + 1) < 5 - r;omega)
theorem o5 {lo:Nat} {v:Value}:∀ (n:Nat) {w:World} {L:List Str} {a b:Nat} {lim:Int},b - a ≤ n → Ow lo aB w v (strs L) → a ≤ b → b ≤ L.length → L.length ≤ 1152921504606846976 → Blw ltS a b L → 0 ≤ lim ∧ lim ≤ 64 →
  Cal Tryz.prog iS #[v,.int .i64 (a:Int),.int .i64 (b:Int),.int .i64 lim] w fun _ w'=>∃ L',Turn lo aB sv v w w' L' ∧ SwR a b L L' ∧ Srt ltS a b L':=by
 intro n
 induction n using Nat.strongRecOn with
 | ind n ih=>
 intro w L a0 b0 lim0 hn hs hab hb hL hbl hlim
 apply pR;unfold i6
 refine iLp (fun s:Nat × Nat × Int × Bool × Bool=>[.int .i64 (s.1:Int),.int .i64 (s.2.1:Int),.int .i64 s.2.2.1,.bool s.2.2.2.1,.bool s.2.2.2.2]) (fun s w'=>a0 ≤ s.1 ∧ s.1 ≤ s.2.1 ∧ s.2.1 ≤ b0 ∧ (0 ≤ s.2.2.1 ∧ s.2.2.1 ≤ 64) ∧ ∃ L',Turn lo aB sv v w w' L' ∧ SwR a0 b0 L L' ∧ Blw ltS s.1 s.2.1 L' ∧ Crs ltS a0 b0 s.1 s.2.1 L') (fun s=>s.2.1 - s.1) (a0,b0,lim0,true,true) rfl
  ⟨Nat.le_refl _,hab,Nat.le_refl _,hlim,L,Turn.refl hs,.refl,hbl,Crs.all⟩ ?_
 rintro ⟨a,b,lim,bal,par⟩ w2 Kn ⟨ha,hab,hbb,hlim,L1,ht1,hw1,hbl1,hcr1⟩ hKn
 have ha:a0 ≤ a:=ha
 have hab:a ≤ b:=hab
 have hbb:b ≤ b0:=hbb
 have hlim:0 ≤ lim ∧ lim ≤ 64:=hlim
 have hbl1:Blw ltS a b L1:=hbl1
 have hcr1:Crs ltS a0 b0 a b L1:=hcr1
 have hl1:=hw1.len
 intro _
 simp only [gx]
 -- a sorted window closes the work
 have fin:∀ {L' L'':List Str} {w':World} {a b:Nat},Turn lo aB sv v w w' L'' → SwR a0 b0 L L' → SwR a b L' L'' → a0 ≤ a → b ≤ b0 → Crs ltS a0 b0 a b L' → Srt ltS a b L'' → ∃ L',Turn lo aB sv v w w' L' ∧ SwR a0 b0 L L' ∧ Srt ltS a0 b0 L':=
  fun {L' L'' w' a b} h1 h2 h3 h4 h5 h6 h7=>⟨L'',h1,h2.trans (h3.mono h4 h5 (by rw [h2.len];exact hb)),h6.done h3 h4 h5 h7⟩
 refine iSub (by omega) ?_
 refine iLe ?_
 refine iCndP (fun h=>?_) (fun h=>?_)
 ·refine iCall ?_
  refine (lJ ht1.ow hab (by omega) (by omega)).mono fun _ w3 h3=>?_
  obtain ⟨L2,ht2,hw2,hs2⟩:=h3
  exact fin (ht1.trans ht2) hw1 hw2 ha hbb hcr1 hs2
 refine iEq ?_
 refine iCndP (fun h0=>?_) (fun h0=>?_)
 ·refine iCall ?_
  refine (oM ht1.ow (by omega) (by omega) (by omega)).mono fun _ w3 h3=>?_
  obtain ⟨L2,ht2,hw2,hs2⟩:=h3
  exact fin (ht1.trans ht2) hw1 hw2 ha hbb hcr1 hs2
 refine iNot ?_
 refine iJnX (fun xs w'=>∃ l2:Int,∃ L',xs = [.int .i64 l2] ∧ (0 ≤ l2 ∧ l2 ≤ 64) ∧ Turn lo aB sv v w w' L' ∧ SwR a b L1 L') (fun J hJ=>?_) ?_
 ·refine iCnd (fun _=>?_) (fun _=>?_)
  ·refine iCall ?_
   refine (lK ht1.ow hab (by omega) (by omega)).mono fun _ w3 h3=>?_
   obtain ⟨L2,ht2,hw2⟩:=h3
   refine iSub (by omega) ?_
   exact hJ _ _ ⟨lim - 1,L2,rfl,by omega,ht1.trans ht2,hw2⟩
  ·exact hJ _ _ ⟨lim,L1,rfl,hlim,ht1,.refl⟩
 rintro xs w6 ⟨lim,L2,rfl,hlim,ht2,hw2⟩
 have hl2:=hw2.len
 intro _
 simp only [gx]
 refine iCall ?_
 refine (mG ht2.ow (by omega) (by omega) (by omega)).mono fun r w8 h8=>?_
 obtain ⟨h8,t,x,rfl,hat,htb⟩:=h8
 have ht8:=ht2.ext h8
 refine iE20 ?_
 refine iE21 ?_
 refine iEq ?_
 refine iJnX (fun xs w'=>∃ t:Nat,∃ x:Int,∃ L',xs = [.int .i64 (t:Int),.int .i64 x] ∧ a ≤ t ∧ t < b ∧ Turn lo aB sv v w w' L' ∧ SwR a b L1 L') (fun J hJ=>?_) ?_
 ·refine iCndP (fun _=>?_) (fun _=>?_)
  ·refine iCall ?_
   refine (l6 ht8.ow hab (by omega) (by omega)).mono fun _ w3 h3=>?_
   obtain ⟨L3,ht3,hw3⟩:=h3
   refine iSub (by omega) ?_
   refine iSub (by omega) ?_
   refine iSub (by omega) ?_
   exact hJ _ _ ⟨b - 1 - (t - a),1,L3,by congr 2;omega,by omega,by omega,ht8.trans ht3,hw2.trans hw3⟩
  ·exact hJ _ _ ⟨t,x,L2,rfl,hat,htb,ht8,hw2⟩
 clear hat htb
 rintro xs w10 ⟨t,x,L3,rfl,hat,htb,ht3,hw3⟩
 intro _
 simp only [gx]
 refine iJnX (fun xs w'=>∃ y:Bool,xs = [.bool y] ∧ Ext w10 w') (fun J hJ=>?_) ?_
 ·refine iCnd (fun _=>?_) (fun _=>?_)
  ·refine iCnd (fun _=>?_) (fun _=>?_)
   ·refine iEq ?_
    exact hJ _ _ ⟨_,rfl,Ext.refl _⟩
   ·exact hJ _ _ ⟨false,rfl,Ext.refl _⟩
  ·exact hJ _ _ ⟨false,rfl,Ext.refl _⟩
 rintro xs w13 ⟨y,rfl,h13⟩
 intro _
 simp only [gx]
 have ht13:=ht3.ext h13
 have hl3:=hw3.len
 refine iJnX (fun _ w'=>∃ L',Turn lo aB sv v w w' L' ∧ SwR a b L1 L') (fun J hJ=>?_) ?_
 ·refine iCnd (fun _=>?_) (fun _=>?_)
  ·refine iCall ?_
   refine (jB ht13.ow (by omega) (by omega) (by omega) (hbl1.keep hw3 (Nat.le_refl _) (Nat.le_refl _))).mono fun r w3 h3=>?_
   obtain ⟨y',L4,rfl,ht4,hw4,hs4⟩:=h3
   refine iCnd (fun hy=>?_) (fun hy=>?_)
   ·exact fin (ht13.trans ht4) hw1 (hw3.trans hw4) ha hbb hcr1 (hs4 hy)
   ·exact hJ _ _ ⟨L4,ht13.trans ht4,hw3.trans hw4⟩
  ·exact hJ _ _ ⟨L3,ht13,hw3⟩
 clear ht3 hw3 ht13 ht8 ht2 hw2 hl2 hl3
 rintro xs w15 ⟨L3,ht3,hw3⟩
 have hl3:=hw3.len
 have hw3':SwR a0 b0 L L3:=hw1.trans (hw3.mono ha hbb (by omega))
 have hbl3:Blw ltS a b L3:=hbl1.keep hw3 (Nat.le_refl _) (Nat.le_refl _)
 have hcr3:Crs ltS a0 b0 a b L3:=hcr1.keep hw3 ha hbb
 intro _
 refine iJnB (decide (0 < a) && !ltS (gt L3 (a - 1)) (gt L3 t)) w15 (fun J hJ=>?_) (fun w18 h18=>?_)
 ·refine iLt ?_
  refine iCndP (fun h5=>?_) (fun h5=>?_)
  ·rw [decide_eq_true (show 0 < a by omega),Bool.true_and] at hJ
   refine iSub (by omega) ?_
   refine iRdO (j:=a - 1) ht3.ow (by omega) (by omega) ?_
   refine iRdO (j:=t) ht3.ow rfl (by omega) ?_
   exact iRetQ (fun w' _=>aR _ _ w') (iNot hJ)
  ·rw [decide_eq_false (show ¬ 0 < a by omega),Bool.false_and] at hJ
   exact hJ
 intro _
 simp only [gx]
 have ht18:=ht3.ext h18
 cases hc:decide (0 < a) && !ltS (gt L3 (a - 1)) (gt L3 t)
 rotate_left
 ·rw [Bool.and_eq_true,decide_eq_true_eq,Bool.not_eq_true'] at hc
  refine iCndT rfl ?_
  refine iCall ?_
  refine (lA ht18.ow hat htb (by omega) (by omega)).mono fun r w21 h21=>?_
  obtain ⟨L4,m,rfl,ht4,hw4,ham,hmb,hle⟩:=h21
  have hge:∀ k,a ≤ k → k < b → ltS (gt L4 k) (gt L3 t) = false:=hw4.all (p:=fun z=>ltS z (gt L3 t) = false) fun k hk hk'=>ordrS.tr hc.2 (hbl3 k hk hk' (by omega))
  refine hKn (m,b,lim,bal,par) _ ⟨by show a0 ≤ m;omega,hmb,hbb,hlim,L4,ht18.trans ht4,hw3'.trans (hw4.mono ha hbb (by rw [hw3'.len];omega)),TU ordrS hge hle ham,UF ordrS (hcr3.keep hw4 ha hbb) hge hle hmb⟩ (by show b - m < b - a;omega)
 refine iCndF rfl ?_
 refine iCall ?_
 refine (nW ht18.ow hat htb (by omega) (by omega)).mono fun r w22 h22=>?_
 obtain ⟨L4,m,y',rfl,ht4,hw4,ham,hmb,hpt⟩:=h22
 have hl4:=hw4.len
 have ht22:=ht18.trans ht4
 have hw4':SwR a0 b0 L L4:=hw3'.trans (hw4.mono ha hbb (by rw [hw3'.len];omega))
 have hbl4:Blw ltS a b L4:=hbl3.keep hw4 (Nat.le_refl _) (Nat.le_refl _)
 have hcr4:Crs ltS a0 b0 a b L4:=hcr3.keep hw4 ha hbb
 refine iE20 ?_
 refine iE21 ?_
 refine iSub (by omega) ?_
 refine iSub (by omega) ?_
 refine iQuo (by omega) ?_
 refine iLt ?_
 refine iCndP (fun h5=>?_) (fun h5=>?_)
 ·refine iLe ?_
  refine iCall ?_
  refine (ih (m - a) (by omega) (Nat.le_refl _) ht22.ow ham (by omega) (by omega) (hbl4.low (by omega)) hlim).mono fun _ w23 h23=>?_
  obtain ⟨L5,ht5,hw5,hs5⟩:=h23
  have hw5':SwR a b L4 L5:=hw5.mono (Nat.le_refl _) (by omega) (by omega)
  have hpt5:=hpt.lowS hw5
  refine iAdd (by omega) ?_
  exact hKn (m + 1,b,lim,_,y') _ ⟨by show a0 ≤ m + 1;omega,by show m + 1 ≤ b;omega,hbb,hlim,L5,ht22.trans ht5,hw4'.trans (hw5'.mono ha hbb (by rw [hw4'.len];omega)),hpt5.blw,hpt5.up ordrS (hcr4.keep hw5' ha hbb) hs5⟩ (by show b - (m + 1) < b - a;omega)
 ·refine iLe ?_
  refine iAdd (by omega) ?_
  refine iCall ?_
  refine (ih (b - (m + 1)) (by omega) (a:=m + 1) (Nat.le_refl _) ht22.ow (by omega) (by omega) (by omega) hpt.blw hlim).mono fun _ w23 h23=>?_
  obtain ⟨L5,ht5,hw5,hs5⟩:=h23
  have hw5':SwR a b L4 L5:=hw5.mono (by omega) (Nat.le_refl _) (by omega)
  have hpt5:=hpt.highS hw5
  exact hKn (a,m,lim,_,y') _ ⟨ha,ham,by show m ≤ b0;omega,hlim,L5,ht22.trans ht5,hw4'.trans (hw5'.mono ha hbb (by rw [hw4'.len];omega)),(hbl4.keep hw5' (Nat.le_refl _) (Nat.le_refl _)).low (Nat.le_of_lt hmb),hpt5.down ordrS (hcr4.keep hw5' ha hbb) hs5⟩ (by show m - a < b - a;omega)
theorem qI {lo:Nat} {w:World} {v:Value} {L:List Str} (hs:Ow lo aB w v (strs L)) (hL:L.length ≤ 1152921504606846976):
  Cal Tryz.prog kC #[v] w fun _ w'=>∃ L':List Str,Ow lo aB w' v (strs L') ∧ Ch (fun c=>v.ownBlock = some c) w w' ∧ List.Perm L' L ∧ L'.Pairwise fun x y=>ltS y x = false:=by
 apply rN;unfold kD
 refine aM hs.sl ?_
 refine GG (by omega) ?_
 refine iCall ?_
 refine (uL (by omega) w).mono fun r w1 h1=>?_
 obtain ⟨h1,k,rfl,-,-,hk⟩:=h1
 refine iCall ?_
 refine (o5 (a:=0) (b:=L.length) (lim:=(k:Int)) L.length (by omega) (hs.ext h1) (Nat.zero_le _) (Nat.le_refl _) hL (fun k _ _ h=>by omega) (by omega)).mono fun _ w2 h2=>?_
 obtain ⟨L',ht,hw,hst⟩:=h2
 rw [← hw.len] at hst
 exact ⟨L',ht.ow,(h1.ch (S:=fun c=>v.ownBlock = some c)).trans ht.ch fun _ e=>.inl e,hw.perm,hst.pairwise⟩
end Go.Proofs.YtkjoppimpmojfaaGreat

namespace Go.Vc
abbrev Inc (L:List Str):Prop:=L.Pairwise fun x y=>ltS x y = true
theorem P1 {x:Str} {l:List Str}:Inc (x :: l) ↔ (∀ y ∈ l,ltS x y = true) ∧ Inc l:=List.pairwise_cons
theorem BB:∀ {A B:List Str},Inc A → Inc B → (∀ x,x ∈ A ↔ x ∈ B) → A = B
 | [],[],_,_,_=>rfl
 | [],y :: B,_,_,h=>by have:=(h y).2 List.mem_cons_self;cases this
 | x :: A,[],_,_,h=>by have:=(h x).1 List.mem_cons_self;cases this
 | x :: A,y :: B,hA,hB,h=>by
  rw [P1] at hA hB
  have e:x = y:=by
   rcases List.mem_cons.1 ((h x).1 List.mem_cons_self) with e | e
   ·exact e
   ·rcases List.mem_cons.1 ((h y).2 List.mem_cons_self) with e' | e'
    ·exact e'.symm
    ·have h1:=hB.1 x e
     have h2:=hA.1 y e'
     rw [OB h1] at h2;cases h2
  subst e
  rw [BB hA.2 hB.2 fun z=>?_]
  have hz:=h z
  simp only [List.mem_cons] at hz
  constructor
  ·intro hm
   rcases hz.1 (.inr hm) with e | e
   ·subst e;have:=hA.1 z hm;rw [mH] at this;cases this
   ·exact e
  ·intro hm
   rcases hz.2 (.inr hm) with e | e
   ·subst e;have:=hB.1 z hm;rw [mH] at this;cases this
   ·exact e
def insT (t:Str):List Str → List Str
 | []=>[t]
 | x :: l=>if ltS x t then x :: insT t l else if x = t then x :: l else t :: x :: l
theorem JE {t x:Str}:∀ {l:List Str},x ∈ insT t l ↔ x = t ∨ x ∈ l
 | []=>by simp [insT]
 | y :: l=>by
  unfold insT
  split
  ·rw [List.mem_cons,JE,List.mem_cons]
   constructor
   ·rintro (h | h | h)
    ·exact .inr (.inl h)
    ·exact .inl h
    ·exact .inr (.inr h)
   ·rintro (h | h | h)
    ·exact .inr (.inl h)
    ·exact .inl h
    ·exact .inr (.inr h)
  ·split
   ·rename_i h;subst h;simp
   ·simp
theorem PX {t:Str}:∀ {l:List Str},Inc l → Inc (insT t l)
 | [],_=>by simp [insT]
 | y :: l,h=>by
  unfold insT
  rw [P1] at h
  split
  ·rename_i hy
   refine List.pairwise_cons.2 ⟨fun z hz=>?_,PX h.2⟩
   rcases JE.1 hz with e | e
   ·subst e;exact hy
   ·exact h.1 z e
  ·rename_i hy
   split
   ·exact List.pairwise_cons.2 h
   ·rename_i hne
    have hty:ltS t y = true:=by
     rcases zQ t y with e | e | e
     ·exact e
     ·exact absurd e.symm hne
     ·exact absurd e hy
    refine List.pairwise_cons.2 ⟨fun z hz=>?_,List.pairwise_cons.2 h⟩
    rcases List.mem_cons.1 hz with e | e
    ·subst e;exact hty
    ·exact zD hty (h.1 z e)
theorem DH {t:Str}:∀ {l:List Str} {k:Nat},k ≤ l.length → (∀ i,i < k → ltS (gt l i) t = true) → insT t l = l.take k ++ insT t (l.drop k)
 | _,0,_,_=>rfl
 | [],k + 1,hk,_=>by simp at hk
 | x :: l,k + 1,hk,h=>by
  have h0:ltS x t = true:=h 0 (by omega)
  have:=DH (t:=t) (l:=l) (k:=k) (by simpa using hk) fun i hi=>h (i + 1) (by omega)
  rw [insT,if_pos h0,this]
  rfl
def setT (l:List Str):List Str:=l.foldl (fun a x=>insT x a) []
theorem OH (l:List Str) (x:Str):setT (l ++ [x]) = insT x (setT l):=by simp [setT]
theorem gV (l:List Str):Inc (setT l):=by
 unfold setT
 suffices h:∀ (l a:List Str),Inc a → Inc (l.foldl (fun a x=>insT x a) a) from h l [] List.Pairwise.nil
 intro l
 induction l with
 | nil=>intro a h;exact h
 | cons x l ih=>intro a h;exact ih _ (PX h)
theorem cP {x:Str} {l:List Str}:x ∈ setT l ↔ x ∈ l:=by
 unfold setT
 suffices h:∀ (l a:List Str),x ∈ l.foldl (fun a x=>insT x a) a ↔ x ∈ l ∨ x ∈ a by simpa using h l []
 intro l
 induction l with
 | nil=>intro a;simp
 | cons y l ih=>
  intro a
  rw [List.foldl_cons,ih,JE,List.mem_cons]
  constructor
  ·rintro (h | h | h)
   ·exact .inl (.inr h)
   ·exact .inl (.inl h)
   ·exact .inr h
  ·rintro ((h | h) | h)
   ·exact .inr (.inl h)
   ·exact .inl h
   ·exact .inr (.inr h)
theorem P5 (t:Str):∀ l:List Str,(insT t l).length ≤ l.length + 1
 | []=>by simp [insT]
 | x :: l=>by
  have:=P5 t l
  unfold insT
  split <;> (try split) <;> simp [List.length_cons] <;> omega
theorem mD (l:List Str):(setT l).length ≤ l.length:=by
 suffices h:∀ (l a:List Str),(l.foldl (fun a x=>insT x a) a).length ≤ a.length + l.length by simpa [setT] using h l []
 intro l
 induction l with
 | nil=>intro a;simp
 | cons y l ih=>
  intro a
  have:=ih (insT y a)
  have:=P5 y a
  rw [List.foldl_cons,List.length_cons];omega
def ddT:List Str → List Str
 | []=>[]
 | [x]=>[x]
 | x :: y :: l=>if y = x then ddT (y :: l) else x :: ddT (y :: l)
theorem G6 {z:Str}:∀ {l:List Str},z ∈ ddT l ↔ z ∈ l
 | []=>Iff.rfl
 | [_]=>Iff.rfl
 | x :: y :: l=>by
  rw [ddT]
  split
  ·rename_i h;subst h;rw [G6];simp
  ·rw [List.mem_cons,G6,List.mem_cons (l:=y :: l)]
theorem NE:∀ {l:List Str},l.Pairwise (fun x y=>ltS y x = false) → Inc (ddT l)
 | [],_=>List.Pairwise.nil
 | [_],_=>by simp [ddT]
 | x :: y :: l,h=>by
  rw [List.pairwise_cons] at h
  rw [ddT]
  split
  ·exact NE h.2
  ·rename_i hne
   refine List.pairwise_cons.2 ⟨fun z hz=>?_,NE h.2⟩
   have hxy:ltS x y = true:=by
    rcases zQ x y with e | e | e
    ·exact e
    ·exact absurd e.symm hne
    ·have:=h.1 y List.mem_cons_self;rw [e] at this;cases this
   rcases List.mem_cons.1 (G6.1 hz) with e | e
   ·subst e;exact hxy
   ·exact ordrS.lt_le hxy ((List.pairwise_cons.1 h.2).1 z e)
theorem QY {l m:List Str} (h:l.Pairwise fun x y=>ltS y x = false) (hp:List.Perm l m):ddT l = setT m:=
 BB (NE h) (gV m) fun x=>by rw [G6,cP];exact hp.mem_iff
theorem PV:∀ (l:List Str) (x y:Str),ddT (l ++ [x] ++ [y]) = if y = x then ddT (l ++ [x]) else ddT (l ++ [x]) ++ [y]
 | [],x,y=>by simp only [List.nil_append,List.singleton_append,ddT];split <;> simp_all
 | [a],x,y=>by
  simp only [List.cons_append,ddT,List.nil_append]
  by_cases h2:y = x
  ·subst h2
   by_cases h1:y = a
   ·subst h1;simp
   ·simp [h1]
  ·by_cases h1:x = a
   ·subst h1;simp [h2]
   ·simp [h1,h2]
 | a :: b :: l,x,y=>by
  have:=PV (b :: l) x y
  simp only [List.cons_append] at this ⊢
  rw [ddT,ddT,this]
  by_cases h1:b = a <;> by_cases h2:y = x <;> simp [h1,h2]
theorem JC {l:List Str} {i:Nat} (h0:1 ≤ i) (hi:i < l.length):ddT (l.take (i + 1)) = if gt l i = gt l (i - 1) then ddT (l.take i) else ddT (l.take i) ++ [gt l i]:=by
 obtain ⟨k,rfl⟩:∃ k,i = k + 1:=⟨i - 1,by omega⟩
 have e1:l.take (k + 1) = l.take k ++ [gt l k]:=by rw [List.take_succ_eq_append_getElem (by omega),gt_eq (by omega)]
 have e2:l.take (k + 1 + 1) = l.take k ++ [gt l k] ++ [gt l (k + 1)]:=by rw [List.take_succ_eq_append_getElem hi,e1,gt_eq hi]
 rw [e2,PV,e1]
 rfl
theorem RK {l:List Str}:∀ k,k ≤ l.length → (∀ i,1 ≤ i → i < k → ¬ gt l i = gt l (i - 1)) → ddT (l.take k) = l.take k:=by
 intro k
 induction k with
 | zero=>intro _ _;rfl
 | succ k ih=>
  intro hk h
  rcases Nat.eq_zero_or_pos k with h0 | h0
  ·subst h0
   cases l with
   | nil=>rfl
   | cons x l=>rfl
  ·rw [JC h0 (by omega),if_neg (h k h0 (by omega)),ih (by omega) fun i h1 h2=>h i h1 (by omega),List.take_succ_eq_append_getElem (by omega),gt_eq (by omega)]
theorem TK {l:List Str} (h:∀ i,1 ≤ i → i < l.length → ¬ gt l i = gt l (i - 1)):ddT l = l:=by
 have:=RK (l:=l) l.length (Nat.le_refl _) h
 rwa [List.take_length] at this
/-! ### Marks -/
end Go.Vc

namespace Go.Vc
theorem Sl.toK {w:World} {v:Value} {xs:List Value} (h:Sl w v xs):SlK 1 w v xs.length xs:=by
 obtain ⟨a,c,hv,h2,h3,h4⟩:=h
 refine ⟨(Nat.mul_one _).symm,a,c,hv,h2,h3,?_⟩
 rcases h4 with rfl | ⟨b,o,ha,hc⟩
 ·exact .inl rfl
 ·exact .inr ⟨b,o,ha,fun i hi=>hc i (by omega)⟩
theorem SlK.cast {k:Nat} {w:World} {v:Value} {n m:Nat} {xs:List Value} (h:SlK k w v n xs) (e:n = m):SlK k w v m xs:=e ▸ h
theorem GB (L:List Str) (k:Nat):(strs L).take k = strs (L.take k):=by simp [strs,List.map_take]
theorem OM (L:List Str) (k:Nat):(strs L).drop k = strs (L.drop k):=by simp [strs,List.map_drop]
theorem UO (L M:List Str):strs L ++ strs M = strs (L ++ M):=by simp [strs]
theorem JH (L:List Str) {j:Nat} (hj:j < L.length):(strs L)[j]? = some (sv (gt L j)):=by rw [gt_eq hj];simp [strs,hj]
end Go.Vc
namespace Go.Proofs.YtkjoppimpmojfaaGreat
open Go.Vc
theorem oF {lo:Nat} {w:World} {v:Value} {L:List Str} (hs:Ow lo aB w v (strs L)) (hL:L.length ≤ 1152921504606846976):
  Cal Tryz.prog iJ #[v] w fun r w'=>Ow lo aB w' r (strs (ddT L)) ∧ Ch (fun c=>v.ownBlock = some c) w w' ∧ r.ownBlock = v.ownBlock:=by
 apply o4;unfold iH
 refine aM hs.sl ?_
 refine iLt ?_
 refine iCndP (fun h=>?_) (fun h=>?_)
 ·rw [TK (fun i h1 h2=>by omega)]
  exact ⟨hs,(Ext.refl w).ch,by first | trivial | rfl⟩
 obtain ⟨g,cap,hv,hcap,hcm⟩:=hs.open (by intro e;have:=aI L;rw [e] at this;simp at this;omega)
 rw [aI] at hv hcap
 refine iLp (fun k:Nat=>[.int .i64 (k:Int)]) (fun k w'=>1 ≤ k ∧ k ≤ L.length ∧ Ext w w' ∧ ∀ i,1 ≤ i → i < k → ¬ gt L i = gt L (i - 1)) (fun k=>L.length - k) 1 rfl ⟨Nat.le_refl _,by omega,Ext.refl _,fun i h1 h2=>by omega⟩ ?_
 rintro k w2 Kn ⟨hk1,hkn,h2,hne⟩ hKn
 have hs2:=hs.ext h2
 intro _
 simp only [gx]
 refine aM hs2.sl ?_
 refine iLt ?_
 refine iCndP (fun h3=>?_) (fun h3=>?_)
 rotate_left
 ·rw [TK (fun i h1 h2=>hne i h1 (by omega))]
  exact ⟨hs2,h2.ch,by first | trivial | rfl⟩
 refine iRdO (j:=k) hs2 rfl (by omega) ?_
 refine iSub (by omega) ?_
 refine iRdO (j:=k - 1) hs2 (by omega) (by omega) ?_
 refine iEqT ?_
 intro w3 h23
 have hs3:=hs2.ext h23
 refine iCndP (fun h4=>?_) (fun h4=>?_)
 rotate_left
 ·refine iAdd (by omega) ?_
  refine hKn (k + 1) _ ⟨by omega,by omega,h2.trans h23,fun i h1 h5=>?_⟩ (by omega)
  by_cases hi:i = k
  ·subst hi;exact h4
  ·exact hne i h1 (by omega)
 subst hv
 refine Q8 (k:=k) (by omega) hcap ?_
 refine iLp (fun s:Nat × Nat=>[.int .i64 (s.1:Int),.int .i64 (s.2:Int)]) (fun s w'=>k ≤ s.1 ∧ s.1 + 1 ≤ k + s.2 ∧ k + s.2 ≤ L.length ∧ ∃ M,Turn lo aB sv (.slice (some ⟨g,0,none⟩) L.length cap) w w' M ∧ M.length = L.length ∧ M.take s.1 = ddT (L.take (k + s.2)) ∧ ∀ j,k + s.2 ≤ j + 1 → gt M j = gt L j) (fun s=>L.length - s.2) (k,1) rfl
  ⟨Nat.le_refl _,Nat.le_refl _,by show k + 1 ≤ L.length;omega,L,⟨hs3,(h2.trans h23).ch⟩,rfl,by show L.take k = ddT (L.take (k + 1));rw [JC hk1 (by omega),if_pos h4,RK k (by omega) hne],fun _ _=>rfl⟩ ?_
 rintro ⟨kk,k2⟩ w5 Kn5 ⟨hkk,hkk2,hk2,M,ht,hM,hMt,hMe⟩ hKn5
 have hkk:k ≤ kk:=hkk
 have hkk2:kk + 1 ≤ k + k2:=hkk2
 have hk2:k + k2 ≤ L.length:=hk2
 have hMt:M.take kk = ddT (L.take (k + k2)):=hMt
 have hMe:∀ j,k + k2 ≤ j + 1 → gt M j = gt L j:=hMe
 intro _
 simp only [gx]
 refine iLenL ?_
 refine iLt ?_
 refine iCndP (fun h5=>?_) (fun h5=>?_)
 ·refine iIaL (j:=k2) (by omega) ?_
  refine iLd (ht.ow.at (by rw [List.length_map];exact hM) (j:=k + k2) (by omega) |>.trans (JH M (by omega))) ?_
  refine iSub (by omega) ?_
  rw [show (k2:Int) - 1 = ((k2 - 1:Nat):Int) by omega]
  refine iIaL (j:=k2 - 1) (by omega) ?_
  refine iLd (ht.ow.at (by rw [List.length_map];exact hM) (j:=k + (k2 - 1)) (by omega) |>.trans (JH M (by omega))) ?_
  refine iNeT ?_
  intro w6 h56
  have ht6:=ht.ext h56
  have e1:=hMe (k + k2) (by omega)
  have e2:=hMe (k + (k2 - 1)) (by omega)
  have edd:=JC (l:=L) (i:=k + k2) (by omega) (by omega)
  rw [← e1,show k + k2 - 1 = k + (k2 - 1) by omega,← e2] at edd
  refine iCndP (fun h6=>?_) (fun h6=>?_)
  ·rw [if_neg h6,← hMt] at edd
   refine iIaL (j:=k2) (by omega) ?_
   refine iLd (ht6.ow.at (by rw [List.length_map];exact hM) (j:=k + k2) (by omega) |>.trans (JH M (by omega))) ?_
   refine iIaOw ht6.ow (by omega) (by rw [List.length_map];omega) fun b o hb _ _ hc hf hset=>?_
   refine iSt (hc.trans (List.getElem?_eq_getElem (by rw [List.length_map];omega))) hf rfl ?_
   have hset:=hset (sv (gt M (k + k2)))
   rw [Int.toNat_natCast,← List.map_set] at hset
   refine iAdd (by omega) ?_
   refine iAdd (by omega) ?_
   refine hKn5 (kk + 1,k2 + 1) _ ⟨by show k ≤ kk + 1;omega,by show kk + 1 + 1 ≤ k + (k2 + 1);omega,by show k + (k2 + 1) ≤ L.length;omega,M.set kk (gt M (k + k2)),⟨hset,ht6.ch.trans ((Upd.setCell w6 b o _).ch (S:=fun c=>Value.ownBlock (.slice (some ⟨g,0,none⟩) L.length cap) = some c) hb) fun _ e=>.inl e⟩,by rw [List.length_set];exact hM,?_,fun j hj=>?_⟩ (by show L.length - (k2 + 1) < L.length - k2;omega)
   ·show (M.set kk (gt M (k + k2))).take (kk + 1) = ddT (L.take (k + (k2 + 1)))
    rw [show k + (k2 + 1) = k + k2 + 1 by omega,edd,List.take_succ_eq_append_getElem (by rw [List.length_set];omega),List.getElem_set_self,List.take_set_of_le (Nat.le_refl _)]
   ·have hj:k + (k2 + 1) ≤ j + 1:=hj
    rw [QD _ (by omega),if_neg (by omega)]
    exact hMe j (by omega)
  ·rw [if_pos (Classical.not_not.1 h6),← hMt] at edd
   refine iAdd (by omega) ?_
   exact hKn5 (kk,k2 + 1) _ ⟨hkk,by show kk + 1 ≤ k + (k2 + 1);omega,by show k + (k2 + 1) ≤ L.length;omega,M,ht6,hM,edd.symm,fun j hj=>hMe j (by have hj:k + (k2 + 1) ≤ j + 1:=hj;omega)⟩ (by show L.length - (k2 + 1) < L.length - k2;omega)
 ·have hend:k + k2 = L.length:=by omega
  rw [hend,List.take_length] at hMt
  refine Q8 (k:=kk) (by omega) hcap ?_
  refine iClr bS b6 rfl ht.ow (by rw [List.length_map];exact hM) (by omega) fun w8 h8 hc8=>?_
  refine VB (k:=kk) (by omega) hcap ?_
  rw [show (List.map sv M).take kk = strs (M.take kk) from GB M kk,hMt] at h8
  exact ⟨h8,ht.ch.trans hc8 fun c hc=>.inl (by rw [hc];rfl),rfl⟩
theorem k9 {w:World} {v0 v1:Value} {A B:List Str} (h0:SlT w v0 A) (h1:SlT w v1 B) (hc0:aD v0 = true) (hc1:aD v1 = true) (hl:A.length + B.length ≤ 1099511627776):
  Cal Tryz.prog DW #[v0,v1] w fun r w'=>Ext w w' ∧ Ow w.heap.size aB w' r (strs (setT (A ++ B))):=by
 apply SG;unfold KD
 refine iBs2 rfl hc0 hc1 fun c w1 hc h1' hB=>?_
 refine iCall ((wD (vs:=[v0,v1]) (ps:=[(A.length,strs A),(B.length,strs B)]) (Sl.ofBlk (n:=2) hB rfl (by decide)) rfl (fun i g1 g2=>?_) (fun p hp u hu=>?_) (by simp;omega)).mono ?_)
 ·rcases i with _ | _ | i
  ·exact (Sl.toK (h0.ext h1')).cast (aI A)
  ·exact (Sl.toK (h1.ext h1')).cast (aI B)
  ·simp at g1;omega
 ·simp only [List.mem_cons,List.not_mem_nil,or_false] at hp
  rcases hp with rfl | rfl
  ·exact l3 _ _ hu
  ·exact l3 _ _ hu
 rintro r w2 ⟨h2,ho⟩
 have hX2:=h1'.trans h2
 have ho2:Ow w1.heap.size aB w2 r (strs (A ++ B)):=by
  have:=ho.toOw
  simpa [strs] using this
 refine iCall ((qI ho2 (by rw [List.length_append];omega)).mono ?_)
 rintro _ w3 ⟨L',ho3,hc3,hperm,hsorted⟩
 have hlen:L'.length = A.length + B.length:=by rw [hperm.length_eq,List.length_append]
 refine iCall ((oF ho3 (by omega)).mono ?_)
 rintro r' w4 ⟨ho4,hc4,_⟩
 rw [QY hsorted hperm] at ho4
 have hn:∀ c,r.ownBlock = some c → w.heap.size ≤ c:=fun c hc'=>Nat.le_trans h1'.size (ho2.blk c hc').1
 exact ⟨(hX2.thenCh hc3 hn).thenCh hc4 hn,ho4.mono h1'.size⟩
theorem tU {lo:Nat} {w:World} {v:Value} {L:List Str} {t:Str} (hs:Ow lo aB w v (strs L)) (hlo:lo ≤ w.heap.size) (hL:L.length ≤ 1099511627776):
  Cal Tryz.prog e7 #[v,sv t] w fun r w'=>Ext w w' ∧ Ow lo aB w' r (strs (insT t L)):=by
 apply I5;unfold wA
 refine iLp (fun k:Nat=>[.int .i64 (k:Int)]) (fun k w'=>k ≤ L.length ∧ Ext w w' ∧ ∀ i,i < k → ltS (gt L i) t = true) (fun k=>L.length - k) 0 rfl ⟨Nat.zero_le _,Ext.refl _,fun i hi=>by omega⟩ ?_
 rintro k w2 Kn ⟨hk,h2,hlt⟩ hKn
 have hs2:=hs.ext h2
 intro _
 simp only [gx]
 refine iJnB (decide (k < L.length) && ltS (gt L k) t) w2 (fun J hJ=>?_) (fun w4 h4=>?_)
 ·refine aM hs2.sl ?_
  refine iLt ?_
  refine iCndP (fun h=>?_) (fun h=>?_)
  ·rw [decide_eq_true (show k < L.length by omega),Bool.true_and] at hJ
   refine iRdO (j:=k) hs2 rfl (by omega) ?_
   exact iLtT (hJ _ (Ext.refl _))
  ·rw [decide_eq_false (show ¬ k < L.length by omega),Bool.false_and] at hJ
   exact hJ _ (Ext.refl _)
 intro _
 simp only [gx]
 have hs4:=hs2.ext h4
 have h4':=h2.trans h4
 cases hc:decide (k < L.length) && ltS (gt L k) t
 rotate_left
 ·rw [Bool.and_eq_true,decide_eq_true_eq] at hc
  refine iCndT rfl ?_
  refine iAdd (by omega) ?_
  refine hKn (k + 1) _ ⟨by omega,h4',fun i hi=>?_⟩ (by omega)
  by_cases hik:i = k
  ·subst hik;exact hc.2
  ·exact hlt i (by omega)
 refine iCndF rfl ?_
 have hsp:=DH hk hlt
 refine iJnB (decide (k < L.length) && decide (gt L k = t)) w4 (fun J hJ=>?_) (fun w6 h6=>?_)
 ·refine aM hs4.sl ?_
  refine iLt ?_
  refine iCndP (fun h=>?_) (fun h=>?_)
  ·rw [decide_eq_true (show k < L.length by omega),Bool.true_and] at hJ
   refine iRdO (j:=k) hs4 rfl (by omega) ?_
   exact iEqT (hJ _ (Ext.refl _))
  ·rw [decide_eq_false (show ¬ k < L.length by omega),Bool.false_and] at hJ
   exact hJ _ (Ext.refl _)
 intro _
 simp only [gx]
 have hs6:=hs4.ext h6
 have h6':=h4'.trans h6
 cases hc2:decide (k < L.length) && decide (gt L k = t)
 rotate_left
 ·rw [Bool.and_eq_true,decide_eq_true_eq,decide_eq_true_eq] at hc2
  refine iCndT rfl ⟨h6',?_⟩
  have:insT t L = L:=by
   rw [hsp,List.drop_eq_getElem_cons hc2.1,← gt_eq hc2.1,hc2.2,insT,mH,if_neg (by decide),if_pos rfl]
   have:=List.take_append_drop k L
   rw [List.drop_eq_getElem_cons hc2.1,← gt_eq hc2.1,hc2.2] at this
   exact this
  rw [this];exact hs6
 ·refine iCndF rfl ?_
  have hres:insT t L = L.take k ++ [t] ++ L.drop k:=by
   rw [hsp]
   rcases Nat.lt_or_ge k L.length with h | h
   ·rw [decide_eq_true h,Bool.true_and] at hc hc2
    rw [List.drop_eq_getElem_cons h,← gt_eq h,insT,hc,if_neg (by decide),if_neg (of_decide_eq_false hc2)]
    simp
   ·rw [List.drop_of_length_le h];simp [insT]
  have hlo6:=Nat.le_trans hlo h6'.size
  refine iBs0 fun v7 w7 hw7 h7 ho7=>?_
  have hs7:=hs6.ext h7
  refine iSlTo hs7.sl (by rw [aI];exact hk) fun u hu=>?_
  rw [GB] at hu
  refine iAppA bS b6 rfl ho7 hu (l3 _) (by rw [aI,List.length_take,List.length_nil];omega) (by rw [aI,List.length_take,List.length_nil];omega) (by omega) fun v8 w8 ho8 hg8 _=>?_
  have hX8:=h7.grown hg8 fun b hb=>(ho7.blk b hb).1
  have hs8:=hs6.ext hX8
  refine sR bS b6 rfl ho8 rfl (by rw [List.length_append,aI,List.length_take,List.length_nil];omega) (by rw [List.length_append,aI,List.length_take,List.length_nil];omega) (by have:=hX8.size;omega) fun v10 w10 ho10 hg10 _=>?_
  have hX10:=hX8.grown hg10 fun b hb=>(ho8.blk b hb).1
  have hs10:=hs6.ext hX10
  refine RL hs10.sl (by rw [aI];exact hk) fun u' hu'=>?_
  rw [OM] at hu'
  rw [List.nil_append,show strs (L.take k) ++ [sv t] = strs (L.take k ++ [t]) from s4 _ _] at ho10
  refine iAppA bS b6 rfl ho10 hu' (l3 _) (by rw [aI,aI,List.length_append,List.length_take,List.length_drop,List.length_singleton];omega) (by rw [aI,aI,List.length_append,List.length_take,List.length_drop,List.length_singleton];omega) (by have:=hX10.size;omega) fun v11 w11 ho11 hg11 _=>?_
  have hX11:=hX10.grown hg11 fun b hb=>(ho10.blk b hb).1
  rw [UO,← hres] at ho11
  exact ⟨h6'.trans hX11,ho11.mono hlo6⟩
theorem MV {w:World} {v:Value} {L:List Str} (hs:SlT w v L) (hL:L.length ≤ 1099511627776):
  Cal Tryz.prog ED #[v] w fun r w'=>Ext w w' ∧ Ow w.heap.size aB w' r (strs (setT L)):=by
 apply PN;unfold E0
 refine iBs0 fun v1 w1 hw1 h1 ho1=>?_
 refine iLp (fun s:Value × Nat=>[s.1,.int .i64 (s.2:Int)]) (fun s w'=>s.2 ≤ L.length ∧ Ext w w' ∧ Ow w.heap.size aB w' s.1 (strs (setT (L.take s.2)))) (fun s=>L.length - s.2) (v1,0) rfl ⟨Nat.zero_le _,h1,ho1⟩ ?_
 rintro ⟨u,i⟩ w3 Kn ⟨hi,h3,ho⟩ hKn
 have hi:i ≤ L.length:=hi
 have ho:Ow w.heap.size aB w3 u (strs (setT (L.take i))):=ho
 intro _
 simp only [gx]
 refine aM (hs.ext h3) ?_
 refine iLt ?_
 refine iCndP (fun h=>?_) (fun h=>?_)
 ·refine iIaT (hs.ext h3) (by omega) fun p hp=>?_
  refine iLd hp ?_
  have:=mD (L.take i)
  rw [List.length_take] at this
  refine iCall ((tU ho h3.size (by omega)).mono ?_)
  rintro r w4 ⟨h4,ho4⟩
  refine iAdd (by omega) ?_
  rw [← OH,← List.take_succ_eq_append_getElem (by omega)] at ho4
  exact hKn (r,i + 1) _ ⟨by show i + 1 ≤ L.length;omega,h3.trans h4,ho4⟩ (by show L.length - (i + 1) < L.length - i;omega)
 ·rw [List.take_of_length_le (by omega)] at ho
  exact ⟨h3,ho⟩
end Go.Proofs.YtkjoppimpmojfaaGreat


namespace Go.Proofs.YtkjoppimpmojfaaGreat
open Go.Vc
theorem wV {v:Value} {f:Fm} {w:World} (hs:FmS w v f):Ret Tryz.prog yC #[v] w (.bool (decide (f = .fls))):=by
 apply KV;unfold xL
 refine iFld (j:=0) hs rfl f.size_pos (by decide) (fZ hs).1 ?_
 refine iEq ⟨?_,Ext.refl _⟩
 congr 1
 refine decide_eq_decide.2 ?_
 cases f <;> simp [Fm.kind]
theorem sL {v:Value} {f:Fm} {w:World} (hs:FmS w v f) (hn:f.size ≤ 1099511627776):Ret Tryz.prog uG #[v] w (.bool f.isNeg):=by
 apply HG;unfold uT
 refine iJnB f.isNeg w (fun J hJ=>?_) (fun w2 h2=>fun _=>⟨by first | trivial | rfl,h2⟩)
 refine iFld (j:=0) hs rfl f.size_pos (by decide) (fZ hs).1 ?_
 refine iEq ?_
 refine iCndP (fun h=>?_) (fun h=>?_)
 ·cases f <;> simp only [Fm.kind] at h <;> (try omega)
  rename_i a b
  refine iCall ((kF (g:=a) (h:=b) hs rfl hn).mono ?_)
  rintro u w3 ⟨h3,hu⟩
  exact iRet (wV hu) fun w4 h4=>hJ _ (h3.trans h4)
 ·cases f <;> first | exact hJ _ (Ext.refl _) | (simp [Fm.kind] at h)
theorem JV {v:Value} {f:Fm} {w:World} (hs:FmS w v f) (hn:f.size ≤ 1099511627776):Ret Tryz.prog CJ #[v] w (.int .i64 (f.own:Int)):=by
 apply NM;unfold CV
 refine iJnB (decide (f.kind = 4) && !f.isNeg) w (fun J hJ=>?_) (fun w2 h2=>?_)
 ·refine iFld (j:=0) hs rfl f.size_pos (by decide) (fZ hs).1 ?_
  refine iEq ?_
  refine iCndP (fun h=>?_) (fun h=>?_)
  ·rw [decide_eq_true (show f.kind = 4 by omega),Bool.true_and] at hJ
   refine iRet (sL hs hn) fun w3 h3=>?_
   exact iNot (hJ _ h3)
  ·rw [decide_eq_false (show ¬ f.kind = 4 by omega),Bool.false_and] at hJ
   exact hJ _ (Ext.refl _)
 ·intro _
  simp only [gx]
  have hs2:=hs.ext h2
  cases hc:decide (f.kind = 4) && !f.isNeg
  ·refine iCndF rfl ?_
   refine iFld (j:=0) hs2 rfl f.size_pos (by decide) (fZ hs).1 ?_
   refine iEq ?_
   refine iCndP (fun h=>?_) (fun h=>?_)
   ·refine ⟨?_,h2⟩
    cases f <;> simp only [Fm.kind] at h <;> first | omega | rfl
   ·refine iFld (j:=0) hs2 rfl f.size_pos (by decide) (fZ hs).1 ?_
    refine iEq ?_
    refine iCndP (fun h'=>?_) (fun h'=>?_)
    ·refine ⟨?_,h2⟩
     cases f <;> simp only [Fm.kind] at h' <;> first | omega | rfl
    ·refine ⟨?_,h2⟩
     cases f <;> simp [Fm.kind,Fm.isNeg] at h h' hc <;> simp [Fm.own,hc]
  ·refine iCndT rfl ⟨?_,h2⟩
   cases f <;> simp [Fm.kind,Fm.isNeg] at hc
   simp [Fm.own,hc]
end Go.Proofs.YtkjoppimpmojfaaGreat

namespace Go.Vc
theorem OP {v:Nat} (hv:v < 6):(([112,113,114,115,116,117]:Str).drop v).take (v + 1 - v) = [vl v]:=by
 have:∀ v:Fin 6,(([112,113,114,115,116,117]:Str).drop v.val).take (v.val + 1 - v.val) = [vl v.val]:=by decide
 exact this ⟨v,hv⟩
theorem VP {f:Fm} {lv:Nat} (h:f.own < lv):f.txt lv = [40] ++ f.txt 0 ++ [41]:=by
 rw [o2 h,d9 (Nat.zero_le _)];simp
def pCode (t:Str):Int:=if 200 < t.length then 3 else if rdOk t then (if 40 < (rd t).1.size then 3 else 0) else 6
def pAt (t:Str):Nat:=if 200 < t.length then 0 else if rdOk t then 0 else rdAt t
theorem bL {t:Str} (h:pCode t = 0):(rd t).1.size ≤ 40 ∧ t.length ≤ 200 ∧ rdOk t = true:=by
 unfold pCode at h
 split at h
 ·cases h
 ·split at h
  ·split at h
   ·cases h
   ·rename_i h1 h2 h3;exact ⟨by omega,by omega,h2⟩
  ·cases h
def goodT (t:Str):Bool:=decide (pCode t = 0) && decide ((rd t).1.body = t)
end Go.Vc
namespace Go.Proofs.YtkjoppimpmojfaaGreat
open Go.Vc
theorem rL:∀ (m:Nat) {v:Value} {f:Fm} {lv:Nat} {w:World},2 * f.size + (if f.own < lv then 1 else 0) ≤ m → FmS w v f → f.good → f.size ≤ 1099511627776 → lv ≤ 3 → Ret Tryz.prog tI #[v,.int .i64 (lv:Int)] w (sv (f.txt lv))
 | 0,v,f,lv,w,hm,_,_,_,_=>by have:=f.size_pos;omega
 | m + 1,v,f,lv,w,hm,hs,hg,hn,hlv=>by
  apply O0;unfold D5
  have hbl:=vZ f
  have htl:=fun lv=>dD lv f
  refine iRet (JV hs hn) fun w1 h1=>?_
  have hs1:=hs.ext h1
  refine iLt ?_
  refine iCndP (fun h=>?_) (fun h=>?_)
  ·have h:f.own < lv:=by omega
   rw [if_pos h] at hm
   refine iRet (rL m (lv:=0) (by rw [if_neg (by omega)];omega) hs1 hg hn (by decide)) fun w2 h2=>?_
   have:=htl 0
   refine iCat (a:=[40]) (by simp only [List.length_singleton];omega) ?_
   refine iCat (b:=[41]) (by simp only [List.length_append,List.length_singleton];omega) ?_
   rw [← VP h]
   exact ⟨by first | trivial | rfl,h1.trans h2⟩
  ·have h:lv ≤ f.own:=by omega
   rw [d9 h]
   rw [if_neg (by omega)] at hm
   have hk:=fZ hs
   refine iFld (j:=0) hs1 rfl f.size_pos (by decide) hk.1 ?_
   -- any part of the formula, at any level
   have sub:∀ {g:Fm} {u:Value} {w':World} {l:Nat},g.size < f.size → FmS w' u g → g.good → l ≤ 3 → Ret Tryz.prog tI #[u,.int .i64 (l:Int)] w' (sv (g.txt l)):=fun {g u w' l} h1 h2 h3 h4=>
    rL m (by split <;> omega) h2 h3 (by omega) h4
   cases f with
   | var x=>
    refine iEq (iCndT rfl ?_)
    refine iFld (j:=0) hs1 rfl (Fm.size_pos _) (by decide) hk.2 ?_
    refine iFld (j:=0) hs1 rfl (Fm.size_pos _) (by decide) hk.2 ?_
    have hx:x < 6:=hg
    refine iAdd (by show _ ≤ (x:Int) + 1 ∧ (x:Int) + 1 ≤ _;omega) ?_
    refine SU (l:=[112,113,114,115,116,117]) (i:=x) (j:=x + 1) (by omega) (by show x + 1 ≤ 6;omega) ?_
    intro w3 h3
    rw [OP hx]
    exact ⟨by first | trivial | rfl,h1.trans h3⟩
   | fls=>
    refine iEq (iCndF rfl (iEq (iCndT rfl ?_)))
    exact ⟨by first | trivial | rfl,h1⟩
   | and a b=>
    refine iEq (iCndF rfl (iEq (iCndF rfl (iEq (iCndT rfl ?_)))))
    simp only [Fm.size] at hn
    have ha:=dD 2 a
    have hb:=dD 3 b
    refine iCall ((dP hs1 (g:=a) (gs:=[b]) rfl (by simp only [Fm.size];omega)).mono ?_)
    rintro u w4 ⟨h4,hu⟩
    refine iRet (sub (l:=2) (by simp only [Fm.size];omega) hu hg.1 (by decide)) fun w5 h5=>?_
    refine iCat (b:=[38]) (by simp only [List.length_singleton];omega) ?_
    have hs5:=(hs1.ext h4).ext h5
    refine iCall ((kF hs5 (g:=a) (h:=b) rfl (by simp only [Fm.size];omega)).mono ?_)
    rintro u' w6 ⟨h6,hu'⟩
    refine iRet (sub (l:=3) (by simp only [Fm.size];omega) hu' hg.2 (by decide)) fun w7 h7=>?_
    refine iCat (by simp only [List.length_append,List.length_singleton];omega) ?_
    refine ⟨?_,(((h1.trans h4).trans h5).trans h6).trans h7⟩
    simp [Fm.body,Fm.txt]
   | or a b=>
    refine iEq (iCndF rfl (iEq (iCndF rfl (iEq (iCndF rfl (iEq (iCndT rfl ?_)))))))
    simp only [Fm.size] at hn
    have ha:=dD 1 a
    have hb:=dD 2 b
    refine iCall ((dP hs1 (g:=a) (gs:=[b]) rfl (by simp only [Fm.size];omega)).mono ?_)
    rintro u w4 ⟨h4,hu⟩
    refine iRet (sub (l:=1) (by simp only [Fm.size];omega) hu hg.1 (by decide)) fun w5 h5=>?_
    refine iCat (b:=[124]) (by simp only [List.length_singleton];omega) ?_
    have hs5:=(hs1.ext h4).ext h5
    refine iCall ((kF hs5 (g:=a) (h:=b) rfl (by simp only [Fm.size];omega)).mono ?_)
    rintro u' w6 ⟨h6,hu'⟩
    refine iRet (sub (l:=2) (by simp only [Fm.size];omega) hu' hg.2 (by decide)) fun w7 h7=>?_
    refine iCat (by simp only [List.length_append,List.length_singleton];omega) ?_
    refine ⟨?_,(((h1.trans h4).trans h5).trans h6).trans h7⟩
    simp [Fm.body,Fm.txt]
   | box a=>
    refine iEq (iCndF rfl (iEq (iCndF rfl (iEq (iCndF rfl (iEq (iCndF rfl (iEq (iCndT rfl ?_)))))))))
    simp only [Fm.size] at hn
    have ha:=dD 3 a
    refine iCall ((dP hs1 (g:=a) (gs:=[]) rfl (by simp only [Fm.size];omega)).mono ?_)
    rintro u w4 ⟨h4,hu⟩
    refine iRet (sub (l:=3) (by simp only [Fm.size];omega) hu hg (by decide)) fun w5 h5=>?_
    refine iCat (a:=[91,93]) (by simp only [List.length_cons,List.length_nil];omega) ?_
    exact ⟨by first | trivial | rfl,(h1.trans h4).trans h5⟩
   | dia a=>
    refine iEq (iCndF rfl (iEq (iCndF rfl (iEq (iCndF rfl (iEq (iCndF rfl (iEq (iCndF rfl (iEq (iCndT rfl ?_)))))))))))
    simp only [Fm.size] at hn
    have ha:=dD 3 a
    refine iCall ((dP hs1 (g:=a) (gs:=[]) rfl (by simp only [Fm.size];omega)).mono ?_)
    rintro u w4 ⟨h4,hu⟩
    refine iRet (sub (l:=3) (by simp only [Fm.size];omega) hu hg (by decide)) fun w5 h5=>?_
    refine iCat (a:=[60,62]) (by simp only [List.length_cons,List.length_nil];omega) ?_
    exact ⟨by first | trivial | rfl,(h1.trans h4).trans h5⟩
   | imp a b=>
    refine iEq (iCndF rfl (iEq (iCndF rfl (iEq (iCndF rfl (iEq (iCndF rfl (iEq (iCndF rfl (iEq (iCndF rfl ?_)))))))))))
    refine iRet (sL hs1 hn) fun w16 h16=>?_
    have hs16:=hs1.ext h16
    have h16':=h1.trans h16
    simp only [Fm.size] at hn
    refine iNot ?_
    have hbd:(Fm.imp a b).body = if b = .fls then (if a = .fls then [84] else 126 :: par (decide (a.own < 3)) a.body) else par (decide (a.own < 1)) a.body ++ 62 :: b.body:=by rw [Fm.body]
    rw [hbd]
    by_cases hb:b = .fls
    ·rw [if_pos hb]
     refine iCndF (by simp [Fm.isNeg,hb]) ?_
     refine iCall ((dP hs16 (g:=a) (gs:=[b]) rfl (by simp only [Fm.size];omega)).mono ?_)
     rintro u w21 ⟨h21,hu⟩
     refine iRet (wV hu) fun w22 h22=>?_
     have hs22:=(hs16.ext h21).ext h22
     have h22':=(h16'.trans h21).trans h22
     refine iCndP (fun ha=>?_) (fun ha=>?_)
     ·rw [if_pos ha]
      exact ⟨by first | trivial | rfl,h22'⟩
     ·rw [if_neg ha]
      have hal:=dD 3 a
      refine iCall ((dP hs22 (g:=a) (gs:=[b]) rfl (by simp only [Fm.size];omega)).mono ?_)
      rintro u' w23 ⟨h23,hu'⟩
      refine iRet (sub (l:=3) (by simp only [Fm.size];omega) hu' hg.1 (by decide)) fun w24 h24=>?_
      refine iCat (a:=[126]) (by simp only [List.length_singleton];omega) ?_
      exact ⟨by first | trivial | rfl,(h22'.trans h23).trans h24⟩
    ·rw [if_neg hb]
     refine iCndT (by simp [Fm.isNeg,hb]) ?_
     have ha1:=dD 1 a
     have hb0:=dD 0 b
     refine iCall ((dP hs16 (g:=a) (gs:=[b]) rfl (by simp only [Fm.size];omega)).mono ?_)
     rintro u w17 ⟨h17,hu⟩
     refine iRet (sub (l:=1) (by simp only [Fm.size];omega) hu hg.1 (by decide)) fun w18 h18=>?_
     refine iCat (b:=[62]) (by simp only [List.length_singleton];omega) ?_
     have hs18:=(hs16.ext h17).ext h18
     refine iCall ((kF hs18 (g:=a) (h:=b) rfl (by simp only [Fm.size];omega)).mono ?_)
     rintro u' w19 ⟨h19,hu'⟩
     refine iRet (sub (l:=0) (by simp only [Fm.size];omega) hu' hg.2 (by decide)) fun w20 h20=>?_
     refine iCat (by simp only [List.length_append,List.length_singleton];omega) ?_
     refine ⟨?_,(((h16'.trans h17).trans h18).trans h19).trans h20⟩
     simp [Fm.txt,par]
theorem wK {v:Value} {f:Fm} {w:World} (hs:FmS w v f) (hg:f.good) (hn:f.size ≤ 1099511627776):Ret Tryz.prog IE #[v] w (sv f.body):=by
 apply QW;unfold H6
 refine iRet (rL _ (lv:=0) (Nat.le_refl _) hs hg hn (by decide)) fun w1 h1=>?_
 rw [d9 (Nat.zero_le _)]
 exact ⟨by first | trivial | rfl,h1⟩
theorem FmW.some {lo:Nat} {w:World} {v:Value} {f:Fm} (h:FmW lo w v f):∃ g c,lo ≤ g ∧ g < w.heap.size ∧ v = .slice (some ⟨g,0,none⟩) f.size c:=by
 obtain ⟨_,⟨_,h0⟩ | ⟨g,cap,cur,hv,hg,hh,_⟩⟩:=h
 ·have:=f.size_pos;omega
 ·exact ⟨g,cap,hg,dF hh,hv⟩
theorem DA (t:Str) (w:World):Cal Tryz.prog qW #[sv t] w fun r w'=>Ext w w' ∧ ∃ v,r = .tuple #[v,.int .i64 (pAt t:Int),.int .i64 (pCode t)] ∧ (pCode t = 0 → FmW w.heap.size w' v (rd t).1) ∧ (¬ pCode t = 0 → v = .slice none 0 0):=by
 apply FH;unfold qU
 refine iLenT ?_
 refine iLt ?_
 refine iCndP (fun h=>?_) (fun h=>?_)
 ·have e1:pCode t = 3:=by unfold pCode;rw [if_pos (by omega)]
  have e2:pAt t = 0:=by unfold pAt;rw [if_pos (by omega)]
  rw [e1,e2]
  exact ⟨Ext.refl _,_,rfl,(fun h=>by cases h),fun _=>rfl⟩
 ·have e1:pCode t = if rdOk t then (if 40 < (rd t).1.size then 3 else 0) else 6:=by unfold pCode;rw [if_neg (by omega)]
  have e2:pAt t = if rdOk t then 0 else rdAt t:=by unfold pAt;rw [if_neg (by omega)]
  refine j4 (cs:=#[sv t,.int .i64 0,.bool false]) (by simp [Instr.fill,Value.cells]) ?_
  refine iNew fun b w1 hb h1 hB=>?_
  refine iCall ((DB (by omega) (RdS.new hB)).mono ?_)
  rintro v w2 ⟨h2,hc2,hv2⟩
  rw [← T0] at h2 hv2
  have hX2:Ext w w2:=h1.thenCh hc2 fun c hc=>by omega
  have hB2:=h2.place
  have hrl:=S5 t
  refine iJnB (!rdOk t) w2 (fun J hJ=>?_) (fun w4 h4=>?_)
  ·unfold rdOk at hJ
   ((with_reducible refine iNil ?_;refine iFa ?_);refine iLdB (by assumption) (by first | rfl | simp) ?_)
   cases hbad:(rd t).2.2
   ·rw [hbad] at hJ
    refine iCndF rfl ?_
    ((with_reducible refine iNil ?_;refine iFa ?_);refine iLdB (by assumption) (by first | rfl | simp) ?_)
    refine iLenT ?_
    ((with_reducible refine iLt ?_))
    have:decide (((t.length - (rd t).2.1.length:Nat):Int) < (t.length:Nat)) = !(!false && decide ((rd t).2.1 = [])):=by
     by_cases he:(rd t).2.1 = []
     ·rw [he];simp
     ·have:1 ≤ (rd t).2.1.length:=by
       rcases Nat.eq_zero_or_pos (rd t).2.1.length with h0 | h0
       ·exact absurd (List.length_eq_zero_iff.1 h0) he
       ·exact h0
      simp [he];omega
    rw [this]
    exact hJ w2 (Ext.refl _)
   ·rw [hbad] at hJ
    exact iCndT rfl (hJ w2 (Ext.refl _))
  ·intro _
   simp only [gx]
   have hB4:=hB2.ext h4
   cases hok:rdOk t
   ·refine iCndT rfl ?_
    rw [e1,e2,hok]
    ((with_reducible refine iNil ?_;refine iFa ?_);refine iLdB (by assumption) (by first | rfl | simp) ?_)
    intro w5 h5
    exact ⟨(hX2.trans h4).trans h5,_,rfl,(fun h=>by cases h),fun _=>rfl⟩
   ·refine iCndF rfl ?_
    have hv4:=OwK.ext hv2 h4
    rw [e1,e2,hok]
    refine iLenK hv4.sl ?_
    refine iLt ?_
    refine iCndP (fun h'=>?_) (fun h'=>?_)
    ·rw [if_pos rfl,if_pos (show 40 < (rd t).1.size by omega)]
     exact ⟨hX2.trans h4,_,rfl,(fun h=>by cases h),fun _=>rfl⟩
    ·rw [if_pos rfl,if_neg (show ¬ 40 < (rd t).1.size by omega)]
     exact ⟨hX2.trans h4,_,rfl,fun _=>hv4.mono h1.size,fun h=>absurd rfl h⟩
theorem bW (t:Str) (w:World):Cal Tryz.prog EN #[sv t] w fun v w'=>Ext w w' ∧ (pCode t = 0 → FmW w.heap.size w' v (rd t).1) ∧ (¬ pCode t = 0 → v = .slice none 0 0):=by
 apply PL;unfold EV
 refine iCall ((DA t w).mono ?_)
 rintro r w1 ⟨h1,v,rfl,hv,hn⟩
 refine iE30 ?_
 refine iE31 ?_
 refine iE32 ?_
 exact ⟨h1,hv,hn⟩
theorem CB (t:Str) (w:World):Ret Tryz.prog ES #[sv t] w (.bool (goodT t)):=by
 apply PO;unfold EB
 refine iCall ((bW t w).mono ?_)
 rintro v w1 ⟨h1,hv,hn⟩
 refine iJnB (goodT t) w1 (fun J hJ=>?_) (fun w3 h3=>fun _=>⟨by first | trivial | rfl,h1.trans h3⟩)
 unfold goodT at hJ
 by_cases hc:pCode t = 0
 ·rw [decide_eq_true hc,Bool.true_and] at hJ
  have hs:=(hv hc).sl
  obtain ⟨g,c,-,-,he⟩:=FmW.some (hv hc)
  subst he
  refine ⟨trivial,rfl,?_⟩
  refine iCndT rfl ?_
  refine iRet (wK hs (G5 t) (by have:=(bL hc).1;omega)) fun w4 h4=>?_
  exact iEqT (hJ _ h4)
 ·rw [decide_eq_false hc,Bool.false_and] at hJ
  rw [hn hc]
  exact ⟨trivial,rfl,iCndF rfl (hJ _ (Ext.refl _))⟩
end Go.Proofs.YtkjoppimpmojfaaGreat

namespace Go.Proofs.YtkjoppimpmojfaaGreat
open Go.Vc
theorem dK {v:Value} {f g:Fm} {gs:List Fm} {w:World} (hs:FmS w v f) (hk:f.kids = g :: gs) (hn:f.size ≤ 1099511627776):Cal Tryz.prog mN #[v] w fun u w'=>Ext w w' ∧ FmS w' u g:=by
 apply NQ;unfold AY
 have hsz:=f.size_kids
 rw [hk] at hsz
 simp only [sizeL,List.map_cons,List.sum_cons] at hsz
 refine iRet (zF (i:=1) hs (rG hk) hn) fun w1 h1=>?_
 refine iSlK (i:=1) (j:=1 + g.size) (hs.ext h1) (by omega) (by omega) fun u hu=>⟨h1,?_⟩
 rw [rG hk,Nat.add_sub_cancel_left,← g.cells_len,List.take_left] at hu
 exact hu
theorem c8 {v:Value} {f g h:Fm} {w:World} (hs:FmS w v f) (hk:f.kids = [g,h]) (hn:f.size ≤ 1099511627776):Cal Tryz.prog lF #[v] w fun u w'=>Ext w w' ∧ FmS w' u h:=by
 apply MH;unfold zO
 obtain ⟨hd,hsz⟩:=QB hk
 refine iRet (zF (i:=1) hs (rG hk) hn) fun w1 h1=>?_
 refine rJ (i:=1 + g.size) (hs.ext h1) (by omega) fun u hu=>⟨h1,?_⟩
 rw [hd,List.append_nil,hsz,Nat.add_sub_cancel_left] at hu
 exact hu
theorem RH {w:World} {v:Value} {f g:Fm} (hs:SlK 2 w v (f.size - 1) (f.cells.drop (1 * 2))) (hk:f.kids = [g]):FmS w v g:=by
 rw [rG hk] at hs
 have:=f.size_kids
 rw [hk] at this
 simp only [sizeL,List.map_cons,List.map_nil,List.sum_cons,List.sum_nil] at this
 rw [this,Nat.add_sub_cancel_left] at hs
 simpa [aS] using hs
theorem OK {f:Fm} {i:Nat} (hi:i < f.size):∃ a b:Int,f.cells[i * 2]? = some (.int .i64 a) ∧ f.cells[i * 2 + 1]? = some (.int .i64 b):=by
 suffices H:∀ (n:Nat) (fs:List Fm),sizeL fs ≤ n → ∀ i,i < sizeL fs → ∃ a b:Int,(aS fs)[i * 2]? = some (.int .i64 a) ∧ (aS fs)[i * 2 + 1]? = some (.int .i64 b) by
  have:=H (sizeL [f]) [f] (Nat.le_refl _) i (by simpa [sizeL] using hi)
  simpa [aS] using this
 intro n
 induction n with
 | zero=>intro fs h i hi;omega
 | succ n ih=>
  intro fs h i hi
  cases fs with
  | nil=>simp [sizeL] at hi
  | cons g gs=>
   have e:aS (g :: gs) = nd g.kind g.sym ++ aS (g.kids ++ gs):=by
    rw [DN]
    simp only [aS,List.flatMap_cons]
    rw [g.cells_kids]
    simp [aS]
   have hsz:sizeL (g :: gs) = 1 + sizeL (g.kids ++ gs):=by rw [oS];have:=g.size_kids;simp only [sizeL,List.map_cons,List.sum_cons] at this ⊢;omega
   rw [e]
   cases i with
   | zero=>exact ⟨_,_,rfl,rfl⟩
   | succ i=>
    obtain ⟨a,b,h1,h2⟩:=ih (g.kids ++ gs) (by omega) i (by omega)
    refine ⟨a,b,?_,?_⟩
    ·rw [show (i + 1) * 2 = i * 2 + 1 + 1 by omega];simpa [nd] using h1
    ·rw [show (i + 1) * 2 + 1 = i * 2 + 1 + 1 + 1 by omega];simpa [nd] using h2
theorem iLdK {sz:Nat} {v:Value} {n:Nat} {xs:List Value} {cs:Array Value} {z:Int} {j:Nat} {k:IntKind} {w:World} {K:Value → Prop} (hs:SlK sz w v n xs) (hz:z = (j:Int)) (h1:j < n) (hc:cs.size = sz) (hx:∀ i,i < sz → xs[j * sz + i]? = cs[i]?) (h:K (.agg cs)):xIa sz v (.int k z) fun p=>xLdA w sz p K:=by
 subst hz
 refine iIaK hs h1 fun b o hcell=>?_
 refine ⟨_,cs,rfl,hc,fun i hi=>?_,h⟩
 rw [dB,hcell i hi,hx i hi]
theorem JK {v0 v1:Value} {f g:Fm} {w:World} (h0:FmS w v0 f) (h1:FmS w v1 g) (hn:f.size ≤ 1099511627776):Ret Tryz.prog xW #[v0,v1] w (.bool (decide (f = g))):=by
 apply KF;unfold yM
 refine iLenK h0 ?_
 refine iLenK h1 ?_
 refine iNe ?_
 refine iCndP (fun h=>?_) (fun h=>?_)
 ·rw [decide_eq_false (show ¬ f = g from fun e=>h (by rw [e]))]
  exact ⟨by first | trivial | rfl,Ext.refl _⟩
 ·have hl:f.size = g.size:=by omega
  refine iLp (fun i:Nat=>[.int .i64 (i:Int)]) (fun i w'=>i ≤ f.size ∧ Ext w w' ∧ ∀ j,j < i * 2 → f.cells[j]? = g.cells[j]?) (fun i=>f.size - i) 0 rfl ⟨Nat.zero_le _,Ext.refl _,fun j hj=>by omega⟩ ?_
  rintro i w2 Kn ⟨hi,h2,he⟩ hKn
  intro _
  simp only [gx]
  refine iLenK (h0.ext h2) ?_
  refine iLt ?_
  refine iCndP (fun h3=>?_) (fun h3=>?_)
  ·obtain ⟨a,b,ha,hb⟩:=OK (f:=f) (i:=i) (by omega)
   obtain ⟨c,d,hc,hd⟩:=OK (f:=g) (i:=i) (by omega)
   refine iLdK (cs:=#[.int .i64 a,.int .i64 b]) (h0.ext h2) rfl (by omega) rfl (fun j hj=>by rcases j with _ | _ | j;exact ha;exact hb;omega) ?_
   refine iLdK (cs:=#[.int .i64 c,.int .i64 d]) (h1.ext h2) rfl (by omega) rfl (fun j hj=>by rcases j with _ | _ | j;exact hc;exact hd;omega) ?_
   refine VD (t0:=2) (t1:=2) (by kernel_rfl) (by kernel_rfl) (by kernel_rfl) (by kernel_rfl) (by kernel_rfl) (by kernel_rfl) ?_
   intro w3 h23
   refine iCndP (fun h4=>?_) (fun h4=>?_)
   ·rw [decide_eq_false (show ¬ f = g from fun e=>h4 (by
     subst e
     rw [ha] at hc;rw [hb] at hd
     simp only [Option.some.injEq,Value.int.injEq,true_and] at hc hd
     exact ⟨hc,hd⟩))]
    exact ⟨by first | trivial | rfl,h2.trans h23⟩
   ·refine iAdd (by omega) ?_
    have h4:=Classical.not_not.1 h4
    refine hKn (i + 1) _ ⟨by omega,h2.trans h23,fun j hj=>?_⟩ (by omega)
    by_cases h5:j < i * 2
    ·exact he j h5
    ·rcases (show j = i * 2 ∨ j = i * 2 + 1 by omega) with rfl | rfl
     ·rw [ha,hc,h4.1]
     ·rw [hb,hd,h4.2]
  ·rw [decide_eq_true (show f = g from SX (List.ext_getElem? fun j=>by
    by_cases hj:j < i * 2
    ·exact he j hj
    ·rw [List.getElem?_eq_none (by rw [f.cells_len];omega),List.getElem?_eq_none (by rw [g.cells_len];omega)]))]
   exact ⟨by first | trivial | rfl,h2⟩
theorem wH:∀ (m:Nat) {v:Value} {f:Fm} {lv:Nat} {w:World},f.size ≤ m → FmS w v f → f.good → f.size ≤ 1099511627776 → Ret Tryz.prog pY #[v,.int .i64 (lv:Int)] w (sv (f.txt lv))
 | 0,v,f,lv,w,hm,_,_,_=>by have:=f.size_pos;omega
 | m + 1,v,f,lv,w,hm,hs,hg,hn=>by
  apply LY;unfold yE
  have hbl:=vZ f
  have hk:=fZ hs
  refine iFld (j:=0) hs rfl f.size_pos (by decide) hk.1 ?_
  refine iEq ?_
  have sub:∀ {g:Fm} {u:Value} {w':World} {l:Nat},g.size < f.size → FmS w' u g → g.good → Ret Tryz.prog pY #[u,.int .i64 (l:Int)] w' (sv (g.txt l)):=fun {g u w' l} h1 h2 h3=>
   wH m (by omega) h2 h3 (by omega)
  refine iJnX (fun xs w'=>xs = [.int .i64 (f.own:Int),sv f.body] ∧ Ext w w') (fun J hJ=>?_) ?_
  rotate_left
  ·rintro xs w2 ⟨rfl,h2⟩
   intro _
   simp only [gx]
   refine iLt ?_
   refine iCndP (fun h=>?_) (fun h=>?_)
   ·refine iCat (a:=[40]) (by simp only [List.length_singleton];omega) ?_
    refine iCat (b:=[41]) (by simp only [List.length_append,List.length_singleton];omega) ?_
    rw [o2 (show f.own < lv by omega)]
    exact ⟨by simp,h2⟩
   ·rw [d9 (show lv ≤ f.own by omega)]
    exact ⟨by first | trivial | rfl,h2⟩
  · -- a join whose values are handed on
   have pass:∀ {F:(List Value → World → Prop) → Prop} {J':List Value → World → Prop},(∀ xs w',xs = [.int .i64 (f.own:Int),sv f.body] ∧ Ext w w' → J' xs w') → (∀ J,(∀ xs w',xs = [.int .i64 (f.own:Int),sv f.body] ∧ Ext w w' → J xs w') → F J) → jn F fun xs w'=>∀ _:Nat → Value,J' [gx xs 0,gx xs 1] w':=fun {F J'} hJ' h=>
    iJnX (fun xs w'=>xs = [.int .i64 (f.own:Int),sv f.body] ∧ Ext w w') h fun xs w' ⟨e,hE⟩ _=>by subst e;exact hJ' _ _ ⟨rfl,hE⟩
   cases f with
   | var x=>
    refine iCndT rfl ?_
    refine iFld (j:=0) hs rfl (Fm.size_pos _) (by decide) hk.2 ?_
    refine iFld (j:=0) hs rfl (Fm.size_pos _) (by decide) hk.2 ?_
    have hx:x < 6:=hg
    refine iAdd (by show _ ≤ (x:Int) + 1 ∧ (x:Int) + 1 ≤ _;omega) ?_
    refine SU (l:=[112,113,114,115,116,117]) (i:=x) (j:=x + 1) (by omega) (by show x + 1 ≤ 6;omega) ?_
    intro w3 h3
    rw [OP hx]
    exact hJ _ _ ⟨rfl,h3⟩
   | fls=>
    refine iCndF rfl (iEq (pass hJ fun J hJ=>iCndT rfl ?_))
    exact hJ _ _ ⟨rfl,Ext.refl _⟩
   | box a=>
    refine iCndF rfl (iEq (pass hJ fun J hJ=>iCndF rfl (iEq (pass hJ fun J hJ=>iCndT rfl ?_))))
    simp only [Fm.size] at hn
    have ha:=dD 3 a
    refine rJ (i:=1) hs (Fm.size_pos _) fun u hu=>?_
    refine iRet (sub (l:=3) (by simp only [Fm.size];omega) (RH hu rfl) hg) fun w5 h5=>?_
    refine iCat (a:=[91,93]) (by simp only [List.length_cons,List.length_nil];omega) ?_
    exact hJ _ _ ⟨rfl,h5⟩
   | dia a=>
    refine iCndF rfl (iEq (pass hJ fun J hJ=>iCndF rfl (iEq (pass hJ fun J hJ=>iCndF rfl (iEq (pass hJ fun J hJ=>iCndT rfl ?_))))))
    simp only [Fm.size] at hn
    have ha:=dD 3 a
    refine rJ (i:=1) hs (Fm.size_pos _) fun u hu=>?_
    refine iRet (sub (l:=3) (by simp only [Fm.size];omega) (RH hu rfl) hg) fun w5 h5=>?_
    refine iCat (a:=[60,62]) (by simp only [List.length_cons,List.length_nil];omega) ?_
    exact hJ _ _ ⟨rfl,h5⟩
   | and a b=>
    refine iCndF rfl (iEq (pass hJ fun J hJ=>iCndF rfl (iEq (pass hJ fun J hJ=>iCndF rfl (iEq (pass hJ fun J hJ=>iCndF rfl (iEq (pass hJ fun J hJ=>iCndT rfl ?_))))))))
    simp only [Fm.size] at hn
    have ha:=dD 2 a
    have hb:=dD 3 b
    refine iCall ((dK hs (g:=a) (gs:=[b]) rfl (by simp only [Fm.size];omega)).mono ?_)
    rintro u w4 ⟨h4,hu⟩
    refine iRet (sub (l:=2) (by simp only [Fm.size];omega) hu hg.1) fun w5 h5=>?_
    refine iCat (b:=[38]) (by simp only [List.length_singleton];omega) ?_
    have hs5:=(hs.ext h4).ext h5
    refine iCall ((c8 hs5 (g:=a) (h:=b) rfl (by simp only [Fm.size];omega)).mono ?_)
    rintro u' w6 ⟨h6,hu'⟩
    refine iRet (sub (l:=3) (by simp only [Fm.size];omega) hu' hg.2) fun w7 h7=>?_
    refine iCat (by simp only [List.length_append,List.length_singleton];omega) ?_
    refine hJ _ _ ⟨?_,((h4.trans h5).trans h6).trans h7⟩
    simp [Fm.body,Fm.txt,Fm.own]
   | or a b=>
    refine iCndF rfl (iEq (pass hJ fun J hJ=>iCndF rfl (iEq (pass hJ fun J hJ=>iCndF rfl (iEq (pass hJ fun J hJ=>iCndF rfl (iEq (pass hJ fun J hJ=>iCndF rfl (iEq (pass hJ fun J hJ=>iCndT rfl ?_))))))))))
    simp only [Fm.size] at hn
    have ha:=dD 1 a
    have hb:=dD 2 b
    refine iCall ((dK hs (g:=a) (gs:=[b]) rfl (by simp only [Fm.size];omega)).mono ?_)
    rintro u w4 ⟨h4,hu⟩
    refine iRet (sub (l:=1) (by simp only [Fm.size];omega) hu hg.1) fun w5 h5=>?_
    refine iCat (b:=[124]) (by simp only [List.length_singleton];omega) ?_
    have hs5:=(hs.ext h4).ext h5
    refine iCall ((c8 hs5 (g:=a) (h:=b) rfl (by simp only [Fm.size];omega)).mono ?_)
    rintro u' w6 ⟨h6,hu'⟩
    refine iRet (sub (l:=2) (by simp only [Fm.size];omega) hu' hg.2) fun w7 h7=>?_
    refine iCat (by simp only [List.length_append,List.length_singleton];omega) ?_
    refine hJ _ _ ⟨?_,((h4.trans h5).trans h6).trans h7⟩
    simp [Fm.body,Fm.txt,Fm.own]
   | imp a b=>
    refine iCndF rfl (iEq (pass hJ fun J hJ=>iCndF rfl (iEq (pass hJ fun J hJ=>iCndF rfl (iEq (pass hJ fun J hJ=>iCndF rfl (iEq (pass hJ fun J hJ=>iCndF rfl (iEq (pass hJ fun J hJ=>iCndF rfl (iEq (pass hJ fun J hJ=>iCndT rfl ?_))))))))))))
    have hbd:(Fm.imp a b).body = if b = .fls then (if a = .fls then [84] else 126 :: par (decide (a.own < 3)) a.body) else par (decide (a.own < 1)) a.body ++ 62 :: b.body:=by rw [Fm.body]
    have how:(Fm.imp a b).own = if b = .fls then 3 else 0:=by rw [Fm.own]
    refine iCall ((zU w).mono ?_)
    rintro vt w26 ⟨h26,hvt⟩
    refine iRet (JK (hs.ext h26) hvt.sl (by omega)) fun w27 h27=>?_
    have h27':=h26.trans h27
    have hs27:=hs.ext h27'
    have hsz:(Fm.imp a b).size = 1 + a.size + b.size:=rfl
    refine pass hJ fun J hJ=>?_
    refine iCndP (fun h=>?_) (fun h=>?_)
    ·cases h
     exact hJ _ _ ⟨by simp [Fm.body,Fm.own],h27'⟩
    ·refine iCall ((c8 hs27 (g:=a) (h:=b) rfl (by omega)).mono ?_)
     rintro u w30 ⟨h30,hu⟩
     have h30':=h27'.trans h30
     have hs30:=hs.ext h30'
     refine iFld (j:=0) hu rfl b.size_pos (by decide) (fZ hu).1 ?_
     refine iEq ?_
     refine pass hJ fun J hJ=>?_
     refine iCndP (fun hb=>?_) (fun hb=>?_)
     ·have hb:b = .fls:=by cases b <;> first | rfl | (simp [Fm.kind] at hb)
      have ha:¬ a = .fls:=fun e=>h (by rw [e,hb])
      have hal:=dD 3 a
      refine iCall ((dK hs30 (g:=a) (gs:=[b]) rfl (by omega)).mono ?_)
      rintro u' w33 ⟨h33,hu'⟩
      refine iRet (sub (l:=3) (by omega) hu' hg.1) fun w34 h34=>?_
      refine iCat (a:=[126]) (by simp only [List.length_singleton];omega) ?_
      refine hJ _ _ ⟨?_,(h30'.trans h33).trans h34⟩
      rw [hbd,how,if_pos hb,if_pos hb,if_neg ha]
      rfl
     ·have hb:¬ b = .fls:=fun e=>hb (by rw [e];rfl)
      have ha1:=dD 1 a
      have hb0:=dD 0 b
      refine iCall ((dK hs30 (g:=a) (gs:=[b]) rfl (by omega)).mono ?_)
      rintro u' w35 ⟨h35,hu'⟩
      refine iRet (sub (l:=1) (by omega) hu' hg.1) fun w36 h36=>?_
      refine iCat (b:=[62]) (by simp only [List.length_singleton];omega) ?_
      have hs36:=(hs30.ext h35).ext h36
      refine iCall ((c8 hs36 (g:=a) (h:=b) rfl (by omega)).mono ?_)
      rintro u'' w37 ⟨h37,hu''⟩
      refine iRet (sub (l:=0) (by omega) hu'' hg.2) fun w38 h38=>?_
      refine iCat (by simp only [List.length_append,List.length_singleton];omega) ?_
      refine hJ _ _ ⟨?_,(((h30'.trans h35).trans h36).trans h37).trans h38⟩
      rw [hbd,how,if_neg hb,if_neg hb]
      simp [Fm.txt,par]
theorem bD {v:Value} {f:Fm} {w:World} (hs:FmS w v f) (hg:f.good) (hn:f.size ≤ 1099511627776):Ret Tryz.prog d6 #[v] w (sv f.body):=by
 apply NR;unfold AP
 refine iRet (wH _ (lv:=0) (Nat.le_refl _) hs hg hn) fun w1 h1=>?_
 rw [d9 (Nat.zero_le _)]
 exact ⟨by first | trivial | rfl,h1⟩
theorem pZ (t:Str) (w:World):Cal Tryz.prog qV #[sv t] w fun r w'=>Ext w w' ∧ ∃ v,r = .tuple #[v,.int .i64 (pAt t:Int),.int .i64 (pCode t)] ∧ (pCode t = 0 → FmW w.heap.size w' v (rd t).1) ∧ (¬ pCode t = 0 → v = .slice none 0 0):=by
 apply FO;unfold qX
 refine iLenT ?_
 refine iLt ?_
 refine iCndP (fun h=>?_) (fun h=>?_)
 ·have e1:pCode t = 3:=by unfold pCode;rw [if_pos (by omega)]
  have e2:pAt t = 0:=by unfold pAt;rw [if_pos (by omega)]
  rw [e1,e2]
  exact ⟨Ext.refl _,_,rfl,(fun h=>by cases h),fun _=>rfl⟩
 ·have e1:pCode t = if rdOk t then (if 40 < (rd t).1.size then 3 else 0) else 6:=by unfold pCode;rw [if_neg (by omega)]
  have e2:pAt t = if rdOk t then 0 else rdAt t:=by unfold pAt;rw [if_neg (by omega)]
  refine iCall ((KB (by omega) w).mono ?_)
  rintro r w1 ⟨h1,v,rfl,hv,-⟩
  refine iE20 ?_
  refine iE21 ?_
  cases hok:rdOk t
  ·rw [if_neg (by decide)]
   refine iLe ?_
   refine iCndT (by simp) ?_
   rw [e1,e2,hok]
   exact ⟨h1,_,rfl,(fun h=>by cases h),fun _=>rfl⟩
  ·rw [if_pos rfl]
   refine iLe ?_
   refine iCndF (by decide) ?_
   rw [e1,e2,hok,if_pos rfl]
   refine iLenK (hv hok).sl ?_
   refine iLt ?_
   refine iCndP (fun h'=>?_) (fun h'=>?_)
   ·rw [if_pos (show 40 < (rd t).1.size by omega)]
    exact ⟨h1,_,rfl,(fun h=>by cases h),fun _=>rfl⟩
   ·rw [if_neg (show ¬ 40 < (rd t).1.size by omega)]
    exact ⟨h1,_,rfl,fun _=>hv hok,fun h=>absurd rfl h⟩
theorem pW (t:Str) (w:World):Cal Tryz.prog rF #[sv t] w fun r w'=>Ext w w' ∧ ∃ v,r = .tuple #[v,.bool (goodT t)] ∧ (pCode t = 0 → FmW w.heap.size w' v (rd t).1):=by
 apply AX;unfold rU
 refine iCall ((pZ t w).mono ?_)
 rintro r w1 ⟨h1,v,rfl,hv,-⟩
 refine iE30 ?_
 refine iE31 ?_
 refine iE32 ?_
 refine iJnX (fun xs w'=>xs = [v,.bool (goodT t)] ∧ Ext w1 w') (fun J hJ=>?_) ?_
 ·refine iEq ?_
  unfold goodT at hJ
  refine iCndP (fun hc=>?_) (fun hc=>?_)
  ·rw [decide_eq_true hc,Bool.true_and] at hJ
   refine iRet (bD (hv hc).sl (G5 t) (by have:=(bL hc).1;omega)) fun w4 h4=>?_
   exact iEqT (hJ _ _ ⟨rfl,h4⟩)
  ·rw [decide_eq_false hc,Bool.false_and] at hJ
   exact hJ _ _ ⟨rfl,Ext.refl _⟩
 ·rintro xs w3 ⟨rfl,h3⟩
  intro _
  exact ⟨h1.trans h3,v,rfl,fun hc=>(hv hc).ext h3⟩
end Go.Proofs.YtkjoppimpmojfaaGreat

namespace Go.Vc
theorem iNew3 {w:World} {e:TypeId} {a b c:Value} {K:Value → World → Prop} (h:∀ q w',q = w.heap.size ∧ w'.heap.size = q + 1 → Ext w w' → Blk e w' q [a,b,c] → K (.pointer (some ⟨q,0,none⟩)) w'):xNew (Value.cells (.agg #[a,b,c])) e w K:=
 iNew fun q w' h1 h2 h3=>h q w' h1 h2 (by simpa [Value.cells] using h3)
theorem iStU {w:World} {e:TypeId} {b i:Nat} {cs:List Value} {v:Value} {K:World → Prop} (hB:Blk e w b cs) (hi:i < cs.length) (hv:aD v = true) (h:∀ w',Blk e w' b (cs.set i v) → Upd b w w' → K w'):xSt w (.pointer (some ⟨b,i,none⟩)) v K:=
 iStB hB hi hv fun h2=>h _ h2 (Upd.setCell w b i v)
/-! ### What is asked of items -/
end Go.Vc



namespace Go.Vc
theorem WJ {T:List Str} {p:Str → Bool} {i:Nat} (hi:i < T.length) (h:p (gt T i) = true):T.any p = true:=List.any_eq_true.2 ⟨T[i],List.getElem_mem _,by rw [← gt_eq hi];exact h⟩
theorem V8 {T:List Str} {p:Str → Bool} (h:∀ i,i < T.length → p (gt T i) = false):T.any p = false:=by
 rw [List.any_eq_false]
 intro x hx
 obtain ⟨i,hi,rfl⟩:=List.getElem_of_mem hx
 rw [← gt_eq hi,h i hi]
 exact Bool.false_ne_true
theorem iIaG {w:World} {v:Value} {L:List Str} {z:Int} {j:Nat} {k:IntKind} {K:Value → Prop} (hs:SlT w v L) (hz:z = (j:Int)) (hj:j < L.length) (h:K (sv (gt L j))):xIa 1 v (.int k z) fun p=>xLd w p K:=by
 subst hz
 exact iIaT hs hj fun p hp=>iLd hp (by rw [← gt_eq hj];exact h)
end Go.Vc
namespace Go.Proofs.YtkjoppimpmojfaaGreat
open Go.Vc
theorem m7 {v fv:Value} {L:List Str} {p:Str → Bool} {w:World} (hs:SlT w v L) (hf:∀ x ∈ L,∀ w',Ext w w' → callV Tryz.prog fv [sv x] w' fun u w''=>u = .bool (p x) ∧ Ext w' w''):Ret Tryz.prog fM #[v,fv] w (.bool (L.any p)):=by
 apply lX;unfold fG
 have hln:=hs.len
 rw [aI] at hln
 refine iCall (Cal.mono (R:=fun r w'=>Ext w w' ∧ ∃ z:Int,r = .int .i64 z ∧ (decide (0 ≤ z) = L.any p)) ?_ ?_)
 ·apply oA;unfold gJ
  refine aM hs ?_
  refine iLp (fun i:Nat=>[.int .i64 (i:Int)]) (fun i w'=>i ≤ L.length ∧ Ext w w' ∧ ∀ j,j < i → p (gt L j) = false) (fun i=>L.length - i) 0 rfl ⟨Nat.zero_le _,Ext.refl _,fun j hj=>by omega⟩ ?_
  rintro i w2 Kn ⟨hi,h2,hno⟩ hKn
  intro _
  simp only [gx]
  refine iLt ?_
  refine iCndP (fun h=>?_) (fun h=>?_)
  ·refine iIaG (hs.ext h2) rfl (by omega) ?_
   refine (hf (gt L i) (by rw [gt_eq (show i < L.length by omega)];exact List.getElem_mem _) w2 h2).mono ?_
   rintro u w3 ⟨rfl,h23⟩
   refine iCnd (fun h3=>?_) (fun h3=>?_)
   ·exact ⟨h2.trans h23,_,rfl,by rw [WJ (by omega) h3];simp⟩
   ·refine iAdd (by omega) ?_
    refine hKn (i + 1) _ ⟨by omega,h2.trans h23,fun j hj=>?_⟩ (by omega)
    by_cases hji:j = i
    ·subst hji;exact h3
    ·exact hno j (by omega)
  ·exact ⟨h2,-1,rfl,by rw [V8 fun j hj=>hno j (by omega)];rfl⟩
 ·rintro r w1 ⟨h1,z,rfl,hz⟩
  refine iLe ?_
  rw [hz]
  exact ⟨by first | trivial | rfl,h1⟩
theorem iA {v:Value} {L:List Str} {t:Str} {w:World} (hs:SlT w v L):Ret Tryz.prog gX #[v,sv t] w (.bool (decide (t ∈ L))):=by
 apply oI;unfold gT
 have hln:=hs.len
 rw [aI] at hln
 refine iCall (Cal.mono (R:=fun r w'=>Ext w w' ∧ ∃ z:Int,r = .int .i64 z ∧ (decide (0 ≤ z) = decide (t ∈ L))) ?_ ?_)
 ·apply jE;unfold eV
  refine aM hs ?_
  refine iLp (fun i:Nat=>[.int .i64 (i:Int)]) (fun i w'=>i ≤ L.length ∧ Ext w w' ∧ ∀ j,j < i → ¬ t = gt L j) (fun i=>L.length - i) 0 rfl ⟨Nat.zero_le _,Ext.refl _,fun j hj=>by omega⟩ ?_
  rintro i w2 Kn ⟨hi,h2,hno⟩ hKn
  intro _
  simp only [gx]
  refine iLt ?_
  refine iCndP (fun h=>?_) (fun h=>?_)
  ·refine iIaG (hs.ext h2) rfl (by omega) ?_
   refine iEqT ?_
   refine iCndP (fun h3=>?_) (fun h3=>?_)
   ·refine ⟨h2,_,rfl,?_⟩
    rw [decide_eq_true (show t ∈ L by rw [h3,gt_eq (show i < L.length by omega)];exact List.getElem_mem _)]
    simp
   ·refine iAdd (by omega) ?_
    refine hKn (i + 1) _ ⟨by omega,h2,fun j hj=>?_⟩ (by omega)
    by_cases hji:j = i
    ·subst hji;exact h3
    ·exact hno j (by omega)
  ·refine ⟨h2,-1,rfl,?_⟩
   rw [decide_eq_false (show ¬ t ∈ L from fun hm=>by
    obtain ⟨j,hj,e⟩:=List.getElem_of_mem hm
    exact hno j (by omega) (by rw [gt_eq hj];exact e.symm))]
   rfl
 ·rintro r w1 ⟨h1,z,rfl,hz⟩
  refine iLe ?_
  rw [hz]
  exact ⟨by first | trivial | rfl,h1⟩
theorem KJ {v:Value} {L:List Str} {t:Str} {w:World} (hs:SlT w v L):Ret Tryz.prog BH #[v,sv t] w (.bool (decide (t ∈ L))):=by
 apply MT;unfold BT
 have hln:=hs.len
 rw [aI] at hln
 refine iLp (fun i:Nat=>[.int .i64 (i:Int)]) (fun i w'=>i ≤ L.length ∧ Ext w w' ∧ ∀ j,j < i → ¬ gt L j = t) (fun i=>L.length - i) 0 rfl ⟨Nat.zero_le _,Ext.refl _,fun j hj=>by omega⟩ ?_
 rintro i w2 Kn ⟨hi,h2,hno⟩ hKn
 intro _
 simp only [gx]
 refine aM (hs.ext h2) ?_
 refine iLt ?_
 refine iCndP (fun h=>?_) (fun h=>?_)
 ·refine iIaG (hs.ext h2) rfl (by omega) ?_
  refine iEqT ?_
  refine iCndP (fun h3=>?_) (fun h3=>?_)
  ·rw [decide_eq_true (show t ∈ L by rw [← h3,gt_eq (show i < L.length by omega)];exact List.getElem_mem _)]
   exact ⟨by first | trivial | rfl,h2⟩
  ·refine iAdd (by omega) ?_
   refine hKn (i + 1) _ ⟨by omega,h2,fun j hj=>?_⟩ (by omega)
   by_cases hji:j = i
   ·subst hji;exact h3
   ·exact hno j (by omega)
 ·rw [decide_eq_false (show ¬ t ∈ L from fun hm=>by
   obtain ⟨j,hj,e⟩:=List.getElem_of_mem hm
   exact hno j (by omega) (by rw [gt_eq hj];exact e))]
  exact ⟨by first | trivial | rfl,h2⟩
end Go.Proofs.YtkjoppimpmojfaaGreat


namespace Go.Vc
theorem SD {t:Str} (h:goodT t = true):(∃ a:Fm,a.good ∧ t = a.body) ∧ t.length ≤ 200:=by
 unfold goodT at h
 rw [Bool.and_eq_true,decide_eq_true_eq,decide_eq_true_eq] at h
 exact ⟨⟨_,G5 t,h.2.symm⟩,(bL h.1).2.1⟩
end Go.Vc
namespace Go.Proofs.YtkjoppimpmojfaaGreat
open Go.Vc
def FmsS (w:World) (vs:List Value) (fs:List Fm):Prop:=vs.length = fs.length ∧ ∀ i,i < fs.length → ∃ v,vs[i]? = some v ∧ FmS w v (fs.getD i .fls)
end Go.Proofs.YtkjoppimpmojfaaGreat

namespace Go.Vc
theorem T3 {lo:Nat} {e:TypeId} {w:World} {v:Value} {xs:List Value} {K:Value → Prop} (hs:Ow lo e w v xs) (h0:v = .slice none 0 0 → K (.bool true)) (h1:K (.bool false)):xNilS true v (.slice none 0 0) K:=by
 obtain ⟨_,h | ⟨g,cap,cur,hv,_⟩⟩:=hs
 ·obtain ⟨rfl,_⟩:=h
  exact ⟨trivial,rfl,h0 rfl⟩
 ·subst hv
  exact ⟨trivial,rfl,h1⟩
end Go.Vc
namespace Go.Proofs.YtkjoppimpmojfaaGreat
open Go.Vc
theorem oL {lo:Nat} {v:Value} {L:List Str} {w:World} (hs:Ow lo aB w v (strs L)) (hL:L.length ≤ 1099511627776):
  Cal Tryz.prog jM #[v] w fun r w'=>Ext w w' ∧ Ow w.heap.size aB w' r (strs L):=by
 apply qF;unfold jP
 refine T3 hs (fun e=>?_) ?_
 ·refine iCndT rfl ⟨Ext.refl _,?_⟩
  have:strs L = []:=by
   obtain ⟨_,h | ⟨g,cap,cur,hv,_⟩⟩:=hs
   ·exact List.length_eq_zero_iff.1 h.2
   ·rw [e] at hv;cases hv
  rw [this];exact Ow.nil _ _ _
 ·refine iCndF rfl ?_
  refine iBs0 fun u w1 hw1 x1 ho=>?_
  have hll:=aI L
  refine iApp bS b6 rfl ho (hs.ext x1).sl (l3 L) (by simp only [List.length_nil];omega) (by simp only [List.length_nil];omega) (by omega) fun u' w2 ho2 hg=>?_
  refine ⟨x1.grown hg fun b hb=>(ho.blk b hb).1,by simpa using ho2⟩
end Go.Proofs.YtkjoppimpmojfaaGreat

namespace Go.Vc
def Fm.plain:Fm → Bool
 | .var _=>true
 | .fls=>true
 | .and a b=>a.plain && b.plain
 | .or a b=>a.plain && b.plain
 | .imp a b=>a.plain && b.plain
 | .box _=>false
 | .dia _=>false
/-! ### Models -/
/-! ### What the rules for the left side do -/
/-! ### A model of many, with a root below -/
/-! ### The rule for (x > y) > z on the left side -/
/-! ### The other rules for the left side -/
/-! ### A measure that each premise makes smaller -/
end Go.Vc

namespace Go.Vc
/-! ### Texts of plain formulas -/
def fT (t:Str):Fm:=(rd t).1
def GT (t:Str):Prop:=∃ a:Fm,a.good ∧ a.plain = true ∧ t = a.body
theorem gL {a:Fm} (h:a.good):fT a.body = a:=by rw [fT,CM h]
theorem GT.at {t:Str} (h:GT t):(fT t).good ∧ (fT t).plain = true ∧ (fT t).body = t:=by
 obtain ⟨a,h1,h2,rfl⟩:=h
 rw [gL h1]
 exact ⟨h1,h2,rfl⟩
end Go.Vc

namespace Go.Vc
abbrev Sq:=List Str × Str
end Go.Vc

namespace Go.Vc
theorem WU {a b:Str} (h:sv a = sv b):a = b:=by
 simp only [sv,Value.string.injEq,ByteArray.mk.injEq] at h
 exact Array.toList_inj.2 h |> fun e=>by simpa using e
theorem MapB.keys {Q:Str → Value → Prop} {es:Array MapEntry} (h:∀ x ∈ es.toList,∃ t:Str,x.key = sv t ∧ Q t x.val):∀ x ∈ es.toList,MapKept.IsKey .string x.key:=fun x hx=>by
 obtain ⟨t,e,_⟩:=h x hx
 rw [e];trivial
end Go.Vc

namespace Go.Vc
theorem SlK.cellOk {k:Nat} {w:World} {v:Value} {n:Nat} {xs:List Value} (h:SlK k w v n xs):aD v = true:=by
 obtain ⟨_,a,c,rfl,_⟩:=h
 rfl
theorem WC {fs:List Fm} {j:Nat} (h:j < fs.length):fs.getD j .fls = fs[j]:=by simp [List.getD_eq_getElem?_getD,h]
theorem lY {f:Fm}:∀ g ∈ f.kids,g.size < f.size:=fun g hg=>by
 have:=f.size_kids
 have h2:∀ (l:List Fm),g ∈ l → g.size ≤ sizeL l:=by
  intro l
  induction l with
  | nil=>intro h;simp at h
  | cons a l ih=>
   intro h
   simp only [sizeL,List.map_cons,List.sum_cons] at ih ⊢
   rcases List.mem_cons.1 h with rfl | h
   ·omega
   ·have:=ih h;omega
 have:=h2 _ hg
 omega
theorem cE:∀ {f:Fm},f.good → ∀ g ∈ f.kids,g.good
 | .and a b,h,g,hg=>by simp only [Fm.kids,List.mem_cons,List.not_mem_nil,or_false] at hg;rcases hg with rfl | rfl;exact h.1;exact h.2
 | .or a b,h,g,hg=>by simp only [Fm.kids,List.mem_cons,List.not_mem_nil,or_false] at hg;rcases hg with rfl | rfl;exact h.1;exact h.2
 | .imp a b,h,g,hg=>by simp only [Fm.kids,List.mem_cons,List.not_mem_nil,or_false] at hg;rcases hg with rfl | rfl;exact h.1;exact h.2
 | .box a,h,g,hg=>by simp only [Fm.kids,List.mem_cons,List.not_mem_nil,or_false] at hg;subst hg;exact h
 | .dia a,h,g,hg=>by simp only [Fm.kids,List.mem_cons,List.not_mem_nil,or_false] at hg;subst hg;exact h
end Go.Vc
namespace Go.Proofs.YtkjoppimpmojfaaGreat
open Go.Vc
abbrev TxW (lo:Nat) (w:World) (v:Value) (L:List Str):Prop:=Ow lo aB w v (strs L)
theorem OU {v:Value} {f:Fm} {w:World} (hs:FmS w v f) (hn:f.size ≤ 1099511627776):Cal Tryz.prog GO #[v] w fun r w'=>Ext w w' ∧ ∃ vs,Sl w' r vs ∧ FmsS w' vs f.kids:=by
 apply QL;unfold F9
 refine iFld (j:=0) hs rfl f.size_pos (by decide) (fZ hs).1 ?_
 refine iRet (zW f.kind w) fun w1 x1=>?_
 have har:=f.arity_kids
 refine iEq ?_
 refine iCndP (fun h=>?_) (fun h=>?_)
 ·obtain ⟨g,hg⟩:∃ g,f.kids = [g]:=List.length_eq_one_iff.1 (by omega)
  refine iCall ((dP (hs.ext x1) hg hn).mono ?_)
  rintro u w2 ⟨x2,hu⟩
  refine iBs1 rfl (SlK.cellOk hu) fun b w3 hb x3 hB=>?_
  refine ⟨(x1.trans x2).trans x3,_,Sl.ofBlk (n:=1) hB rfl (by decide),by rw [hg];rfl,fun i hi=>?_⟩
  rw [hg] at hi ⊢
  have:i = 0:=by simp at hi;omega
  subst this
  exact ⟨u,rfl,hu.ext x3⟩
 ·refine iEq ?_
  refine iCndP (fun h2=>?_) (fun h2=>?_)
  ·obtain ⟨g,k,hg⟩:∃ g k,f.kids = [g,k]:=by
    have:f.kids.length = 2:=by omega
    match hk:f.kids,this with
    | [g,k],_=>exact ⟨g,k,rfl⟩
   refine iCall ((dP (hs.ext x1) hg hn).mono ?_)
   rintro u w2 ⟨x2,hu⟩
   refine iCall ((kF ((hs.ext x1).ext x2) hg hn).mono ?_)
   rintro u' w3 ⟨x3,hu'⟩
   refine iBs2 rfl (SlK.cellOk hu) (SlK.cellOk hu') fun b w4 hb x4 hB=>?_
   refine ⟨((x1.trans x2).trans x3).trans x4,_,Sl.ofBlk (n:=2) hB rfl (by decide),by rw [hg];rfl,fun i hi=>?_⟩
   rw [hg] at hi ⊢
   rcases i with _ | _ | i
   ·exact ⟨u,rfl,(hu.ext x3).ext x4⟩
   ·exact ⟨u',rfl,hu'.ext x4⟩
   ·simp at hi;omega
  ·refine ⟨x1,[],Sl.nil _,?_,fun i hi=>?_⟩
   ·have:f.kids.length ≤ 2:=by cases f <;> simp [Fm.kids]
    simp;omega
   ·have:f.kids.length ≤ 2:=by cases f <;> simp [Fm.kids]
    omega
theorem eK {v:Value} {f:Fm} {w:World} (hs:FmS w v f) (hg:f.good) (hn:f.size ≤ 1099511627776):Cal Tryz.prog wX #[v] w fun r w'=>Ext w w' ∧ TxW w.heap.size w' r (f.kids.map Fm.body):=by
 apply IN;unfold vL
 refine iCall ((OU hs hn).mono ?_)
 rintro u w1 ⟨x1,vs,hsl,hf⟩
 refine iLenS hsl ?_
 have hkl:f.kids.length ≤ 2:=by cases f <;> simp [Fm.kids]
 have hvl:=hf.1
 refine iLp (fun s:Value × Nat=>[s.1,.int .i64 (s.2:Int)]) (fun s w'=>s.2 ≤ f.kids.length ∧ Ext w1 w' ∧ TxW w1.heap.size w' s.1 ((f.kids.take s.2).map Fm.body)) (fun s=>f.kids.length - s.2) (.slice none 0 0,0) rfl ⟨Nat.zero_le _,Ext.refl _,Ow.nil _ _ _⟩ ?_
 rintro ⟨r,k⟩ w2 Kn ⟨hk,x2,ho⟩ hKn
 have hk:k ≤ f.kids.length:=hk
 have ho:TxW w1.heap.size w2 r ((f.kids.take k).map Fm.body):=ho
 intro _
 simp only [gx]
 refine iLt ?_
 refine iCndP (fun h=>?_) (fun h=>?_)
 ·have hkk:k < f.kids.length:=by omega
  obtain ⟨a,ha1,ha2⟩:=hf.2 k hkk
  rw [WC hkk] at ha2
  refine iIa (j:=(k:Int)) (hsl.ext x2) (by omega) (by omega) fun p hp=>?_
  have hp:w2.cell? p = some a:=hp.trans (by rw [Int.toNat_natCast];exact ha1)
  refine iLd hp ?_
  have hm:f.kids[k] ∈ f.kids:=List.getElem_mem _
  have:=lY _ hm
  refine iRet (wK (ha2.ext x2) (cE hg _ hm) (by omega)) fun w3 x3=>?_
  have ho3:=ho.ext x3
  refine iApp1 bS b6 rfl ho3 rfl (by rw [aI,List.length_map,List.length_take];omega) (by rw [aI,List.length_map,List.length_take];omega) (x2.trans x3).size fun r' w5 ho5 hg5=>?_
  refine iAdd (by omega) ?_
  refine hKn (r',k + 1) _ ⟨hkk,(x2.trans x3).grown hg5 fun b hb=>(ho3.blk b hb).1,?_⟩ (by show f.kids.length - (k + 1) < f.kids.length - k;omega)
  show TxW _ _ _ _
  rw [List.take_succ_eq_append_getElem hkk,List.map_append,List.map_singleton]
  rw [s4] at ho5
  exact ho5
 ·have:k = f.kids.length:=by omega
  subst this
  rw [List.take_length] at ho
  exact ⟨x1.trans x2,ho.mono x1.size⟩
end Go.Proofs.YtkjoppimpmojfaaGreat

namespace Go.Vc
theorem iNew2 {w:World} {e:TypeId} {a b:Value} {K:Value → World → Prop} (h:∀ q w',q = w.heap.size ∧ w'.heap.size = q + 1 → Ext w w' → Blk e w' q [a,b] → K (.pointer (some ⟨q,0,none⟩)) w'):xNew (Value.cells (.agg #[a,b])) e w K:=
 iNew fun q w' h1 h2 h3=>h q w' h1 h2 (by simpa [Value.cells] using h3)
theorem iLd2 {w:World} {e:TypeId} {q:Nat} {a b:Value} {K:Value → Prop} (hB:Blk e w q [a,b]) (h:K (.agg #[a,b])):xLdA w 2 (.pointer (some ⟨q,0,none⟩)) K:=iLdA hB rfl (by simpa using h)
theorem iSt2 {P:Program} {w:World} {e:TypeId} {q:Nat} {cs:List Value} {a b:Value} {K:World → Prop} (hB:Blk e w q cs) (hl:cs.length = 2) (ha:aD a = true) (hb:aD b = true)
  (h:∀ w',Blk e w' q [a,b] → Ch (fun d=>d = q) w w' → K w'):xStA P w 2 (.pointer (some ⟨q,0,none⟩)) (.agg #[a,b]) K:=by
 obtain ⟨w',h1,h2,h3⟩:=rP (P:=P) [a,b] 0 w cs hB (by simp [hl]) (fun v hv=>by simp at hv;rcases hv with rfl | rfl <;> assumption)
 refine ⟨_,w',rfl,rfl,?_,h w' ?_ (h2.ch rfl)⟩
 ·simpa [Value.cells] using h1
 ·rw [List.take_zero,List.nil_append,List.drop_of_length_le (by simp [hl]),List.append_nil] at h3;exact h3
theorem iBsA2 {w:World} {e:TypeId} {z0 z1 x y x' y':Value} {K:Value → World → Prop} (h:∀ b w',b = w.heap.size ∧ w'.heap.size = b + 1 → Ext w w' → Blk e w' b [x,y,x',y'] → K (.slice (some ⟨b,0,none⟩) 2 2) w'):
  xBs e (Value.cells (.agg #[z0,z1])) 2 2 [(0,.agg #[x,y]),(1,.agg #[x',y'])] w K:=by
 refine ⟨#[x,y,x',y'],?_,h _ _ ⟨rfl,by simp⟩ (Ext.alloc w _) (Blk.new w #[x,y,x',y'] e)⟩
 simp [Instr.fill,Value.cells,show Array.range 4 = #[0,1,2,3] from rfl]
theorem SlK.ofBlk {k:Nat} {e:TypeId} {w:World} {b n:Nat} {cs:List Value} (h:Blk e w b cs) (hn:cs.length = n * k) (hm:n ≤ 9223372036854775807):SlK k w (.slice (some ⟨b,0,none⟩) n n) n cs:=(OwK.ofBlk (lo:=0) h (Nat.zero_le _) hn hm).sl
end Go.Vc
namespace Go.Proofs.YtkjoppimpmojfaaGreat
open Go.Vc
theorem nD {lo lo':Nat} {v vt:Value} {L ts:List Str} {r:Str} {w:World} (hv:TxW lo w v L) (ht:TxW lo' w vt ts) (hl:L.length + ts.length ≤ 1099511627776):
  Cal Tryz.prog kK #[.agg #[v,sv r],vt] w fun u w'=>Ext w w' ∧ ∃ v',u = .agg #[v',sv r] ∧ TxW w.heap.size w' v' (setT (L ++ ts)):=by
 apply IW;unfold wC
 refine iNew2 fun q1 w1 hq1 x1 hB1=>?_
 refine iNew2 fun q2 w2 hq2 x2 hB2=>?_
 have hB1:=hB1.ext x2
 refine iFa (iLdB hB1 rfl ?_)
 refine iFa (iLdB hB1 rfl ?_)
 intro w3 x3
 have X3:=(x1.trans x2).trans x3
 refine iCall ((k9 (A:=L) (B:=ts) (hv.ext X3).sl (ht.ext X3).sl hv.cell ht.cell (by omega)).mono ?_)
 rintro u' w6 ⟨x6,ho6⟩
 refine ⟨x6,?_⟩
 refine cY ho6.cell rfl ?_
 intro w7 x7
 have X7:=(x3.trans x6).trans x7
 have hB7:=hB2.ext X7
 refine iSt2 hB7 rfl ho6.cell rfl fun w8 hB8 hc8=>?_
 intro w9 x9
 refine iLd2 (hB8.ext x9) ?_
 have ho8:TxW w3.heap.size w8 u' (setT (L ++ ts)):=(ho6.ext x7).ch hc8 fun c hc e=>by
  have h1:=(ho6.blk c hc).1
  have h4:=x3.size
  omega
 have hX:Ext w w8:=((x1.trans x2).trans X7).thenCh hc8 fun c hc=>by have:=x1.size;omega
 exact ⟨hX.trans x9,u',rfl,(ho8.ext x9).mono X3.size⟩
theorem bH {v:Value} {r r':Str} {w:World} (hc:aD v = true):Ret Tryz.prog qL #[.agg #[v,sv r],sv r'] w (.agg #[v,sv r']):=by
 apply FL;unfold qQ
 refine iNew2 fun q1 w1 hq1 x1 hB1=>?_
 refine iNew2 fun q2 w2 hq2 x2 hB2=>?_
 have hB1:=hB1.ext x2
 refine iFa (iLdB hB1 rfl ?_)
 refine cY hc rfl ?_
 refine iSt2 hB2 rfl hc rfl fun w8 hB8 hc8=>?_
 refine iLd2 hB8 ⟨rfl,(x1.trans x2).thenCh hc8 fun c hc=>by have:=x1.size;omega⟩
end Go.Proofs.YtkjoppimpmojfaaGreat

namespace Go.Vc
abbrev addT (L:List Str) (t:Str):List Str:=setT (L ++ [t])
theorem bB {L:List Str} {t u:Str}:u ∈ addT L t ↔ u ∈ L ∨ u = t:=by
 rw [cP,List.mem_append,List.mem_singleton]
end Go.Vc

namespace Go.Vc
/-! ### Parts, and what a left side lacks of them -/
/-! ### Moves -/
def leftG (L:List Str) (r:Str) (rule:Nat) (a:Fm):List Sq × Bool:=
 match a with
 | .and x y=>if rule = 3 then ([(setT (L ++ [x.body,y.body]),r)],true) else ([],false)
 | .or x y=>if rule = 5 then ([(addT L x.body,r),(addT L y.body,r)],true) else ([],false)
 | .imp x y=>if rule = 8 then ([(L,x.body),(addT L y.body,r)],true) else ([],false)
 | _=>([],false)
def bK (L:List Str) (rule:Nat) (c:Fm):List Sq × Bool:=
 match c with
 | .and x y=>if rule = 4 then ([(L,x.body),(L,y.body)],true) else ([],false)
 | .or x y=>if rule = 6 then ([(L,x.body)],true) else if rule = 7 then ([(L,y.body)],true) else ([],false)
 | .imp x y=>if rule = 9 then ([(addT L x.body,y.body)],true) else ([],false)
 | _=>([],false)
def bI (L:List Str) (r:Str) (rule:Nat) (main:Str):List Sq × Bool:=
 if rule = 1 then ([],decide (main = []) && decide (r ∈ L)) else if rule = 2 then ([],decide (main = []) && decide (Fm.fls.body ∈ L)) else
 if rule = 3 ∨ rule = 5 ∨ rule = 8 then (if main ∈ L then leftG L r rule (fT main) else ([],false)) else
 ((bK L rule (fT r)).1,(bK L rule (fT r)).2 && decide (main = []))
end Go.Vc

namespace Go.Vc
structure PmT (t:Str):Prop where
 gt:GT t
 size:(fT t).size ≤ 40
 len:t.length ≤ 200
theorem PmT.code {t:Str} (h:PmT t):pCode t = 0:=by
 obtain ⟨g,p,b⟩:=h.gt.at
 have hl:=h.len
 have hs:=h.size
 have e:rd t = (fT t,([],false)):=by
  have:=CM g
  rw [b] at this;exact this
 unfold pCode
 rw [if_neg (by omega),if_pos (by unfold rdOk;rw [e];rfl)]
 rw [show (rd t).1 = fT t from rfl,if_neg (by omega)]
theorem PmT.good {t:Str} (h:PmT t):goodT t = true:=by
 unfold goodT
 rw [decide_eq_true h.code,decide_eq_true (show (rd t).1.body = t from h.gt.at.2.2)];rfl
/-! ### Proofs -/
structure Inf where
 rule:Nat
 prem:List Nat
 left:List Str
 right:Str
 main:Str
instance:Inhabited Inf:=⟨⟨0,[],[],[],[]⟩⟩
theorem B1 {P Q:List Inf} {k:Nat} (hk:k < P.length):gt (P ++ Q) k = gt P k:=by
 rw [gt_eq (by rw [List.length_append];omega),gt_eq hk,List.getElem_append_left hk]
end Go.Vc

namespace Go.Vc
theorem TT {α:Type} [Inhabited α] {A B:List α} (hl:A.length = B.length) (h:∀ j,j < A.length → gt A j = gt B j):A = B:=List.ext_getElem hl fun j g1 g2=>by
 rw [← gt_eq g1,← gt_eq g2];exact h j g1
def cH (R:List (Value × Sq)):List Value:=R.flatMap fun x=>[x.1,sv x.2.2]
theorem C9 (A B:List (Value × Sq)):cH (A ++ B) = cH A ++ cH B:=by simp [cH]
theorem dA:∀ {R:List (Value × Sq)} {j:Nat},j < R.length → (cH R)[j * 2 + 0]? = some (gt R j).1 ∧ (cH R)[j * 2 + 1]? = some (sv (gt R j).2.2)
 | [],j,h=>absurd h (Nat.not_lt_zero j)
 | x :: R,0,_=>⟨rfl,rfl⟩
 | x :: R,j + 1,h=>by
  have:=dA (R:=R) (j:=j) (by simpa using h)
  rw [show cH (x :: R) = [x.1,sv x.2.2] ++ cH R by simp [cH],show (j + 1) * 2 + 0 = j * 2 + 0 + 2 by omega,show (j + 1) * 2 + 1 = j * 2 + 1 + 2 by omega,List.getElem?_append_right (by simp),List.getElem?_append_right (by simp)]
  exact this
end Go.Vc
namespace Go.Proofs.YtkjoppimpmojfaaGreat
open Go.Vc
theorem oJ {v v':Value} {L L':List Str} {w:World} (hs:SlT w v L) (hs':SlT w v' L'):Ret Tryz.prog eR #[v,v'] w (.bool (decide (L = L'))):=by
 have hln:=hs.len
 rw [aI] at hln
 apply jI;unfold eU
 refine aM hs (aM hs' ?_)
 refine iNe (iCndP (fun h=>?_) (fun h=>?_))
 ·exact ⟨by rw [decide_eq_false (fun e:L = L'=>h (by rw [e]))],Ext.refl _⟩
 have hl:L.length = L'.length:=by omega
 refine aM hs ?_
 refine iLp (fun i:Nat=>[.int .i64 (i:Int)]) (fun i w'=>i ≤ L.length ∧ Ext w w' ∧ ∀ j,j < i → gt L j = gt L' j) (fun i=>L.length - i) 0 rfl ⟨Nat.zero_le _,Ext.refl _,fun j hj=>absurd hj (Nat.not_lt_zero _)⟩ ?_
 rintro i w2 Kn ⟨hi,x2,he⟩ hKn
 intro _
 simp only [gx]
 refine iLt (iCndP (fun h2=>?_) (fun h2=>?_))
 ·have hil:i < L.length:=by omega
  refine iIaG (hs.ext x2) rfl hil ?_
  refine iIaG (hs'.ext x2) rfl (by omega) ?_
  refine iNeT ?_
  intro w3 x3
  refine iCndP (fun hne=>?_) (fun heq=>?_)
  ·exact ⟨by rw [decide_eq_false fun e:L = L'=>hne (by rw [e])],x2.trans x3⟩
  ·refine iAdd (by omega) ?_
   refine hKn (i + 1) _ ⟨by omega,x2.trans x3,fun j hj=>?_⟩ (by omega)
   by_cases e:j = i
   ·subst e;exact Classical.not_not.1 heq
   ·exact he j (by omega)
 ·rw [decide_eq_true (TT hl fun j hj=>he j (by omega))]
  exact ⟨by first | trivial | rfl,x2⟩
end Go.Proofs.YtkjoppimpmojfaaGreat

namespace Go.Vc
structure IV where
 i:Inf
 vp:Value
 vl:Value
def IV.cs (x:IV):List Value:=[.int .i64 (x.i.rule:Int),x.vp,x.vl,sv x.i.right,sv x.i.main]
def cA (R:List IV):List Value:=R.flatMap IV.cs
theorem SN (A B:List IV):cA (A ++ B) = cA A ++ cA B:=by simp [cA]
instance:Inhabited IV:=⟨⟨default,.slice none 0 0,.slice none 0 0⟩⟩
theorem dL:∀ {R:List IV} {j:Nat},j < R.length → ∀ k,k < 5 → (cA R)[j * 5 + k]? = (gt R j).cs[k]?
 | [],j,h,_,_=>absurd h (Nat.not_lt_zero j)
 | x :: R,0,_,k,hk=>by
  rw [show cA (x :: R) = x.cs ++ cA R by simp [cA],Nat.zero_mul,Nat.zero_add,List.getElem?_append_left (by simp [IV.cs];omega)]
  rfl
 | x :: R,j + 1,h,k,hk=>by
  have:=dL (R:=R) (j:=j) (by simpa using h) k hk
  rw [show cA (x :: R) = x.cs ++ cA R by simp [cA],show (j + 1) * 5 + k = j * 5 + k + 5 by omega,List.getElem?_append_right (by simp [IV.cs])]
  rw [show j * 5 + k + 5 - x.cs.length = j * 5 + k by simp [IV.cs]]
  exact this
theorem iBs15 {w:World} {e:TypeId} {a b c d f z0 z1 z2 z3 z4:Value} {K:Value → World → Prop} (h:∀ bb w',bb = w.heap.size ∧ w'.heap.size = bb + 1 → Ext w w' → Blk e w' bb [a,b,c,d,f] → K (.slice (some ⟨bb,0,none⟩) 1 1) w'):
  xBs e (Value.cells (.agg #[z0,z1,z2,z3,z4])) 5 1 [(0,.agg #[a,b,c,d,f])] w K:=by
 refine ⟨#[a,b,c,d,f],?_,h _ _ ⟨rfl,by simp⟩ (Ext.alloc w _) (Blk.new w #[a,b,c,d,f] e)⟩
 simp [Instr.fill,Value.cells,show Array.range 5 = #[0,1,2,3,4] from rfl]
theorem BO {α:Type} [Inhabited α] (P:List α) (x:α):gt (P ++ [x]) P.length = x:=by
 rw [gt_eq (by rw [List.length_append];simp)];simp
theorem d7 {α β:Type} [Inhabited α] [Inhabited β] {f:α → β} {L:List α} {k:Nat} (h:k < L.length):gt (L.map f) k = f (gt L k):=by
 rw [gt_eq (by rw [List.length_map];exact h),gt_eq h,List.getElem_map]
theorem M8 {k n i:Nat} {ki:IntKind} {w:World} {v:Value} {xs:List Value} {K:Value → Prop} (hs:SlK k w v n xs) (hi:i ≤ n) (h:∀ v',SlK k w v' i (xs.take (i * k)) → K v'):xSl k v none (some (.int ki (i:Int))) K:=by
 obtain ⟨h0,a,c,rfl,h2,h3,h4⟩:=hs
 have hle:i * k ≤ n * k:=Nat.mul_le_mul_right _ hi
 refine ⟨_,_,_,0,i,rfl,⟨ki,rfl⟩,rfl,Nat.zero_le _,by omega,?_⟩
 refine h _ ⟨by rw [List.length_take];omega,_,_,by rw [Nat.sub_zero],by omega,by omega,?_⟩
 rcases Nat.eq_zero_or_pos i with hz | hz
 ·exact .inl hz
 ·rcases h4 with h4 | ⟨b,o,rfl,hc⟩
  ·omega
  ·refine .inr ⟨b,o,?_,fun j hj=>?_⟩
   ·rw [if_neg (by omega),Option.map_some]
    simp [Addr.add]
   ·rw [hc j (by omega),List.getElem?_take,if_pos hj]
theorem QU (L:List IV) (k:Nat):(cA L).take (k * 5) = cA (L.take k):=by
 induction L generalizing k with
 | nil=>simp [cA]
 | cons x L ih=>
  cases k with
  | zero=>simp [cA]
  | succ k=>
   show ((x.cs ++ cA L)).take ((k + 1) * 5) = x.cs ++ cA (L.take k)
   rw [List.take_append,List.take_of_length_le (by simp [IV.cs];omega),show (k + 1) * 5 - x.cs.length = k * 5 by simp [IV.cs];omega,ih]
theorem iNew5 {w:World} {e:TypeId} {a b c d f:Value} {K:Value → World → Prop} (h:∀ q w',q = w.heap.size ∧ w'.heap.size = q + 1 → Ext w w' → Blk e w' q [a,b,c,d,f] → K (.pointer (some ⟨q,0,none⟩)) w'):xNew (Value.cells (.agg #[a,b,c,d,f])) e w K:=
 iNew fun q w' h1 h2 h3=>h q w' h1 h2 (by simpa [Value.cells] using h3)
structure PrW (t1 t2:TypeId) (w:World) (v:Value) (R:List IV):Prop where
 row:SlK 5 w v R.length (cA R)
 prem:∀ x ∈ R,Ow 0 t1 w x.vp (ints (nats x.i.prem))
 left:∀ x ∈ R,Ow 0 t2 w x.vl (strs x.i.left)
theorem PrW.ext {t1 t2:TypeId} {w w':World} {v:Value} {R:List IV} (h:PrW t1 t2 w v R) (x:Ext w w'):PrW t1 t2 w' v R:=⟨SlK.ext h.row x,fun y hy=>(h.prem y hy).ext x,fun y hy=>(h.left y hy).ext x⟩
theorem GX {k lo n b:Nat} {e e':TypeId} {w:World} {v:Value} {xs cs:List Value} (h:OwK k lo e w v n xs) (hB:Blk e' w b cs) (hne:e ≠ e'):¬ v.ownBlock = some b:=fun hc=>by
 obtain ⟨_,h0 | ⟨g,cap,cur,hv,hg,hh,_⟩⟩:=h
 ·rw [h0.1] at hc;cases hc
 ·rw [hv] at hc
  cases hc
  unfold Blk at hB
  rw [hh] at hB
  exact hne (by cases hB;rfl)
theorem ne_ty {w:World} {e e':TypeId} {c:Nat} (h:∃ cur,w.heap[c]? = some (.cells cur e (0,0))) (h':∃ cur,w.heap[c]? = some (.cells cur e' (0,0))):e = e':=by
 obtain ⟨_,h⟩:=h
 obtain ⟨_,h'⟩:=h'
 rw [h] at h';cases h';rfl
end Go.Vc
namespace Go.Proofs.YtkjoppimpmojfaaGreat
open Go.Vc
theorem iAt5 {w:World} {v:Value} {n:Nat} {R:List IV} {j:Nat} {k:IntKind} {K:Value → Prop} (hs:SlK 5 w v n (cA R)) (hn:n = R.length) (hj:j < R.length) (h:K (.agg (gt R j).cs.toArray)):xIa 5 v (.int k (j:Int)) fun p=>xLdA w 5 p K:=by
 subst hn
 refine iLdK (cs:=(gt R j).cs.toArray) hs rfl hj rfl (fun i hi=>?_) h
 rw [dL hj i hi]
 simp
end Go.Proofs.YtkjoppimpmojfaaGreat







namespace Go.Vc
def Fm.ks:Fm → List (Nat × Nat)
 | .var v=>[(0,v)]
 | .fls=>[(1,0)]
 | .and a b=>(2,0) :: (a.ks ++ b.ks)
 | .or a b=>(3,0) :: (a.ks ++ b.ks)
 | .imp a b=>(4,0) :: (a.ks ++ b.ks)
 | .box a=>(5,0) :: a.ks
 | .dia a=>(6,0) :: a.ks
def nds (l:List (Nat × Nat)):List Value:=l.flatMap fun p=>nd p.1 p.2
theorem q9 (p:Nat × Nat) (l:List (Nat × Nat)):nds (p :: l) = nd p.1 p.2 ++ nds l:=by simp [nds]
theorem NX (l m:List (Nat × Nat)):nds (l ++ m) = nds l ++ nds m:=by simp [nds]
theorem Fm.cells_ks:∀ f:Fm,f.cells = nds f.ks
 | .var v=>rfl
 | .fls=>rfl
 | .and a b=>by rw [Fm.ks,q9,NX,← a.cells_ks,← b.cells_ks];simp [Fm.cells]
 | .or a b=>by rw [Fm.ks,q9,NX,← a.cells_ks,← b.cells_ks];simp [Fm.cells]
 | .imp a b=>by rw [Fm.ks,q9,NX,← a.cells_ks,← b.cells_ks];simp [Fm.cells]
 | .box a=>by rw [Fm.ks,q9,← a.cells_ks];simp [Fm.cells]
 | .dia a=>by rw [Fm.ks,q9,← a.cells_ks];simp [Fm.cells]
theorem Fm.ks_len:∀ f:Fm,f.ks.length = f.size
 | .var _=>rfl
 | .fls=>rfl
 | .and a b=>by simp only [Fm.ks,Fm.size,List.length_cons,List.length_append,a.ks_len,b.ks_len];omega
 | .or a b=>by simp only [Fm.ks,Fm.size,List.length_cons,List.length_append,a.ks_len,b.ks_len];omega
 | .imp a b=>by simp only [Fm.ks,Fm.size,List.length_cons,List.length_append,a.ks_len,b.ks_len];omega
 | .box a=>by simp only [Fm.ks,Fm.size,List.length_cons,a.ks_len];omega
 | .dia a=>by simp only [Fm.ks,Fm.size,List.length_cons,a.ks_len];omega
theorem PY:∀ {l:List (Nat × Nat)} {i:Nat} (h:i < l.length),(nds l)[i * 2 + 0]? = some (.int .i64 (l[i].1:Int)) ∧ (nds l)[i * 2 + 1]? = some (.int .i64 (l[i].2:Int))
 | [],_,h=>by simp at h
 | p :: l,0,_=>⟨rfl,rfl⟩
 | p :: l,i + 1,h=>by
  have:=PY (l:=l) (i:=i) (by simpa using h)
  have e:∀ f,(nds (p :: l))[(i + 1) * 2 + f]? = (nds l)[i * 2 + f]?:=fun f=>by
   rw [q9,List.getElem?_append_right (by simp [nd];omega)]
   congr 1
   simp [nd];omega
  rw [e,e]
  simpa using this
def modal (p:Nat × Nat):Bool:=decide (p.1 = 5) || decide (p.1 = 6)
theorem Fm.plain_ks:∀ f:Fm,f.ks.any modal = !f.plain
 | .var _=>rfl
 | .fls=>rfl
 | .and a b=>by simp only [Fm.ks,List.any_cons,List.any_append,a.plain_ks,b.plain_ks,Fm.plain];simp [modal]
 | .or a b=>by simp only [Fm.ks,List.any_cons,List.any_append,a.plain_ks,b.plain_ks,Fm.plain];simp [modal]
 | .imp a b=>by simp only [Fm.ks,List.any_cons,List.any_append,a.plain_ks,b.plain_ks,Fm.plain];simp [modal]
 | .box a=>by simp only [Fm.ks,List.any_cons,Fm.plain];simp [modal]
 | .dia a=>by simp only [Fm.ks,List.any_cons,Fm.plain];simp [modal]
theorem R1 {α:Type} {l:List α} {p:α → Bool} {i:Nat} (hi:i < l.length) (h:p l[i] = true):l.any p = true:=List.any_eq_true.2 ⟨l[i],List.getElem_mem _,h⟩
theorem RX {α:Type} {l:List α} {p:α → Bool} (h:∀ i (hi:i < l.length),p l[i] = false):l.any p = false:=by
 rw [List.any_eq_false]
 intro x hx
 obtain ⟨i,hi,rfl⟩:=List.getElem_of_mem hx
 rw [h i hi];exact Bool.false_ne_true
end Go.Vc
namespace Go.Proofs.YtkjoppimpmojfaaGreat
open Go.Vc
theorem LX (k:Nat) (w:World):Ret Tryz.prog CN #[.int .i64 (k:Int)] w (.bool (decide (k = 5) || decide (k = 6))):=by
 apply MS;unfold CU
 refine iJnB (decide (k = 5) || decide (k = 6)) w (fun J hJ=>?_) (fun w2 x2=>fun _=>⟨by first | trivial | rfl,x2⟩)
 refine iEq (iCndP (fun h=>?_) (fun h=>?_))
 ·rw [decide_eq_true (show k = 5 by omega),Bool.true_or] at hJ
  exact hJ _ (Ext.refl _)
 ·rw [decide_eq_false (show ¬ k = 5 by omega),Bool.false_or] at hJ
  refine iEq ?_
  rw [show decide ((k:Int) = 6) = decide (k = 6) from decide_eq_decide.2 (by omega)]
  exact hJ _ (Ext.refl _)
theorem yK {v:Value} {f:Fm} {w:World} (hs:FmS w v f):Ret Tryz.prog BJ #[v] w (.bool f.plain):=by
 apply M4;unfold C1
 have hln:=hs.len
 have hkl:=f.ks_len
 refine iRet (v:=.bool (f.ks.any modal)) ?_ fun w1 x1=>iNot ⟨by rw [f.plain_ks,Bool.not_not],x1⟩
 apply j8;unfold dZ
 refine iCall (Cal.mono (R:=fun r w'=>Ext w w' ∧ ∃ z:Int,r = .int .i64 z ∧ (decide (0 ≤ z) = f.ks.any modal)) ?_ ?_)
 ·apply kV;unfold eO
  refine iLenK hs ?_
  refine iLp (fun i:Nat=>[.int .i64 (i:Int)]) (fun i w'=>i ≤ f.size ∧ Ext w w' ∧ ∀ j (hj:j < f.ks.length),j < i → modal f.ks[j] = false) (fun i=>f.size - i) 0 rfl ⟨Nat.zero_le _,Ext.refl _,fun j hj h=>by omega⟩ ?_
  rintro i w2 Kn ⟨hi,h2,hno⟩ hKn
  intro _
  simp only [gx]
  refine iLt ?_
  refine iCndP (fun h=>?_) (fun h=>?_)
  ·have hil:i < f.ks.length:=by omega
   have hat:=PY hil
   rw [← f.cells_ks] at hat
   refine iLdK (cs:=#[.int .i64 (f.ks[i].1:Int),.int .i64 (f.ks[i].2:Int)]) (hs.ext h2) rfl (by omega) rfl (fun j hj=>?_) ?_
   ·rcases j with _ | _ | j
    ·exact hat.1
    ·exact hat.2
    ·omega
   refine iRet (v:=.bool (modal f.ks[i])) ?_ fun w3 x3=>?_
   ·apply JN;unfold vQ
    refine iNew2 fun q w3 hq x3 hB=>?_
    refine iFa (iLdB hB rfl ?_)
    refine iRet (LX _ _) fun w4 x4=>⟨rfl,x3.trans x4⟩
   ·refine iCnd (fun h3=>?_) (fun h3=>?_)
    ·exact ⟨h2.trans x3,_,rfl,by rw [R1 hil h3];simp⟩
    ·refine iAdd (by omega) ?_
     refine hKn (i + 1) _ ⟨by omega,h2.trans x3,fun j hj hji=>?_⟩ (by omega)
     by_cases e:j = i
     ·subst e;exact h3
     ·exact hno j hj (by omega)
  ·exact ⟨h2,-1,rfl,by rw [RX fun j hj=>hno j hj (by omega)];rfl⟩
 ·rintro r w1 ⟨h1,z,rfl,hz⟩
  refine iLe ?_
  rw [hz]
  exact ⟨by first | trivial | rfl,h1⟩
theorem vO {v:Value} {f:Fm} {w:World} (hs:FmS w v f):Ret Tryz.prog zL #[v] w (.bool f.plain):=by
 apply L9;unfold y0
 have hln:=hs.len
 have hkl:=f.ks_len
 refine iLp (fun i:Nat=>[.int .i64 (i:Int)]) (fun i w'=>i ≤ f.size ∧ Ext w w' ∧ ∀ j (hj:j < f.ks.length),j < i → modal f.ks[j] = false) (fun i=>f.size - i) 0 rfl ⟨Nat.zero_le _,Ext.refl _,fun j hj h=>by omega⟩ ?_
 rintro i w2 Kn ⟨hi,h2,hno⟩ hKn
 intro _
 simp only [gx]
 refine iLenK (hs.ext h2) ?_
 refine iLt ?_
 refine iCndP (fun h=>?_) (fun h=>?_)
 ·have hil:i < f.ks.length:=by omega
  have hat:=PY hil
  rw [← f.cells_ks] at hat
  refine iJnB (modal f.ks[i]) w2 (fun J hJ=>?_) (fun w4 x4=>?_)
  ·refine iFld (j:=i) (hs.ext h2) rfl (by omega) (by decide) hat.1 ?_
   unfold modal at hJ
   refine iEq (iCndP (fun h5=>?_) (fun h5=>?_))
   ·rw [decide_eq_true (show f.ks[i].1 = 5 by omega),Bool.true_or] at hJ
    exact hJ _ (Ext.refl _)
   ·rw [decide_eq_false (show ¬ f.ks[i].1 = 5 by omega),Bool.false_or] at hJ
    refine iFld (j:=i) (hs.ext h2) rfl (by omega) (by decide) hat.1 ?_
    refine iEq ?_
    rw [show decide ((f.ks[i].1:Int) = 6) = decide (f.ks[i].1 = 6) from decide_eq_decide.2 (by omega)]
    exact hJ _ (Ext.refl _)
  ·intro _
   simp only [gx]
   refine iCnd (fun h3=>?_) (fun h3=>?_)
   ·have hp:=f.plain_ks
    rw [R1 hil h3] at hp
    exact ⟨by rw [show f.plain = false by simpa using hp.symm],h2.trans x4⟩
   ·refine iAdd (by omega) ?_
    refine hKn (i + 1) _ ⟨by omega,h2.trans x4,fun j hj hji=>?_⟩ (by omega)
    by_cases e:j = i
    ·subst e;exact h3
    ·exact hno j hj (by omega)
 ·have hp:=f.plain_ks
  rw [RX fun j hj=>hno j hj (by omega)] at hp
  exact ⟨by rw [show f.plain = true by simpa using hp.symm],h2⟩
end Go.Proofs.YtkjoppimpmojfaaGreat

namespace Go.Vc
structure Ded where
 rule:Int
 prem:List Int
 asm:List Str
 con:Str
 num:Int
instance:Inhabited Ded:=⟨⟨0,[],[],[],0⟩⟩
def plT (t:Str):Bool:=goodT t && (fT t).plain
theorem dY {t:Str} (h:plT t = true):goodT t = true ∧ (fT t).good ∧ (fT t).plain = true ∧ (fT t).body = t ∧ pCode t = 0:=by
 unfold plT at h
 rw [Bool.and_eq_true] at h
 have hg:=h.1
 obtain ⟨⟨a,ha,rfl⟩,-⟩:=SD hg
 unfold goodT at hg
 rw [Bool.and_eq_true,decide_eq_true_eq] at hg
 have e:=gL ha
 exact ⟨h.1,by rw [e];exact ha,h.2,by rw [e],hg.1⟩
def jdg (s:Ded):Sq:=(s.asm,s.con)
def parK (t:Str) (k:Nat):Option (Str × Str):=match fT t with
 | .and x y=>if k = 2 then some (x.body,y.body) else none
 | .or x y=>if k = 3 then some (x.body,y.body) else none
 | .imp x y=>if k = 4 then some (x.body,y.body) else none
 | _=>none
theorem mA {t:Str} {k:Nat} {p:Str × Str} (h:parK t k = some p):(fT t).kind = k ∧ ∃ x y,(fT t).kids = [x,y] ∧ p = (x.body,y.body):=by
 unfold parK at h
 cases e:fT t with
 | and x y=>rw [e] at h;simp only [Option.ite_none_right_eq_some,Option.some.injEq] at h;exact ⟨h.1.symm,x,y,rfl,h.2.symm⟩
 | or x y=>rw [e] at h;simp only [Option.ite_none_right_eq_some,Option.some.injEq] at h;exact ⟨h.1.symm,x,y,rfl,h.2.symm⟩
 | imp x y=>rw [e] at h;simp only [Option.ite_none_right_eq_some,Option.some.injEq] at h;exact ⟨h.1.symm,x,y,rfl,h.2.symm⟩
 | _=>rw [e] at h;cases h
def ruleB (s:Ded) (G:List Sq):Bool:=
 if s.rule = 1 then decide (G = []) && (decide (0 ≤ s.num ∧ s.num ≤ (s.asm.length:Int) - 1) && decide (gt s.asm s.num.toNat = s.con))
 else if s.rule = 2 then decide (G = [(s.asm,Fm.fls.body)])
 else if s.rule = 3 then (match parK s.con 2 with | some p=>decide (G = [(s.asm,p.1),(s.asm,p.2)]) | none=>false)
 else if s.rule = 4 then (match G with | [g]=>decide (g.1 = s.asm) && (match parK g.2 2 with | some p=>decide (p.1 = s.con) | none=>false) | _=>false)
 else if s.rule = 5 then (match G with | [g]=>decide (g.1 = s.asm) && (match parK g.2 2 with | some p=>decide (p.2 = s.con) | none=>false) | _=>false)
 else if s.rule = 6 then (match parK s.con 3 with | some p=>decide (G = [(s.asm,p.1)]) | none=>false)
 else if s.rule = 7 then (match parK s.con 3 with | some p=>decide (G = [(s.asm,p.2)]) | none=>false)
 else if s.rule = 8 then (match G with | g :: r=>decide (g.1 = s.asm) && (match parK g.2 3 with | some p=>decide (r = [(s.asm ++ [p.1],s.con),(s.asm ++ [p.2],s.con)]) | none=>false) | []=>false)
 else if s.rule = 9 then (match parK s.con 4 with | some p=>decide (G = [(s.asm ++ [p.1],p.2)]) | none=>false)
 else if s.rule = 10 then (match G with | g :: r=>decide (g.1 = s.asm) && (match parK g.2 4 with | some p=>decide (p.2 = s.con) && decide (r = [(s.asm,p.1)]) | none=>false) | []=>false)
 else false
def nY (s:Ded):Bool:=(decide (s.asm.length ≤ 12) && s.asm.all plT) && (plT s.con && (decide (s.rule = 1) || decide (s.num = 0)))
def inD (k:Nat) (s:Ded):Bool:=s.prem.all fun q=>decide (0 ≤ q ∧ q ≤ (k:Int) - 1)
def sU (P:List Ded) (s:Ded):List Sq:=s.prem.map fun q=>jdg (gt P q.toNat)
def goodD (P:List Ded) (k:Nat):Bool:=nY (gt P k) && (inD k (gt P k) && ruleB (gt P k) (sU P (gt P k)))
def dH (P:List Ded):Bool:=(List.range P.length).all fun k=>goodD P k
def codeD (P:List Ded):Int:=if 1 ≤ P.length ∧ P.length ≤ 120 then (if dH P then 0 else 5) else 3
def makeD (N:Nat) (s:Ded) (at_:List Nat) (a:Str):List Inf:=
 let L:=setT s.asm
 let c:=s.con
 let W:=addT L a
 if s.rule = 1 then [⟨1,[],L,c,[]⟩]
 else if s.rule = 2 then [⟨2,[],addT L Fm.fls.body,c,[]⟩,⟨11,[gt at_ 0,N],L,c,Fm.fls.body⟩]
 else if s.rule = 3 then [⟨4,at_,L,c,[]⟩]
 else if s.rule = 4 ∨ s.rule = 5 then (match parK a 2 with | some p=>[⟨1,[],setT (W ++ [p.1,p.2]),c,[]⟩,⟨3,[N],W,c,a⟩,⟨11,[gt at_ 0,N + 1],L,c,a⟩] | none=>[])
 else if s.rule = 6 then [⟨6,at_,L,c,[]⟩]
 else if s.rule = 7 then [⟨7,at_,L,c,[]⟩]
 else if s.rule = 8 then (match parK a 3 with | some p=>[⟨10,[gt at_ 1],addT W p.1,c,[]⟩,⟨10,[gt at_ 2],addT W p.2,c,[]⟩,⟨5,[N,N + 1],W,c,a⟩,⟨11,[gt at_ 0,N + 2],L,c,a⟩] | none=>[])
 else if s.rule = 9 then [⟨9,at_,L,c,[]⟩]
 else (match parK a 4 with | some p=>[⟨10,[gt at_ 1],W,p.1,[]⟩,⟨1,[],addT W p.2,c,[]⟩,⟨8,[N,N + 1],W,c,a⟩,⟨11,[gt at_ 0,N + 2],L,c,a⟩] | none=>[])
def seqD (P:List Ded):Nat → List Inf × List Nat
 | 0=>([],[])
 | k + 1=>
  let q:=seqD P k
  let s:=gt P k
  let m:=makeD q.1.length s (s.prem.map fun j=>gt q.2 j.toNat) (gt P (gt s.prem 0).toNat).con
  (q.1 ++ m,q.2 ++ [q.1.length + m.length - 1])
def limD (Q:List Inf):Bool:=decide (Q.length ≤ 60) && Q.all fun x=>decide (x.left.length ≤ 12)
end Go.Vc

namespace Go.Vc
def cV (r:Int):Int:=if r = 1 then 0 else if r = 2 ∨ r = 4 ∨ r = 5 ∨ r = 6 ∨ r = 7 ∨ r = 9 then 1 else if r = 3 ∨ r = 10 then 2 else if r = 8 then 3 else -1
theorem RE {α:Type} {L:List α} (h:L.length = 2):∃ a b,L = [a,b]:=match L,h with | [a,b],_=>⟨a,b,rfl⟩
theorem TZ {α:Type} {L:List α} (h:L.length = 3):∃ a b c,L = [a,b,c]:=match L,h with | [a,b,c],_=>⟨a,b,c,rfl⟩
def ruleS (s:Ded) (G:List Sq):Bool:=
 if s.rule = 1 then decide (0 ≤ s.num ∧ s.num ≤ (s.asm.length:Int) - 1) && decide (gt s.asm s.num.toNat = s.con)
 else if s.rule = 2 then decide ((gt G 0).1 = s.asm) && decide ((gt G 0).2 = Fm.fls.body)
 else if s.rule = 3 then (match parK s.con 2 with | some p=>decide ((gt G 0).1 = s.asm) && (decide ((gt G 1).1 = s.asm) && (decide ((gt G 0).2 = p.1) && decide ((gt G 1).2 = p.2))) | none=>false)
 else if s.rule = 4 then (match parK (gt G 0).2 2 with | some p=>decide ((gt G 0).1 = s.asm) && decide (s.con = p.1) | none=>false)
 else if s.rule = 5 then (match parK (gt G 0).2 2 with | some p=>decide ((gt G 0).1 = s.asm) && decide (s.con = p.2) | none=>false)
 else if s.rule = 6 then (match parK s.con 3 with | some p=>decide ((gt G 0).1 = s.asm) && decide ((gt G 0).2 = p.1) | none=>false)
 else if s.rule = 7 then (match parK s.con 3 with | some p=>decide ((gt G 0).1 = s.asm) && decide ((gt G 0).2 = p.2) | none=>false)
 else if s.rule = 8 then (match parK (gt G 0).2 3 with | some p=>decide ((gt G 0).1 = s.asm) && (decide ((gt G 1).1 = s.asm ++ [p.1]) && (decide ((gt G 2).1 = s.asm ++ [p.2]) && (decide ((gt G 1).2 = s.con) && decide ((gt G 2).2 = s.con)))) | none=>false)
 else if s.rule = 9 then (match parK s.con 4 with | some p=>decide ((gt G 0).1 = s.asm ++ [p.1]) && decide ((gt G 0).2 = p.2) | none=>false)
 else (match parK (gt G 0).2 4 with | some p=>decide ((gt G 0).1 = s.asm) && (decide ((gt G 1).1 = s.asm) && (decide ((gt G 1).2 = p.1) && decide (s.con = p.2))) | none=>false)
theorem U8 {s:Ded} {G:List Sq} (h:cV s.rule = (G.length:Int)):ruleS s G = ruleB s G:=by
 unfold cV at h
 unfold ruleS ruleB
 by_cases h1:s.rule = 1
 ·rw [if_pos h1] at h
  rw [if_pos h1,if_pos h1,decide_eq_true (List.length_eq_zero_iff.1 (show G.length = 0 by omega)),Bool.true_and]
 rw [if_neg h1] at h
 rw [if_neg h1,if_neg h1]
 have one:s.rule = 2 ∨ s.rule = 4 ∨ s.rule = 5 ∨ s.rule = 6 ∨ s.rule = 7 ∨ s.rule = 9 → ∃ g,G = [g]:=fun hr=>by
  rw [if_pos hr] at h
  exact List.length_eq_one_iff.1 (by omega)
 have eq1:∀ (g:Sq) (A:List Str) (t:Str),(decide (g.1 = A) && decide (g.2 = t)) = decide ([g] = [(A,t)]):=fun g A t=>by
  rw [Bool.eq_iff_iff,Bool.and_eq_true,decide_eq_true_eq,decide_eq_true_eq,decide_eq_true_eq]
  exact ⟨fun ⟨a,b⟩=>by rw [← a,← b],fun e=>by simp only [List.cons.injEq,and_true] at e;rw [e];exact ⟨rfl,rfl⟩⟩
 have two:∀ (g g':Sq) (A B:List Str) (t u:Str),decide ([g,g'] = [(A,t),(B,u)]) = (decide (g.1 = A) && (decide (g'.1 = B) && (decide (g.2 = t) && decide (g'.2 = u)))):=fun g g' A B t u=>by
  rw [Bool.eq_iff_iff]
  simp only [Bool.and_eq_true,decide_eq_true_eq]
  exact ⟨fun e=>by simp only [List.cons.injEq,and_true] at e;rw [e.1,e.2];exact ⟨rfl,rfl,rfl,rfl⟩,fun ⟨a,b,c,d⟩=>by rw [← a,← b,← c,← d]⟩
 have sym:∀ a b:Str,decide (a = b) = decide (b = a):=fun a b=>decide_eq_decide.2 eq_comm
 by_cases h2:s.rule = 2
 ·rw [if_pos h2,if_pos h2]
  obtain ⟨g,rfl⟩:=one (.inl h2)
  exact eq1 g _ _
 rw [if_neg h2,if_neg h2]
 by_cases h3:s.rule = 3
 ·rw [if_pos h3,if_pos h3]
  rw [if_neg (by omega),if_pos (.inl h3)] at h
  obtain ⟨g,g',rfl⟩:=RE (show G.length = 2 by omega)
  cases parK s.con 2 with
  | none=>rfl
  | some p=>exact (two g g' _ _ _ _).symm
 rw [if_neg h3,if_neg h3]
 by_cases h4:s.rule = 4
 ·rw [if_pos h4,if_pos h4]
  obtain ⟨g,rfl⟩:=one (.inr (.inl h4))
  show (match parK g.2 2 with | some p=>decide (g.1 = s.asm) && decide (s.con = p.1) | none=>false) = (decide (g.1 = s.asm) && _)
  cases parK g.2 2 with
  | none=>simp
  | some p=>show (_ && _) = (_ && _);rw [sym]
 rw [if_neg h4,if_neg h4]
 by_cases h5:s.rule = 5
 ·rw [if_pos h5,if_pos h5]
  obtain ⟨g,rfl⟩:=one (.inr (.inr (.inl h5)))
  show (match parK g.2 2 with | some p=>decide (g.1 = s.asm) && decide (s.con = p.2) | none=>false) = (decide (g.1 = s.asm) && _)
  cases parK g.2 2 with
  | none=>simp
  | some p=>show (_ && _) = (_ && _);rw [sym]
 rw [if_neg h5,if_neg h5]
 by_cases h6:s.rule = 6
 ·rw [if_pos h6,if_pos h6]
  obtain ⟨g,rfl⟩:=one (by omega)
  cases parK s.con 3 with
  | none=>rfl
  | some p=>exact eq1 g _ _
 rw [if_neg h6,if_neg h6]
 by_cases h7:s.rule = 7
 ·rw [if_pos h7,if_pos h7]
  obtain ⟨g,rfl⟩:=one (by omega)
  cases parK s.con 3 with
  | none=>rfl
  | some p=>exact eq1 g _ _
 rw [if_neg h7,if_neg h7]
 by_cases h8:s.rule = 8
 ·rw [if_pos h8,if_pos h8]
  rw [if_neg (by omega),if_neg (by omega),if_pos h8] at h
  obtain ⟨g,g',g'',rfl⟩:=TZ (show G.length = 3 by omega)
  show (match parK g.2 3 with | some p=>decide (g.1 = s.asm) && (decide (g'.1 = s.asm ++ [p.1]) && (decide (g''.1 = s.asm ++ [p.2]) && (decide (g'.2 = s.con) && decide (g''.2 = s.con)))) | none=>false) = (decide (g.1 = s.asm) && _)
  cases parK g.2 3 with
  | none=>simp
  | some p=>show (_ && _) = (_ && decide ([g',g''] = _));rw [two]
 rw [if_neg h8,if_neg h8]
 by_cases h9:s.rule = 9
 ·rw [if_pos h9,if_pos h9]
  obtain ⟨g,rfl⟩:=one (by omega)
  cases parK s.con 4 with
  | none=>rfl
  | some p=>exact eq1 g _ _
 rw [if_neg h9,if_neg h9]
 by_cases h10:s.rule = 10
 ·rw [if_pos h10]
  rw [if_neg (by omega),if_pos (.inr h10)] at h
  obtain ⟨g,g',rfl⟩:=RE (show G.length = 2 by omega)
  show (match parK g.2 4 with | some p=>decide (g.1 = s.asm) && (decide (g'.1 = s.asm) && (decide (g'.2 = p.1) && decide (s.con = p.2))) | none=>false) = (decide (g.1 = s.asm) && _)
  cases parK g.2 4 with
  | none=>simp
  | some p=>
   show (decide (g.1 = s.asm) && (decide (g'.1 = s.asm) && (decide (g'.2 = p.1) && decide (s.con = p.2)))) = (_ && (decide (p.2 = s.con) && decide ([g'] = [(s.asm,p.1)])))
   rw [← eq1,sym s.con,← Bool.and_assoc (decide (g'.1 = s.asm)),Bool.and_comm (_ && _) (decide (p.2 = s.con))]
 ·rw [if_neg (by omega),if_neg (by omega),if_neg h8] at h
  omega
theorem UC {s:Ded} {G:List Sq} (h:¬ cV s.rule = (G.length:Int)):ruleB s G = false:=by
 unfold cV at h
 unfold ruleB
 have ne:∀ {F:List Sq},¬ (G.length:Int) = (F.length:Int) → decide (G = F) = false:=fun hn=>decide_eq_false fun e=>hn (by rw [e])
 by_cases h1:s.rule = 1
 ·rw [if_pos h1] at h
  rw [if_pos h1,ne (F:=[]) fun e=>h (by rw [e];rfl),Bool.false_and]
 rw [if_neg h1] at h
 rw [if_neg h1]
 have one:s.rule = 2 ∨ s.rule = 4 ∨ s.rule = 5 ∨ s.rule = 6 ∨ s.rule = 7 ∨ s.rule = 9 → ¬ (G.length:Int) = 1:=fun hr e=>h (by rw [if_pos hr,e])
 by_cases h2:s.rule = 2
 ·rw [if_pos h2];exact ne (one (.inl h2))
 rw [if_neg h2]
 by_cases h3:s.rule = 3
 ·rw [if_pos h3]
  rw [if_neg (by omega),if_pos (.inl h3)] at h
  split
  ·exact ne fun e=>h e.symm
  ·rfl
 rw [if_neg h3]
 by_cases h4:s.rule = 4
 ·rw [if_pos h4]
  split
  ·exact absurd rfl (one (.inr (.inl h4)))
  ·rfl
 rw [if_neg h4]
 by_cases h5:s.rule = 5
 ·rw [if_pos h5]
  split
  ·exact absurd rfl (one (.inr (.inr (.inl h5))))
  ·rfl
 rw [if_neg h5]
 by_cases h6:s.rule = 6
 ·rw [if_pos h6]
  split
  ·exact ne (one (by omega))
  ·rfl
 rw [if_neg h6]
 by_cases h7:s.rule = 7
 ·rw [if_pos h7]
  split
  ·exact ne (one (by omega))
  ·rfl
 rw [if_neg h7]
 by_cases h8:s.rule = 8
 ·rw [if_pos h8]
  rw [if_neg (by omega),if_neg (by omega),if_pos h8] at h
  split
  ·rename_i g r
   rw [List.length_cons] at h
   split
   ·rename_i p _
    rw [decide_eq_false (p:=r = [(s.asm ++ [p.1],s.con),(s.asm ++ [p.2],s.con)]) (fun e=>h (by rw [e];rfl)),Bool.and_false]
   ·exact Bool.and_false _
  ·rfl
 rw [if_neg h8]
 by_cases h9:s.rule = 9
 ·rw [if_pos h9]
  split
  ·exact ne (one (by omega))
  ·rfl
 rw [if_neg h9]
 by_cases h10:s.rule = 10
 ·rw [if_pos h10]
  rw [if_neg (by omega),if_pos (.inr h10)] at h
  split
  ·rename_i g r
   rw [List.length_cons] at h
   split
   ·rename_i p _
    rw [decide_eq_false (p:=r = [(s.asm,p.1)]) (fun e=>h (by rw [e];rfl)),Bool.and_false,Bool.and_false]
   ·exact Bool.and_false _
  ·rfl
 ·rw [if_neg h10]
end Go.Vc

namespace Go.Vc
structure DV where
 d:Ded
 vp:Value
 vl:Value
instance:Inhabited DV:=⟨⟨default,.slice none 0 0,.slice none 0 0⟩⟩
def DV.cs (x:DV):List Value:=[.int .i64 x.d.rule,x.vp,x.vl,sv x.d.con,.int .i64 x.d.num]
def aO (R:List DV):List Value:=R.flatMap DV.cs
theorem JS (R:List DV):(aO R).length = R.length * 5:=by
 induction R with
 | nil=>rfl
 | cons x R ih=>rw [aO,List.flatMap_cons,List.length_append,← aO,ih,List.length_cons];simp [DV.cs];omega
theorem uY (A B:List DV):aO (A ++ B) = aO A ++ aO B:=by simp [aO]
theorem iQ:∀ {R:List DV} {j:Nat},j < R.length → ∀ k,k < 5 → (aO R)[j * 5 + k]? = (gt R j).cs[k]?
 | [],j,h,_,_=>absurd h (Nat.not_lt_zero j)
 | x :: R,0,_,k,hk=>by
  rw [show aO (x :: R) = x.cs ++ aO R by simp [aO],Nat.zero_mul,Nat.zero_add,List.getElem?_append_left (by simp [DV.cs];omega)]
  rfl
 | x :: R,j + 1,h,k,hk=>by
  have:=iQ (R:=R) (j:=j) (by simpa using h) k hk
  rw [show aO (x :: R) = x.cs ++ aO R by simp [aO],show (j + 1) * 5 + k = j * 5 + k + 5 by omega,List.getElem?_append_right (by simp [DV.cs])]
  rw [show j * 5 + k + 5 - x.cs.length = j * 5 + k by simp [DV.cs]]
  exact this
structure RdD (w:World) (v:Value) (R:List DV):Prop where
 row:SlK 5 w v R.length (aO R)
 prem:∀ x ∈ R,SlI w x.vp x.d.prem
 asm:∀ x ∈ R,Sl w x.vl (strs x.d.asm)
theorem RdD.ext {w w':World} {v:Value} {R:List DV} (h:RdD w v R) (x:Ext w w'):RdD w' v R:=⟨SlK.ext h.row x,fun y hy=>(h.prem y hy).ext x,fun y hy=>(h.asm y hy).ext x⟩
structure RdI (w:World) (v:Value) (R:List IV):Prop where
 row:SlK 5 w v R.length (cA R)
 prem:∀ x ∈ R,SlI w x.vp (nats x.i.prem)
 left:∀ x ∈ R,Sl w x.vl (strs x.i.left)
theorem RdI.ext {w w':World} {v:Value} {R:List IV} (h:RdI w v R) (x:Ext w w'):RdI w' v R:=⟨SlK.ext h.row x,fun y hy=>(h.prem y hy).ext x,fun y hy=>(h.left y hy).ext x⟩
end Go.Vc
namespace Go.Proofs.YtkjoppimpmojfaaGreat
open Go.Vc
theorem iAtD {w:World} {v:Value} {n:Nat} {R:List DV} {j:Nat} {k:IntKind} {K:Value → Prop} (hs:SlK 5 w v n (aO R)) (hn:n = R.length) (hj:j < R.length) (h:K (.agg (gt R j).cs.toArray)):xIa 5 v (.int k (j:Int)) fun p=>xLdA w 5 p K:=by
 subst hn
 refine iLdK (cs:=(gt R j).cs.toArray) hs rfl hj rfl (fun i hi=>?_) h
 rw [iQ hj i hi]
 simp
end Go.Proofs.YtkjoppimpmojfaaGreat

namespace Go.Vc
theorem UJ (W:List Str) (a b:Str):addT (addT W a) b = setT (W ++ [a,b]):=BB (gV _) (gV _) fun u=>by
 rw [bB,bB,cP]
 simp [or_assoc]
inductive RF (P:List Ded) (s:Ded):Prop
 | r1:s.rule = 1 → s.prem = [] → 0 ≤ s.num → s.num ≤ (s.asm.length:Int) - 1 → gt s.asm s.num.toNat = s.con → RF P s
 | r2 (q:Int):s.rule = 2 → s.prem = [q] → jdg (gt P q.toNat) = (s.asm,Fm.fls.body) → RF P s
 | r3 (q q':Int) (p:Str × Str):s.rule = 3 → s.prem = [q,q'] → parK s.con 2 = some p → jdg (gt P q.toNat) = (s.asm,p.1) → jdg (gt P q'.toNat) = (s.asm,p.2) → RF P s
 | r4 (q:Int) (p:Str × Str):s.rule = 4 → s.prem = [q] → (gt P q.toNat).asm = s.asm → parK (gt P q.toNat).con 2 = some p → p.1 = s.con → RF P s
 | r5 (q:Int) (p:Str × Str):s.rule = 5 → s.prem = [q] → (gt P q.toNat).asm = s.asm → parK (gt P q.toNat).con 2 = some p → p.2 = s.con → RF P s
 | r6 (q:Int) (p:Str × Str):s.rule = 6 → s.prem = [q] → parK s.con 3 = some p → jdg (gt P q.toNat) = (s.asm,p.1) → RF P s
 | r7 (q:Int) (p:Str × Str):s.rule = 7 → s.prem = [q] → parK s.con 3 = some p → jdg (gt P q.toNat) = (s.asm,p.2) → RF P s
 | r8 (q q' q'':Int) (p:Str × Str):s.rule = 8 → s.prem = [q,q',q''] → (gt P q.toNat).asm = s.asm → parK (gt P q.toNat).con 3 = some p → jdg (gt P q'.toNat) = (s.asm ++ [p.1],s.con) → jdg (gt P q''.toNat) = (s.asm ++ [p.2],s.con) → RF P s
 | r9 (q:Int) (p:Str × Str):s.rule = 9 → s.prem = [q] → parK s.con 4 = some p → jdg (gt P q.toNat) = (s.asm ++ [p.1],p.2) → RF P s
 | r10 (q q':Int) (p:Str × Str):s.rule = 10 → s.prem = [q,q'] → (gt P q.toNat).asm = s.asm → parK (gt P q.toNat).con 4 = some p → p.2 = s.con → jdg (gt P q'.toNat) = (s.asm,p.1) → RF P s
theorem rE {α β:Type} {f:α → β} {L:List α} {b:β} (h:L.map f = [b]):∃ a,L = [a] ∧ f a = b:=by
 match L,h with
 | [a],h=>exact ⟨a,rfl,by simpa using h⟩
theorem Q6 {α β:Type} {f:α → β} {L:List α} {b c:β} (h:L.map f = [b,c]):∃ a a',L = [a,a'] ∧ f a = b ∧ f a' = c:=by
 match L,h with
 | [a,a'],h=>exact ⟨a,a',rfl,by simpa using h⟩
theorem OF {α β:Type} {f:α → β} {L:List α} {b:β} {r:List β} (h:L.map f = b :: r):∃ a l,L = a :: l ∧ f a = b ∧ l.map f = r:=by
 match L,h with
 | a :: l,h=>simp only [List.map_cons,List.cons.injEq] at h;exact ⟨a,l,rfl,h.1,h.2⟩
theorem U0 {P:List Ded} {s:Ded} (h:ruleB s (sU P s) = true):RF P s:=by
 unfold ruleB at h
 by_cases h1:s.rule = 1
 ·rw [if_pos h1,Bool.and_eq_true,Bool.and_eq_true,decide_eq_true_eq,decide_eq_true_eq,decide_eq_true_eq] at h
  exact .r1 h1 (List.map_eq_nil_iff.1 h.1) h.2.1.1 h.2.1.2 h.2.2
 rw [if_neg h1] at h
 by_cases h2:s.rule = 2
 ·rw [if_pos h2,decide_eq_true_eq] at h
  obtain ⟨q,e1,e2⟩:=rE h
  exact .r2 q h2 e1 e2
 rw [if_neg h2] at h
 by_cases h3:s.rule = 3
 ·rw [if_pos h3] at h
  split at h
  ·rename_i p hp
   rw [decide_eq_true_eq] at h
   obtain ⟨q,q',e1,e2,e3⟩:=Q6 h
   exact .r3 q q' p h3 e1 hp e2 e3
  ·cases h
 rw [if_neg h3] at h
 by_cases h4:s.rule = 4
 ·rw [if_pos h4] at h
  split at h
  ·rename_i g hG
   obtain ⟨q,e1,e2⟩:=rE hG
   subst e2
   rw [Bool.and_eq_true,decide_eq_true_eq] at h
   obtain ⟨ha,h⟩:=h
   split at h
   ·rename_i p hp
    rw [decide_eq_true_eq] at h
    exact .r4 q p h4 e1 ha hp h
   ·cases h
  ·cases h
 rw [if_neg h4] at h
 by_cases h5:s.rule = 5
 ·rw [if_pos h5] at h
  split at h
  ·rename_i g hG
   obtain ⟨q,e1,e2⟩:=rE hG
   subst e2
   rw [Bool.and_eq_true,decide_eq_true_eq] at h
   obtain ⟨ha,h⟩:=h
   split at h
   ·rename_i p hp
    rw [decide_eq_true_eq] at h
    exact .r5 q p h5 e1 ha hp h
   ·cases h
  ·cases h
 rw [if_neg h5] at h
 by_cases h6:s.rule = 6
 ·rw [if_pos h6] at h
  split at h
  ·rename_i p hp
   rw [decide_eq_true_eq] at h
   obtain ⟨q,e1,e2⟩:=rE h
   exact .r6 q p h6 e1 hp e2
  ·cases h
 rw [if_neg h6] at h
 by_cases h7:s.rule = 7
 ·rw [if_pos h7] at h
  split at h
  ·rename_i p hp
   rw [decide_eq_true_eq] at h
   obtain ⟨q,e1,e2⟩:=rE h
   exact .r7 q p h7 e1 hp e2
  ·cases h
 rw [if_neg h7] at h
 by_cases h8:s.rule = 8
 ·rw [if_pos h8] at h
  split at h
  ·rename_i g r hG
   obtain ⟨q,l,e1,e2,e3⟩:=OF hG
   subst e2
   rw [Bool.and_eq_true,decide_eq_true_eq] at h
   obtain ⟨ha,h⟩:=h
   split at h
   ·rename_i p hp
    rw [decide_eq_true_eq] at h
    rw [h] at e3
    obtain ⟨q',q'',e4,e5,e6⟩:=Q6 e3
    exact .r8 q q' q'' p h8 (by rw [e1,e4]) ha hp e5 e6
   ·cases h
  ·cases h
 rw [if_neg h8] at h
 by_cases h9:s.rule = 9
 ·rw [if_pos h9] at h
  split at h
  ·rename_i p hp
   rw [decide_eq_true_eq] at h
   obtain ⟨q,e1,e2⟩:=rE h
   exact .r9 q p h9 e1 hp e2
  ·cases h
 rw [if_neg h9] at h
 by_cases h10:s.rule = 10
 ·rw [if_pos h10] at h
  split at h
  ·rename_i g r hG
   obtain ⟨q,l,e1,e2,e3⟩:=OF hG
   subst e2
   rw [Bool.and_eq_true,decide_eq_true_eq] at h
   obtain ⟨ha,h⟩:=h
   split at h
   ·rename_i p hp
    rw [Bool.and_eq_true,decide_eq_true_eq,decide_eq_true_eq] at h
    rw [h.2] at e3
    obtain ⟨q',e4,e5⟩:=rE e3
    exact .r10 q q' p h10 (by rw [e1,e4]) ha hp h.1 e5
   ·cases h
  ·cases h
 ·rw [if_neg h10] at h;cases h
theorem eP {P:List Ded} {k:Nat} (h:goodD P k = true):nY (gt P k) = true ∧ inD k (gt P k) = true ∧ RF P (gt P k):=by
 unfold goodD at h
 rw [Bool.and_eq_true,Bool.and_eq_true] at h
 exact ⟨h.1,h.2.1,U0 h.2.2⟩
theorem A3 {k:Nat} {s:Ded} (h:inD k s = true) {q:Int} (hq:q ∈ s.prem):0 ≤ q ∧ q ≤ (k:Int) - 1:=by
 unfold inD at h
 exact of_decide_eq_true (List.all_eq_true.1 h q hq)
theorem eQ {s:Ded} (h:nY s = true):s.asm.length ≤ 12 ∧ (∀ t ∈ s.asm,plT t = true) ∧ plT s.con = true:=by
 unfold nY at h
 rw [Bool.and_eq_true,Bool.and_eq_true,Bool.and_eq_true,decide_eq_true_eq,List.all_eq_true] at h
 exact ⟨h.1.1,h.1.2,h.2.1⟩
theorem TJ (N:Nat) (s:Ded) (at_:List Nat) (a:Str):(makeD N s at_ a).length ≤ 4:=by
 unfold makeD
 simp only
 repeat' split
 all_goals simp
theorem rC (P:List Ded):∀ k,(seqD P k).1.length ≤ 4 * k ∧ (seqD P k).2.length = k
 | 0=>⟨Nat.le_refl _,rfl⟩
 | k + 1=>by
  obtain ⟨h1,h2⟩:=rC P k
  have h3:=TJ (seqD P k).1.length (gt P k) ((gt P k).prem.map fun j=>gt (seqD P k).2 j.toNat) (gt P (gt (gt P k).prem 0).toNat).con
  refine ⟨?_,?_⟩
  ·rw [seqD]
   simp only [List.length_append]
   omega
  ·rw [seqD]
   simp only [List.length_append,List.length_singleton]
   omega
end Go.Vc

namespace Go.Vc
def Cpx (w:World) (v:Value) (xs:List Value):Prop:=∃ a,v = .slice a xs.length xs.length ∧ (xs = [] ∨ ∃ b o,a = some ⟨b,o,none⟩ ∧ ∀ i,i < xs.length → w.cell? ⟨b,o + i,none⟩ = xs[i]?)
theorem Cpx.ext {w w':World} {v:Value} {xs:List Value} (h:Cpx w v xs) (x:Ext w w'):Cpx w' v xs:=by
 obtain ⟨a,rfl,h⟩:=h
 refine ⟨a,rfl,h.imp id ?_⟩
 rintro ⟨b,o,rfl,hc⟩
 exact ⟨b,o,rfl,fun i hi=>by rw [List.getElem?_eq_getElem hi];exact x.cell (by rw [hc i hi,List.getElem?_eq_getElem hi])⟩
theorem WL {P:Program} {w:World} {t ty e:TypeId} {z x:Value} {bytes q:Nat} {v:Value} {xs:List Value} {K:Value → World → Prop} (ht:P.underlying t = some (.slice e)) (hi:(P.info? e).map (fun i=>(i.zero,i.size,i.bytes)) = some (some z,1,bytes)) (hz:aD z = true) (hx:aD x = true)
  (hs:Cpx w v xs) (hB:Blk e w q [x]) (hb:(xs.length + 1) * bytes ≤ 140737488355328) (hm:xs.length + 1 ≤ 9223372036854775807)
  (h:∀ v' w',Ext w w' → Ow w.heap.size e w' v' (xs ++ [x]) → K v' w'):xOp P (Builtin.append_ #[t,t] ty #[v,.slice (some ⟨q,0,none⟩) 1 1]) w K:=by
 have hq:=Sl.ofBlk (n:=1) hB rfl (by omega)
 obtain ⟨a,rfl,hc⟩:=hs
 cases a with
 | none=>
  have hx0:xs = []:=hc.elim id fun ⟨b,o,e,_⟩=>by cases e
  subst hx0
  refine iAppA ht hi hz (Ow.nil w.heap.size e w) hq (fun u hu=>by simp at hu;subst hu;exact hx) hb hm (Nat.le_refl _) fun v' w' ho hg hat=>h v' w' ?_ ho
  exact (Ext.refl w).grown hg fun c hc=>by cases hc
 | some p=>
  obtain ⟨i,hi,h3⟩:=Option.map_eq_some_iff.1 hi
  simp only [Prod.mk.injEq] at h3
  obtain ⟨hz0,hsz,hby⟩:=h3
  have holds:∀ j u,xs[j]? = some u → w.cell? (p.add j) = some u:=fun j u hu=>by
   have hj:j < xs.length:=(List.getElem?_eq_some_iff.1 hu).1
   rcases hc with rfl | ⟨b,o,e,hc⟩
   ·simp at hj
   ·cases e
    rw [dB,hc j hj,hu]
  have hnews:∀ j u,[x][j]? = some u → w.cell? ((⟨q,0,none⟩:Addr).add j) = some u:=fun j u hu=>by
   have hj:j < [x].length:=(List.getElem?_eq_some_iff.1 hu).1
   have:j = 0:=by simpa using hj
   subst this
   rw [dB,hB.cell,hu]
  have hr:=run_append_grow (P:=P) w t ty e i z ht hi hz0 p xs.length xs.length xs (by rw [hsz,Nat.mul_one]) holds ⟨q,0,none⟩ 1 1 [x] (by rw [hsz];rfl) hnews (by omega) (by omega) (by rw [hby];exact growslice_fits (by omega) hb)
  have hge:=grownCap_ge w (xs.length + 1) xs.length e
  have hgm:=grownCap_le_maxLen w (xs.length + 1) xs.length e (by simpa [maxLen] using hm)
  refine ⟨_,_,hr,h _ _ (SK ⟨rfl,rfl,rfl,by simp,fun k hk _=>heap_alloc_old w.drew _ hk⟩) ?_⟩
  refine ⟨by simp,.inr ⟨w.heap.size,_,_,by rw [List.length_append,List.length_singleton],Nat.le_refl _,heap_alloc_new w.drew _,by simpa using hge,hgm,?_,?_⟩⟩
  ·simp only [Array.size_append,List.size_toArray,size_zeroCells,aH hz]
   simp
   omega
  ·rw [List.length_append,List.length_singleton]
   simp only [Nat.mul_one,Array.toList_append,List.append_assoc]
   rw [← List.append_assoc,List.take_append_of_le_length (by simp),List.take_of_length_le (by simp)]
structure GsR (w:World) (v:Value) (R:List (Value × Sq)):Prop where
 row:SlK 2 w v R.length (cH R)
 lf:∀ x ∈ R,SlT w x.1 x.2.1
theorem GsR.ext {w w':World} {v:Value} {R:List (Value × Sq)} (h:GsR w v R) (x:Ext w w'):GsR w' v R:=⟨SlK.ext h.row x,fun y hy=>(h.lf y hy).ext x⟩
theorem GsR.nil (w:World):GsR w (.slice none 0 0) []:=⟨(OwK.nil 2 0 0 w).sl,fun x hx=>by cases hx⟩
theorem GsR.one {e:TypeId} {w:World} {b:Nat} {v:Value} {L:List Str} {r:Str} (hB:Blk e w b [v,sv r]) (hv:SlT w v L):GsR w (.slice (some ⟨b,0,none⟩) 1 1) [(v,(L,r))]:=
 ⟨SlK.ofBlk (n:=1) hB rfl (by decide),fun x hx=>by rw [List.mem_singleton.1 hx];exact hv⟩
theorem GsR.two {e:TypeId} {w:World} {b:Nat} {v v':Value} {L L':List Str} {r r':Str} (hB:Blk e w b [v,sv r,v',sv r']) (hv:SlT w v L) (hv':SlT w v' L'):GsR w (.slice (some ⟨b,0,none⟩) 2 2) [(v,(L,r)),(v',(L',r'))]:=
 ⟨SlK.ofBlk (n:=2) hB rfl (by decide),fun x hx=>by
  rcases List.mem_cons.1 hx with rfl | hx
  ·exact hv
  ·rw [List.mem_singleton.1 hx];exact hv'⟩
theorem QR (R:List (Value × Sq)) (k:Nat):(cH R).drop (k * 2) = cH (R.drop k):=by
 induction R generalizing k with
 | nil=>simp [cH]
 | cons x R ih=>
  cases k with
  | zero=>simp [cH]
  | succ k=>
   show (([x.1,sv x.2.2] ++ cH R)).drop ((k + 1) * 2) = cH (R.drop k)
   rw [List.drop_append,List.drop_of_length_le (by simp;omega),show (k + 1) * 2 - [x.1,sv x.2.2].length = k * 2 by simp;omega,ih];rfl
theorem GsR.tail {w:World} {v r:Value} {R:List (Value × Sq)} (h:GsR w v R) (k:Nat) (hr:SlK 2 w r (R.length - k) ((cH R).drop (k * 2))):GsR w r (R.drop k):=by
 rw [QR,← List.length_drop] at hr
 exact ⟨hr,fun x hx=>h.lf x (List.mem_of_mem_drop hx)⟩
theorem fL {t:Str} {k:Nat} (hk:k = 2 ∨ k = 3 ∨ k = 4) (h:(fT t).kind = k):∃ p:Str × Str,parK t k = some p ∧ (fT t).kids.map Fm.body = [p.1,p.2]:=by
 unfold parK
 cases e:fT t with
 | and x y=>rw [e] at h;exact ⟨_,if_pos h.symm,rfl⟩
 | or x y=>rw [e] at h;exact ⟨_,if_pos h.symm,rfl⟩
 | imp x y=>rw [e] at h;exact ⟨_,if_pos h.symm,rfl⟩
 | var _=>rw [e] at h;simp only [Fm.kind] at h;omega
 | fls=>rw [e] at h;simp only [Fm.kind] at h;omega
 | box _=>rw [e] at h;simp only [Fm.kind] at h;omega
 | dia _=>rw [e] at h;simp only [Fm.kind] at h;omega
theorem oQ {t:Str} {k:Nat} (_:k = 2 ∨ k = 3 ∨ k = 4) (h:¬ (fT t).kind = k):parK t k = none:=by
 cases e:parK t k with
 | none=>rfl
 | some p=>exact absurd (mA e).1 h
def sB (s:Ded) (G:List Sq) (k j:Nat):Bool:=match G with | [g]=>decide (g.1 = s.asm) && (match parK g.2 k with | some p=>decide ((if j = 0 then p.1 else p.2) = s.con) | none=>false) | _=>false
theorem TE {s:Ded} {G:List Sq} {k j:Nat} (h:¬ G.length = 1):sB s G k j = false:=by
 unfold sB
 split
 ·exact absurd rfl h
 ·rfl
end Go.Vc
namespace Go.Proofs.YtkjoppimpmojfaaGreat
open Go.Vc
theorem KO {v:Value} {L:List Str} {w:World} (h:SlT w v L):Cal Tryz.prog j7 #[v] w fun r w'=>w' = w ∧ Cpx w r (strs L):=by
 apply rK;unfold kE
 have hz:∀ w,(sizeOf aB).run Tryz.prog w = .ok 1 w:=Tryz.sizeOf9
 have key:∀ (a:Option Addr) (c n:Nat),n ≤ c → c ≤ 9223372036854775807 → ∀ w',(Instr.sliceAt 30 (.slice a n c) none (some (.int .i64 (n:Int))) (some (.int .i64 (n:Int)))).run Tryz.prog w' = .ok (.slice a n n) w':=fun a c n hc hm w'=>by
  have b1:=run_sliceBound (P:=Tryz.prog) w' .i64 (n:Int) c .slice3Acap (by omega) (by omega)
  have b2:=run_sliceBound (P:=Tryz.prog) w' .i64 (n:Int) n .slice3B (by omega) (by omega)
  rw [Int.toNat_natCast] at b1 b2
  simp only [Instr.sliceAt,Instr.slice,Instr.sliceBounds,Sem.run_bind,Sem.run_pure,run_underlying bS,Result.andThen_ok,b1,b2,hz,if_true,Option.isSome_some]
  by_cases hn:n = 0
  ·simp [hn]
  ·have e:Option.map (fun x=>x.add (0 * 1)) a = a:=by cases a <;> simp [Addr.add]
   simp [hn,e]
 obtain ⟨a,c,rfl,h2,h3,h4⟩:=h
 refine iLenL (iLenL ?_)
 exact ⟨_,fun w' _=>key a c _ h2 h3 w',rfl,a,rfl,h4⟩
theorem gN {v:Value} {L:List Str} {t:Str} {w:World} (h:SlT w v L) (hl:L.length ≤ 1000000):Cal Tryz.prog ET #[v,sv t] w fun r w'=>Ext w w' ∧ Ow w.heap.size aB w' r (strs (L ++ [t])):=by
 apply OY;unfold E6
 refine iCall ((KO h).mono ?_)
 rintro r w1 ⟨rfl,hc⟩
 refine iBs1 rfl rfl fun b w2 hb x2 hB=>?_
 have hll:=aI L
 refine WL bS b6 rfl rfl (hc.ext x2) hB (by omega) (by omega) fun v' w3 x3 ho=>⟨x2.trans x3,?_⟩
 rw [s4] at ho
 exact ho.mono x2.size
theorem gH (t:Str) (w:World):Ret Tryz.prog iY #[sv t] w (.bool (plT t)):=by
 apply sI;unfold lL
 refine iJnB (plT t) w (fun J hJ=>?_) (fun w2 x2=>fun _=>⟨by first | trivial | rfl,x2⟩)
 refine iRet (CB t w) fun w3 x3=>?_
 unfold plT at hJ
 refine iCnd (fun hg=>?_) (fun hg=>?_)
 ·rw [hg,Bool.true_and] at hJ
  have hpc:pCode t = 0:=by unfold goodT at hg;rw [Bool.and_eq_true,decide_eq_true_eq] at hg;exact hg.1
  refine iCall ((bW t w3).mono ?_)
  rintro v w4 ⟨x4,hv,-⟩
  have hv:FmW w3.heap.size w4 v (fT t):=hv hpc
  exact iRet (yK hv.sl) fun w5 x5=>hJ _ ((x3.trans x4).trans x5)
 ·rw [hg,Bool.false_and] at hJ
  exact hJ _ x3
theorem bT {t:Str} (h:plT t = true) (k:Nat) (w:World):Cal Tryz.prog vM #[sv t,.int .i64 (k:Int)] w fun r w'=>Ext w w' ∧ ∃ u,r = .tuple #[u,.bool (decide ((fT t).kind = k))] ∧ TxW w.heap.size w' u ((fT t).kids.map Fm.body):=by
 obtain ⟨-,hg,-,-,hc⟩:=dY h
 apply I8;unfold wS
 refine iCall ((bW t w).mono ?_)
 rintro v w1 ⟨x1,hv,-⟩
 have hv:FmW w.heap.size w1 v (fT t):=hv hc
 have hs:FmS w1 v (fT t):=hv.sl
 have hpos:=(fT t).size_pos
 refine iFld (f:=0) (j:=0) hs rfl hpos (by decide) (fZ hs).1 (iEq ?_)
 rw [show decide (((fT t).kind:Int) = (k:Int)) = decide ((fT t).kind = k) from decide_eq_decide.2 (by omega)]
 intro w2 x2
 have hn:(fT t).size ≤ 1099511627776:=Nat.le_trans (bL hc).1 (by decide)
 refine iCall ((eK (SlK.ext hs x2) hg hn).mono ?_)
 rintro u w3 ⟨x3,hu⟩
 refine ⟨x3,fun w4 x4=>⟨((x1.trans x2).trans x3).trans x4,u,rfl,(hu.ext x4).mono (x1.trans x2).size⟩⟩
theorem HB {x:DV} {w:World} (hc:aD x.vl = true):Ret Tryz.prog kQ #[.agg x.cs.toArray] w (.agg #[x.vl,sv x.d.con]):=by
 apply s8;unfold kT
 refine iNew5 fun q1 w1 hq1 x1 hB1=>?_
 refine iNew2 fun q2 w2 hq2 x2 hB2=>?_
 have hB1:=hB1.ext x2
 refine iFa (iLdB hB1 (i:=2) (v:=x.vl) rfl ?_)
 refine iFa (iLdB hB1 (i:=3) (v:=sv x.d.con) rfl ?_)
 refine cY hc rfl ?_
 refine iSt2 hB2 rfl hc rfl fun w8 hB8 hc8=>?_
 refine iLd2 hB8 ⟨rfl,(x1.trans x2).thenCh hc8 fun c hc=>by have:=x1.size;omega⟩
theorem B4 {v v':Value} {g g':Sq} {w:World} (hv:SlT w v g.1) (hv':SlT w v' g'.1):Ret Tryz.prog kH #[.agg #[v,sv g.2],.agg #[v',sv g'.2]] w (.bool (decide (g = g'))):=by
 obtain ⟨L,r⟩:=g
 obtain ⟨L',r'⟩:=g'
 have hv:SlT w v L:=hv
 have hv':SlT w v' L':=hv'
 apply C7;unfold pO
 refine iNew2 fun q1 w1 hq1 x1 hB1=>?_
 refine iNew2 fun q2 w2 hq2 x2 hB2=>?_
 have X2:=x1.trans x2
 refine iJnB (decide ((L,r) = (L',r'))) w2 (fun J hJ=>?_) (fun w4 x4=>fun _=>⟨by first | trivial | rfl,X2.trans x4⟩)
 refine iFa (iLdB (hB1.ext x2) (i:=1) (v:=sv r) rfl ?_)
 refine iFa (iLdB hB2 (i:=1) (v:=sv r') rfl ?_)
 refine iEqT (iCndP (fun h=>?_) (fun h=>?_))
 ·subst h
  refine iFa (iLdB (hB1.ext x2) (i:=0) (v:=v) rfl ?_)
  refine iFa (iLdB hB2 (i:=0) (v:=v') rfl ?_)
  refine iRet (oJ (hv.ext X2) (hv'.ext X2)) fun w5 x5=>?_
  rw [show decide ((L,r) = (L',r)) = decide (L = L') from decide_eq_decide.2 ⟨fun e=>by cases e;rfl,fun e=>by rw [e]⟩] at hJ
  exact hJ _ x5
 ·rw [decide_eq_false (fun e:(L,r) = (L',r')=>h (by cases e;rfl))] at hJ
  exact hJ _ (Ext.refl _)
theorem SlK.lfCell {w:World} {v:Value} {xs:List Value} (h:Sl w v xs):aD v = true:=by
 obtain ⟨a,c,rfl,_⟩:=h
 rfl
theorem tB {v v':Value} {R R':List (Value × Sq)} {w:World} (hs:GsR w v R) (hs':GsR w v' R'):Ret Tryz.prog aX #[v,v',.func (.func kH) #[] #[]] w (.bool (decide (R.map Prod.snd = R'.map Prod.snd))):=by
 have hln:=hs.row.len
 apply cC;unfold aY
 refine iLenK hs.row (iLenK hs'.row (iNe (iCndP (fun h=>?_) (fun h=>?_))))
 ·refine ⟨?_,Ext.refl _⟩
  rw [decide_eq_false fun e=>h (by have:=congrArg List.length e;rw [List.length_map,List.length_map] at this;rw [this])]
 have hl:R.length = R'.length:=by omega
 refine iLenK hs.row ?_
 refine iLp (fun i:Nat=>[.int .i64 (i:Int)]) (fun i w'=>i ≤ R.length ∧ Ext w w' ∧ ∀ j,j < i → (gt R j).2 = (gt R' j).2) (fun i=>R.length - i) 0 rfl ⟨Nat.zero_le _,Ext.refl _,fun j hj=>absurd hj (Nat.not_lt_zero _)⟩ ?_
 rintro i w2 Kn ⟨hi,x2,he⟩ hKn
 intro _
 simp only [gx]
 refine iLt (iCndP (fun h2=>?_) (fun h2=>?_))
 ·have hil:i < R.length:=by omega
  have hil':i < R'.length:=by omega
  have ha:=(hs.lf (gt R i) (by rw [gt_eq hil];exact List.getElem_mem _)).ext x2
  have hb:=(hs'.lf (gt R' i) (by rw [gt_eq hil'];exact List.getElem_mem _)).ext x2
  refine iLdK (cs:=#[(gt R i).1,sv (gt R i).2.2]) (SlK.ext hs.row x2) rfl hil rfl (fun j hj=>?_) ?_
  ·rcases j with _ | _ | j
   ·exact (dA hil).1
   ·exact (dA hil).2
   ·omega
  refine iNew2 fun q3 w3 hq3 x3 hB3=>?_
  refine iSt2 hB3 rfl (SlK.lfCell ha) rfl fun w4 hB4 hc4=>?_
  have x24:Ext w2 w4:=x3.thenCh hc4 fun c hc=>by omega
  refine iLdK (cs:=#[(gt R' i).1,sv (gt R' i).2.2]) (SlK.ext hs'.row (x2.trans x24)) rfl hil' rfl (fun j hj=>?_) ?_
  ·rcases j with _ | _ | j
   ·exact (dA hil').1
   ·exact (dA hil').2
   ·omega
  refine iNew2 fun q5 w5 hq5 x5 hB5=>?_
  refine iSt2 hB5 rfl (SlK.lfCell hb) rfl fun w6 hB6 hc6=>?_
  have x46:Ext w4 w6:=x5.thenCh hc6 fun c hc=>by omega
  refine iLd2 (hB4.ext x46) (iLd2 hB6 ?_)
  have x26:=x24.trans x46
  refine iRet (B4 (ha.ext x26) (hb.ext x26)) fun w7 x7=>?_
  refine iNot (iCnd (fun h3=>?_) (fun h3=>?_))
  ·have h3:¬ (gt R i).2 = (gt R' i).2:=by simpa using h3
   refine ⟨?_,(x2.trans x26).trans x7⟩
   rw [decide_eq_false fun e=>h3 (by
    have e1:gt (R.map Prod.snd) i = (gt R i).2:=d7 hil
    have e2:gt (R'.map Prod.snd) i = (gt R' i).2:=d7 hil'
    rw [← e1,← e2,e])]
  ·have h3:(gt R i).2 = (gt R' i).2:=by simpa using h3
   refine iAdd (by omega) (hKn (i + 1) _ ⟨by omega,(x2.trans x26).trans x7,fun j hj=>?_⟩ (by omega))
   by_cases e:j = i
   ·subst e;exact h3
   ·exact he j (by omega)
 ·refine ⟨?_,x2⟩
  rw [decide_eq_true (TT (by rw [List.length_map,List.length_map,hl]) fun j hj=>by
   rw [List.length_map] at hj
   have e1:gt (R.map Prod.snd) j = (gt R j).2:=d7 hj
   have e2:gt (R'.map Prod.snd) j = (gt R' j).2:=d7 (by omega)
   rw [e1,e2];exact he j (by omega))]
end Go.Proofs.YtkjoppimpmojfaaGreat

namespace Go.Vc
def dN (s:Ded) (G:List Sq):Bool:=if s.rule = 1 ∨ s.rule = 2 ∨ s.rule = 3 ∨ s.rule = 6 ∨ s.rule = 7 ∨ s.rule = 9 then ruleB s G else false
def elimB (s:Ded) (G:List Sq):Bool:=if s.rule = 4 ∨ s.rule = 5 ∨ s.rule = 8 ∨ s.rule = 10 then ruleB s G else false
theorem Q5 (s:Ded) (G:List Sq):(dN s G || elimB s G) = ruleB s G:=by
 unfold dN elimB
 by_cases h:s.rule = 1 ∨ s.rule = 2 ∨ s.rule = 3 ∨ s.rule = 6 ∨ s.rule = 7 ∨ s.rule = 9
 ·rw [if_pos h,if_neg (by omega),Bool.or_false]
 ·rw [if_neg h,Bool.false_or]
  by_cases h2:s.rule = 4 ∨ s.rule = 5 ∨ s.rule = 8 ∨ s.rule = 10
  ·rw [if_pos h2]
  ·rw [if_neg h2]
   unfold ruleB
   rw [if_neg (by omega),if_neg (by omega),if_neg (by omega),if_neg (by omega),if_neg (by omega),if_neg (by omega),if_neg (by omega),if_neg (by omega),if_neg (by omega),if_neg (by omega)]
theorem SZ {s:Ded} {G:List Sq} (h:s.rule = 4):elimB s G = sB s G 2 0:=by
 unfold elimB ruleB sB
 rw [if_pos (.inl h),if_neg (by omega),if_neg (by omega),if_neg (by omega),if_pos h];rfl
theorem S7 {s:Ded} {G:List Sq} (h:s.rule = 5):elimB s G = sB s G 2 1:=by
 unfold elimB ruleB sB
 rw [if_pos (by omega),if_neg (by omega),if_neg (by omega),if_neg (by omega),if_neg (by omega),if_pos h];rfl
theorem KA {s:Ded} {g:Sq} {r:List Sq} (h:s.rule = 8):elimB s (g :: r) = (decide (g.1 = s.asm) && (match parK g.2 3 with | some p=>decide (r = [(s.asm ++ [p.1],s.con),(s.asm ++ [p.2],s.con)]) | none=>false)):=by
 unfold elimB ruleB
 rw [if_pos (by omega),if_neg (by omega),if_neg (by omega),if_neg (by omega),if_neg (by omega),if_neg (by omega),if_neg (by omega),if_neg (by omega),if_pos h]
 try rfl
theorem QO {s:Ded} {g:Sq} {r:List Sq} (h:s.rule = 10):elimB s (g :: r) = (decide (g.1 = s.asm) && (match parK g.2 4 with | some p=>decide (p.2 = s.con) && decide (r = [(s.asm,p.1)]) | none=>false)):=by
 unfold elimB ruleB
 rw [if_pos (by omega),if_neg (by omega),if_neg (by omega),if_neg (by omega),if_neg (by omega),if_neg (by omega),if_neg (by omega),if_neg (by omega),if_neg (by omega),if_neg (by omega),if_pos h]
 try rfl
theorem UX {s:Ded} (h4:¬ s.rule = 4) (h5:¬ s.rule = 5):elimB s [] = false:=by
 unfold elimB ruleB
 by_cases h:s.rule = 4 ∨ s.rule = 5 ∨ s.rule = 8 ∨ s.rule = 10
 ·rw [if_pos h,if_neg (by omega),if_neg (by omega),if_neg (by omega),if_neg (by omega),if_neg (by omega),if_neg (by omega),if_neg (by omega)]
  by_cases h8:s.rule = 8
  ·rw [if_pos h8]
  ·rw [if_neg h8,if_neg (by omega),if_pos (by omega)]
 ·rw [if_neg h]
theorem KW {s:Ded} {G:List Sq} (h4:¬ s.rule = 4) (h5:¬ s.rule = 5) (h8:¬ s.rule = 8) (h10:¬ s.rule = 10):elimB s G = false:=if_neg (by omega)
end Go.Vc
namespace Go.Proofs.YtkjoppimpmojfaaGreat
open Go.Vc
theorem DV.cell {w:World} {x:DV} (h1:SlI w x.vp x.d.prem) (h2:SlT w x.vl x.d.asm):∀ y ∈ x.cs,aD y = true:=fun y hy=>by
 simp only [DV.cs,List.mem_cons,List.not_mem_nil,or_false] at hy
 rcases hy with rfl | rfl | rfl | rfl | rfl
 ·rfl
 ·exact SlK.lfCell h1
 ·exact SlK.lfCell h2
 ·rfl
 ·rfl
theorem uA {x:DV} {w:World} {v:Value} {R:List (Value × Sq)} (hx:SlT w x.vl x.d.asm) (h:GsR w v R) (hp:∀ g ∈ R,plT g.2.2 = true) {k j:Nat} (hk:k = 2 ∨ k = 3 ∨ k = 4) (hj:j < 2):Ret Tryz.prog kY #[.agg x.cs.toArray,v,.int .i64 (k:Int),.int .i64 (j:Int)] w (.bool (sB x.d (R.map Prod.snd) k j)):=by
 apply tD;unfold kR
 refine iNew5 fun q1 w1 hq1 x1 hB1=>?_
 have h1:=h.ext x1
 by_cases hl:R.length = 1
 rotate_left
 ·refine iJnB true w1 (fun J hJ=>?_) (fun w2 x2=>?_)
  ·refine iLenK h1.row (iNe (iCndT (decide_eq_true (by omega)) ?_))
   exact fun w4 x4=>hJ _ x4
  ·intro _
   simp only [gx]
   exact iCndT rfl ⟨by rw [TE (by rw [List.length_map];exact hl)],x1.trans x2⟩
 obtain ⟨g,rfl⟩:=List.length_eq_one_iff.1 hl
 obtain ⟨vg,A,c⟩:=g
 have hA1:SlT w1 vg A:=h1.lf _ List.mem_cons_self
 have hpl:plT c = true:=hp _ List.mem_cons_self
 refine iJnB (!decide (A = x.d.asm)) w1 (fun J hJ=>?_) (fun w2 x2=>?_)
 ·refine iLenK h1.row (iNe (iCndF (decide_eq_false fun h=>h rfl) ?_))
  refine iFld (f:=0) (j:=0) h1.row rfl (by simp) (by decide) (dA (R:=[(vg,(A,c))]) (by simp)).1 ?_
  refine iFa (iLdB hB1 (i:=2) (v:=x.vl) rfl ?_)
  refine iRetQ (fun w' x'=>oJ (hA1.ext x') ((hx.ext x1).ext x')) (iNot ?_)
  exact fun w4 x4=>hJ _ x4
 intro _
 simp only [gx]
 have X2:=x1.trans x2
 have e:sB x.d ([((vg,(A,c)):Value × Sq)].map Prod.snd) k j = (decide (A = x.d.asm) && (match parK c k with | some p=>decide ((if j = 0 then p.1 else p.2) = x.d.con) | none=>false)):=rfl
 rw [e]
 by_cases hA:A = x.d.asm
 rotate_left
 ·rw [decide_eq_false hA]
  exact iCndT rfl ⟨by first | trivial | rfl,X2⟩
 rw [decide_eq_true hA,Bool.true_and]
 refine iCndF rfl ?_
 refine iFld (f:=1) (j:=0) (h1.ext x2).row rfl (by simp) (by decide) (dA (R:=[(vg,(A,c))]) (by simp)).2 ?_
 refine iCall ((bT hpl k w2).mono ?_)
 rintro _ w3 ⟨x3,u,rfl,hu⟩
 refine iEx rfl (iEx rfl ?_)
 by_cases hkk:(fT c).kind = k
 ·obtain ⟨p,hp1,hp2⟩:=fL hk hkk
  rw [hp2] at hu
  rw [hp1]
  refine iJnB (decide ((if j = 0 then p.1 else p.2) = x.d.con)) w3 (fun J hJ=>?_) (fun w5 x5=>fun _=>⟨by first | trivial | rfl,(X2.trans x3).trans x5⟩)
  refine iCndT (decide_eq_true hkk) ?_
  refine iIaG (j:=j) hu.sl rfl (by simpa using hj) ?_
  refine iFa (iLdB ((hB1.ext x2).ext x3) (i:=3) (v:=sv x.d.con) rfl ?_)
  refine iEqT ?_
  rw [show gt [p.1,p.2] j = if j = 0 then p.1 else p.2 by
   rcases j with _ | _ | j
   ·rfl
   ·rfl
   ·omega]
  exact fun w9 x9=>hJ _ x9
 ·rw [oQ hk hkk]
  refine iJnB false w3 (fun J hJ=>?_) (fun w5 x5=>fun _=>⟨by first | trivial | rfl,(X2.trans x3).trans x5⟩)
  refine iCndF (decide_eq_false hkk) ?_
  exact fun w10 x10=>hJ _ x10
theorem AU {x:DV} {w:World} {v:Value} {R:List (Value × Sq)} (hx:SlT w x.vl x.d.asm) (h:GsR w v R) (hp:∀ g ∈ R,plT g.2.2 = true) (hl:x.d.asm.length ≤ 1000):Ret Tryz.prog i7 #[.agg x.cs.toArray,v] w (.bool (elimB x.d (R.map Prod.snd))):=by
 apply pB;unfold jA
 refine iNew5 fun q1 w1 hq1 x1 hB1=>?_
 have h1:=h.ext x1
 have hx1:=hx.ext x1
 refine iFa (iLdB hB1 (i:=0) (v:=.int .i64 x.d.rule) rfl ?_)
 refine iEq (iCndP (fun h4=>?_) (fun h4=>?_))
 ·refine iLdA hB1 rfl ?_
  exact iRet (uA (x:=x) (k:=2) (j:=0) hx1 h1 hp (.inl rfl) (by decide)) fun w2 x2=>⟨by rw [SZ h4],x1.trans x2⟩
 refine iEq (iCndP (fun h5=>?_) (fun h5=>?_))
 ·refine iLdA hB1 rfl ?_
  exact iRet (uA (x:=x) (k:=2) (j:=1) hx1 h1 hp (.inl rfl) (by decide)) fun w2 x2=>⟨by rw [S7 h5],x1.trans x2⟩
 cases R with
 | nil=>
  refine iJnB true w1 (fun J hJ=>?_) (fun w2 x2=>?_)
  ·exact iLenK h1.row (iEq (iCndT rfl fun w6 x6=>hJ _ x6))
  ·intro _
   simp only [gx]
   exact iCndT rfl ⟨by rw [show elimB x.d (List.map Prod.snd ([]:List (Value × Sq))) = false from UX h4 h5],x1.trans x2⟩
 | cons g R=>
 obtain ⟨vg,A,c⟩:=g
 have hA:SlT w1 vg A:=h1.lf _ List.mem_cons_self
 have hpl:plT c = true:=hp _ List.mem_cons_self
 refine iJnB (!decide (A = x.d.asm)) w1 (fun J hJ=>?_) (fun w2 x2=>?_)
 ·refine iLenK h1.row (iEq (iCndF (decide_eq_false (by rw [List.length_cons];omega)) ?_))
  refine iFld (f:=0) (j:=0) h1.row rfl (by simp) (by decide) (dA (R:=(vg,(A,c)) :: R) (by simp)).1 ?_
  refine iFa (iLdB hB1 (i:=2) (v:=x.vl) rfl ?_)
  refine iRetQ (fun w' x'=>oJ (hA.ext x') (hx1.ext x')) (iNot ?_)
  exact fun w4 x4=>hJ _ x4
 intro _
 simp only [gx]
 have X2:=x1.trans x2
 rw [show elimB x.d (((vg,(A,c)) :: R).map Prod.snd) = elimB x.d ((A,c) :: R.map Prod.snd) from rfl]
 by_cases hAe:A = x.d.asm
 rotate_left
 ·have no:elimB x.d ((A,c) :: R.map Prod.snd) = false:=by
   by_cases h8:x.d.rule = 8
   ·rw [KA h8]
    show (decide (A = x.d.asm) && _) = false
    rw [decide_eq_false hAe];rfl
   ·by_cases h10:x.d.rule = 10
    ·rw [QO h10]
     show (decide (A = x.d.asm) && _) = false
     rw [decide_eq_false hAe];rfl
    ·exact KW h4 h5 h8 h10
  rw [decide_eq_false hAe,no]
  exact iCndT rfl ⟨by first | trivial | rfl,X2⟩
 rw [decide_eq_true hAe]
 refine iCndF rfl ?_
 have hR2:=h1.ext x2
 have hB2:=hB1.ext x2
 refine iFa (iLdB hB2 (i:=0) (v:=.int .i64 x.d.rule) rfl ?_)
 refine iEq (iCndP (fun h8=>?_) (fun h8=>?_))
 ·have e8:elimB x.d ((A,c) :: R.map Prod.snd) = (match parK c 3 with | some p=>decide (R.map Prod.snd = [(x.d.asm ++ [p.1],x.d.con),(x.d.asm ++ [p.2],x.d.con)]) | none=>false):=by
   rw [KA h8]
   show (decide (A = x.d.asm) && _) = _
   rw [decide_eq_true hAe,Bool.true_and]
  rw [e8]
  refine iFld (f:=1) (j:=0) hR2.row rfl (by simp) (by decide) (dA (R:=(vg,(A,c)) :: R) (by simp)).2 ?_
  refine iCall ((bT hpl 3 w2).mono ?_)
  rintro _ w8 ⟨x8,u,rfl,hu⟩
  refine iEx rfl (iEx rfl ?_)
  have X8:=X2.trans x8
  have hB8:=hB2.ext x8
  by_cases hkk:(fT c).kind = 3
  ·obtain ⟨p,hp1,hp2⟩:=fL (.inr (.inl rfl)) hkk
   rw [hp2] at hu
   rw [hp1]
   refine iJnB (decide (R.map Prod.snd = [(x.d.asm ++ [p.1],x.d.con),(x.d.asm ++ [p.2],x.d.con)])) w8 (fun J hJ=>?_) (fun w10 x10=>fun _=>⟨by first | trivial | rfl,X8.trans x10⟩)
   refine iCndT (decide_eq_true hkk) ?_
   have hR8:=hR2.ext x8
   refine rJ (i:=1) hR8.row (by simp) fun r hr=>?_
   have hr:GsR w8 r R:=hR8.tail 1 hr
   refine iFa (iLdB hB8 (i:=2) (v:=x.vl) rfl ?_)
   refine iIaG (j:=0) hu.sl rfl (by simp) ?_
   refine iFa (iLdB hB8 (i:=3) (v:=sv x.d.con) rfl ?_)
   refine iFa (iLdB hB8 (i:=2) (v:=x.vl) rfl ?_)
   refine iIaG (j:=1) hu.sl rfl (by simp) ?_
   refine iFa (iLdB hB8 (i:=3) (v:=sv x.d.con) rfl ?_)
   intro w11 x11
   refine iCall ((gN (t:=p.1) (hx.ext (X8.trans x11)) (by omega)).mono ?_)
   rintro r1 w12 ⟨x12,ho1⟩
   refine ⟨x12,cY ho1.cell rfl ?_⟩
   intro w13 x13
   have X13:=x11.trans (x12.trans x13)
   refine iCall ((gN (t:=p.2) (hx.ext (X8.trans X13)) (by omega)).mono ?_)
   rintro r2 w14 ⟨x14,ho2⟩
   refine ⟨x14,cY ho2.cell rfl ?_⟩
   intro w15 x15
   refine iBsA2 fun b w16 _ x16 hB=>⟨x16,?_⟩
   have X16:=x14.trans (x15.trans x16)
   refine iRetQ (fun w' x'=>tB ((hr.ext (X13.trans X16)).ext x') ((GsR.two hB (ho1.ext (x13.trans X16)).sl (ho2.ext (x15.trans x16)).sl).ext x')) ?_
   exact fun w17 x17=>hJ _ ((X13.trans X16).trans x17)
  ·rw [oQ (.inr (.inl rfl)) hkk]
   refine iJnB false w8 (fun J hJ=>?_) (fun w10 x10=>fun _=>⟨by first | trivial | rfl,X8.trans x10⟩)
   refine iCndF (decide_eq_false hkk) ?_
   exact fun w18 x18 w19 x19 w20 x20 w21 x21=>hJ _ (((x18.trans x19).trans x20).trans x21)
 refine iEq (iCndP (fun h10=>?_) (fun h10=>?_))
 ·have e10:elimB x.d ((A,c) :: R.map Prod.snd) = (match parK c 4 with | some p=>decide (p.2 = x.d.con) && decide (R.map Prod.snd = [(x.d.asm,p.1)]) | none=>false):=by
   rw [QO h10]
   show (decide (A = x.d.asm) && _) = _
   rw [decide_eq_true hAe,Bool.true_and]
  rw [e10]
  refine iFld (f:=1) (j:=0) hR2.row rfl (by simp) (by decide) (dA (R:=(vg,(A,c)) :: R) (by simp)).2 ?_
  refine iCall ((bT hpl 4 w2).mono ?_)
  rintro _ w8 ⟨x8,u,rfl,hu⟩
  refine iEx rfl (iEx rfl ?_)
  have X8:=X2.trans x8
  have hB8:=hB2.ext x8
  by_cases hkk:(fT c).kind = 4
  ·obtain ⟨p,hp1,hp2⟩:=fL (.inr (.inr rfl)) hkk
   rw [hp2] at hu
   rw [hp1]
   refine iJnB (decide (p.2 = x.d.con) && decide (R.map Prod.snd = [(x.d.asm,p.1)])) w8 (fun J hJ=>?_) (fun w10 x10=>fun _=>⟨by first | trivial | rfl,X8.trans x10⟩)
   refine iCndT (decide_eq_true hkk) ?_
   refine iIaG (j:=1) hu.sl rfl (by simp) ?_
   refine iFa (iLdB hB8 (i:=3) (v:=sv x.d.con) rfl ?_)
   refine iEqT (iCndP (fun hc=>?_) (fun hc=>?_))
   ·have hc:p.2 = x.d.con:=hc
    rw [decide_eq_true hc,Bool.true_and] at hJ
    have hR8:=hR2.ext x8
    refine rJ (i:=1) hR8.row (by simp) fun r hr=>?_
    have hr:GsR w8 r R:=hR8.tail 1 hr
    have hx8:=hx.ext X8
    refine iFa (iLdB hB8 (i:=2) (v:=x.vl) rfl ?_)
    refine iIaG (j:=0) hu.sl rfl (by simp) ?_
    refine cY (SlK.lfCell hx8) rfl ?_
    intro w11 x11
    refine iBsA fun b w16 _ x16 hB=>⟨x16,?_⟩
    have X16:=x11.trans x16
    refine iRetQ (fun w' x'=>tB ((hr.ext X16).ext x') ((GsR.one hB (hx8.ext X16)).ext x')) ?_
    exact fun w17 x17=>hJ _ (X16.trans x17)
   ·have hc:¬ p.2 = x.d.con:=hc
    rw [decide_eq_false hc,Bool.false_and] at hJ
    exact fun w18 x18 w19 x19=>hJ _ (x18.trans x19)
  ·rw [oQ (.inr (.inr rfl)) hkk]
   refine iJnB false w8 (fun J hJ=>?_) (fun w10 x10=>fun _=>⟨by first | trivial | rfl,X8.trans x10⟩)
   refine iCndF (decide_eq_false hkk) ?_
   exact fun w18 x18 w19 x19=>hJ _ (x18.trans x19)
 ·rw [KW h4 h5 h8 h10]
  exact ⟨by first | trivial | rfl,X2⟩
end Go.Proofs.YtkjoppimpmojfaaGreat
