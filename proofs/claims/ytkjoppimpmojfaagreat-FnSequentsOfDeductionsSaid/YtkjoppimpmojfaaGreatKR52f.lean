/- The proof of FnSequentsOfDeductions, part 6 of 8. Conditions: none. -/
import Derived.Test.YtkjoppimpmojfaaGreatKR52e
namespace Go.Vc
theorem KidsW.one {e:TypeId} {w:World} {b:Nat} {u:Value} {t:Tm} (hB:Blk e w b [u]) (h:RdT w u t.raw):Sl w (.slice (some ⟨b,0,none⟩) 1 1) [u] ∧ KidsW w [u] [t]:=
 ⟨Sl.ofBlk (n:=1) hB rfl (by decide),rfl,fun j hj=>by
  have:j = 0:=by simpa using hj
  subst this
  exact ⟨u,rfl,h⟩⟩
theorem KidsW.two {e:TypeId} {w:World} {b:Nat} {u u':Value} {t t':Tm} (hB:Blk e w b [u,u']) (h:RdT w u t.raw) (h':RdT w u' t'.raw):Sl w (.slice (some ⟨b,0,none⟩) 2 2) [u,u'] ∧ KidsW w [u,u'] [t,t']:=
 ⟨Sl.ofBlk (n:=2) hB rfl (by decide),rfl,fun j hj=>by
  rcases j with _ | _ | j
  ·exact ⟨u,rfl,h⟩
  ·exact ⟨u',rfl,h'⟩
  ·simp at hj;omega⟩
theorem KidsW.three {e:TypeId} {w:World} {b:Nat} {u u' u'':Value} {t t' t'':Tm} (hB:Blk e w b [u,u',u'']) (h:RdT w u t.raw) (h':RdT w u' t'.raw) (h'':RdT w u'' t''.raw):Sl w (.slice (some ⟨b,0,none⟩) 3 3) [u,u',u''] ∧ KidsW w [u,u',u''] [t,t',t'']:=
 ⟨Sl.ofBlk (n:=3) hB rfl (by decide),rfl,fun j hj=>by
  rcases j with _ | _ | _ | j
  ·exact ⟨u,rfl,h⟩
  ·exact ⟨u',rfl,h'⟩
  ·exact ⟨u'',rfl,h''⟩
  ·simp at hj;omega⟩
theorem iIaGp {w:World} {v:Value} {L:List Str} {z:Int} {j:Nat} {k:IntKind} {K:Value → Prop} (hs:SlT w v L) (hz:z = (j:Int)) (hj:j < L.length) (h:∀ p,w.cell? p = some (sv (gt L j)) → K (.pointer (some p))):xIa 1 v (.int k z) K:=by
 subst hz
 exact iIaT hs hj fun p hp=>h p (by rw [gt_eq hj];exact hp)
theorem iIaGs {w:World} {v:Value} {L:List Str} {z:Int} {j:Nat} {k:IntKind} {K:Value → Prop} (hs:SlT w v L) (hz:z = (j:Int)) (hj:j < L.length) (h:K (sv (gt L j))):xIa 1 v (.int k z) fun p=>xLd w p fun u=>(∀ w',Ch (fun c=>w.heap.size ≤ c) w w' → xLd w' p fun u'=>u' = u) ∧ K u:=
 iIaGp hs hz hj fun _ hp=>iLd hp ⟨fun _ h'=>iLd ((h'.toExt fun _ hc=>hc).cell hp) rfl,h⟩
theorem VX {x:Inf} {G:List Sq} (hl:∀ t ∈ x.left,plT t = true)
  (hrule:(x.rule = 10 ∧ x.main = [] ∧ ∃ g,G = [g] ∧ g.2 = x.right ∧ ∀ t ∈ g.1,t ∈ x.left) ∨ (1 ≤ x.rule ∧ x.rule ≤ 11 ∧ ¬ x.rule = 10 ∧ aJ x.left x.right x.rule x.main = (G,true))):x.main = [] ∨ plT x.main = true:=by
 rcases hrule with ⟨_,h,_⟩ | ⟨h1,h2,h3,h4⟩
 ·exact .inl h
 ·obtain ⟨rule,prem,L,r,a⟩:=x
  have h1:1 ≤ rule:=h1
  have h2:rule ≤ 11:=h2
  have h3:¬ rule = 10:=h3
  have h4:aJ L r rule a = (G,true):=h4
  show a = [] ∨ plT a = true
  obtain rfl | rfl | rfl | rfl | rfl | rfl | rfl | rfl | rfl | rfl:rule = 1 ∨ rule = 2 ∨ rule = 3 ∨ rule = 4 ∨ rule = 5 ∨ rule = 6 ∨ rule = 7 ∨ rule = 8 ∨ rule = 9 ∨ rule = 11:=by omega
  ·simp [aJ,bI] at h4;exact .inl h4.2.1
  ·simp [aJ,bI] at h4;exact .inl h4.2.1
  ·exact .inr (hl a (inv3 h4).1)
  ·simp [aJ,bI] at h4;exact .inl h4.2.2
  ·exact .inr (hl a (inv5 h4).1)
  ·simp [aJ,bI] at h4;exact .inl h4.2.2
  ·simp [aJ,bI] at h4;exact .inl h4.2.2
  ·exact .inr (hl a (inv8 h4).1)
  ·simp [aJ,bI] at h4;exact .inl h4.2.2
  ·exact .inr (inv11 h4).1
theorem JJ {B:Nat}:∀ {ts:List Tm},(∀ k ∈ ts,k.raw.length ≤ B) → (ts.flatMap Tm.raw).length ≤ ts.length * B
 | [],_=>Nat.zero_le _
 | t :: ts,h=>by
  have h1:=h t (List.mem_cons_self ..)
  have h2:=JJ (ts:=ts) fun k hk=>h k (List.mem_cons_of_mem _ hk)
  rw [List.flatMap_cons,List.length_append,List.length_cons,Nat.add_mul];omega
theorem DG {t:Tm} (h:∀ k ∈ t.kids,k.raw.length ≤ 200 ∧ numLe 1000 k) (hd:t.hd.num ≤ 1000):t.raw.length ≤ 900 ∧ numLe 1000 t:=by
 refine ⟨?_,fun nd hn=>?_⟩
 ·have h1:=JJ fun k hk=>(h k hk).1
  have h2:=t.kids_len
  rw [t.raw_kids,List.length_cons]
  have:=Nat.mul_le_mul_right 200 h2
  omega
 ·rw [t.nodes_kids] at hn
  rcases List.mem_cons.1 hn with rfl | hn
  ·exact hd
  ·obtain ⟨k,hk,hn⟩:=List.mem_flatMap.1 hn
   exact (h k hk).2 nd hn
theorem M5 {B:Nat} {ts:List Tm} (h:∀ k ∈ ts,k.raw.length ≤ B):sumT ts ≤ ts.length * B:=by
 rw [← zT];exact JJ h
structure St5 (w0 w:World) (s0 s1:Str) (z:Value) (A B:Option (Nat × Bool)) (R:List (Value × List RT)):Prop where
 x:Ext w0 w
 a:∀ b f,A = some (b,f) → w0.heap.size ≤ b ∧ b < w.heap.size ∧ (f = false → Map0 w b) ∧ (f = true → eE s0 z w b)
 b:∀ b f,B = some (b,f) → w0.heap.size ≤ b ∧ b < w.heap.size ∧ (f = false → Map0 w b) ∧ (f = true → eE s1 z w b)
 ne:∀ b f b' f',A = some (b,f) → B = some (b',f') → b ≠ b'
 r:∀ p ∈ R,RdT w p.1 p.2
theorem St5.ext {w0 w w':World} {s0 s1:Str} {z:Value} {A B:Option (Nat × Bool)} {R:List (Value × List RT)} (h:St5 w0 w s0 s1 z A B R) (y:Ext w w'):St5 w0 w' s0 s1 z A B R:=by
 have hs:=y.size
 refine ⟨h.x.trans y,fun b f e=>?_,fun b f e=>?_,h.ne,fun p hp=>SlK.ext (h.r p hp) y⟩
 ·obtain ⟨h1,h2,h3,h4⟩:=h.a b f e
  exact ⟨h1,by omega,fun e=>(h3 e).ext y,fun e=>(h4 e).ext y⟩
 ·obtain ⟨h1,h2,h3,h4⟩:=h.b b f e
  exact ⟨h1,by omega,fun e=>(h3 e).ext y,fun e=>(h4 e).ext y⟩
theorem St5.mkA {w0 w w':World} {b:Nat} {s0 s1:Str} {z:Value} {B:Option (Nat × Bool)} {R:List (Value × List RT)} (h:St5 w0 w s0 s1 z none B R) (y:Ext w w') (hb:b = w.heap.size) (hM:Map0 w' b):St5 w0 w' s0 s1 z (some (b,false)) B R:=by
 have h':=h.ext y
 have hl:b < w'.heap.size:=by obtain ⟨c,e⟩:=hM;exact dF e
 have:=h.x.size
 refine ⟨h'.x,fun b' f e=>?_,h'.b,fun b1 f b2 f' e1 e2=>?_,h'.r⟩
 ·cases e
  exact ⟨by omega,hl,fun _=>hM,fun e=>by cases e⟩
 ·cases e1
  have:=(h.b _ _ e2).2.1
  omega
theorem St5.mkB {w0 w w':World} {b:Nat} {s0 s1:Str} {z:Value} {A:Option (Nat × Bool)} {R:List (Value × List RT)} (h:St5 w0 w s0 s1 z A none R) (y:Ext w w') (hb:b = w.heap.size) (hM:Map0 w' b):St5 w0 w' s0 s1 z A (some (b,false)) R:=by
 have h':=h.ext y
 have hl:b < w'.heap.size:=by obtain ⟨c,e⟩:=hM;exact dF e
 have:=h.x.size
 refine ⟨h'.x,h'.a,fun b' f e=>?_,fun b1 f b2 f' e1 e2=>?_,h'.r⟩
 ·cases e
  exact ⟨by omega,hl,fun _=>hM,fun e=>by cases e⟩
 ·cases e2
  have:=(h.a _ _ e1).2.1
  omega
theorem St5.putA {w0 w w':World} {b:Nat} {s0 s1:Str} {z:Value} {B:Option (Nat × Bool)} {R:List (Value × List RT)} (h:St5 w0 w s0 s1 z (some (b,false)) B R) (hM:eE s0 z w' b) (hc:Ch (fun c=>c = b) w w'):St5 w0 w' s0 s1 z (some (b,true)) B R:=by
 obtain ⟨h1,h2,h3,-⟩:=h.a b false rfl
 have hs:=hc.size
 refine ⟨h.x.thenCh hc fun c e=>by omega,fun b' f e=>?_,fun b' f e=>?_,fun b1 f b2 f' e1 e2=>?_,fun p hp=>mO (h3 rfl).is (h.r p hp) hc⟩
 ·cases e
  exact ⟨h1,by omega,(fun e=>by cases e),fun _=>hM⟩
 ·obtain ⟨g1,g2,g3,g4⟩:=h.b b' f e
  have hne:=(h.ne _ _ _ _ rfl e).symm
  exact ⟨g1,by omega,fun e=>(g3 e).ch hc hne,fun e=>(g4 e).ch hc hne⟩
 ·cases e1
  exact h.ne _ _ _ _ rfl e2
theorem St5.putB {w0 w w':World} {b:Nat} {s0 s1:Str} {z:Value} {A:Option (Nat × Bool)} {R:List (Value × List RT)} (h:St5 w0 w s0 s1 z A (some (b,false)) R) (hM:eE s1 z w' b) (hc:Ch (fun c=>c = b) w w'):St5 w0 w' s0 s1 z A (some (b,true)) R:=by
 obtain ⟨h1,h2,h3,-⟩:=h.b b false rfl
 have hs:=hc.size
 refine ⟨h.x.thenCh hc fun c e=>by omega,fun b' f e=>?_,fun b' f e=>?_,fun b1 f b2 f' e1 e2=>?_,fun p hp=>mO (h3 rfl).is (h.r p hp) hc⟩
 ·obtain ⟨g1,g2,g3,g4⟩:=h.a b' f e
  have hne:=h.ne _ _ _ _ e rfl
  exact ⟨g1,by omega,fun e=>(g3 e).ch hc hne,fun e=>(g4 e).ch hc hne⟩
 ·cases e
  exact ⟨h1,by omega,(fun e=>by cases e),fun _=>hM⟩
 ·cases e2
  exact h.ne _ _ _ _ e1 rfl
theorem St5.row {w0 w:World} {s0 s1:Str} {z:Value} {A B:Option (Nat × Bool)} {R:List (Value × List RT)} (h:St5 w0 w s0 s1 z A B R) {v:Value} {L:List RT} (hv:RdT w v L):St5 w0 w s0 s1 z A B ((v,L) :: R):=
 ⟨h.x,h.a,h.b,h.ne,fun p hp=>by
  rcases List.mem_cons.1 hp with rfl | hp
  ·exact hv
  ·exact h.r p hp⟩
theorem WO {x:Inf} {G:List Sq} {T:List Tm} (h:x.rule = 1):termI x G T = .var (posT x.left x.right):=by
 obtain ⟨rule,prem,L,r,a⟩:=x;have h:rule = 1:=h;subst h;rfl
theorem WQ {x:Inf} {G:List Sq} {T:List Tm} (h:x.rule = 2):termI x G T = .abort x.right (.var (posT x.left Fm.fls.body)):=by
 obtain ⟨rule,prem,L,r,a⟩:=x;have h:rule = 2:=h;subst h;rfl
theorem WS {x:Inf} {G:List Sq} {T:List Tm} {p:Str × Str} (h:x.rule = 3) (hp:parK x.main 2 = some p):termI x G T = carry (gt G 0).1 x.left 0 (fun t=>if t = p.1 then .fst (.var (posT x.left x.main)) else .snd (.var (posT x.left x.main))) (gt T 0):=by
 obtain ⟨rule,prem,L,r,a⟩:=x;have h:rule = 3:=h;subst h
 show (match parK a 2 with | some p=>_ | none=>_) = _
 rw [show parK a 2 = some p from hp]
theorem WH {x:Inf} {G:List Sq} {T:List Tm} (h:x.rule = 4):termI x G T = .pair (gt T 0) (gt T 1):=by
 obtain ⟨rule,prem,L,r,a⟩:=x;have h:rule = 4:=h;subst h;rfl
theorem V0 {x:Inf} {G:List Sq} {T:List Tm} (h:x.rule = 5):termI x G T = .case (.var (posT x.left x.main)) (carry (gt G 0).1 x.left 1 (fun _=>.var x.left.length) (gt T 0)) (carry (gt G 1).1 x.left 1 (fun _=>.var x.left.length) (gt T 1)):=by
 obtain ⟨rule,prem,L,r,a⟩:=x;have h:rule = 5:=h;subst h;rfl
theorem WE {x:Inf} {G:List Sq} {T:List Tm} {p:Str × Str} (h:x.rule = 6) (hp:parK x.right 3 = some p):termI x G T = .left p.2 (gt T 0):=by
 obtain ⟨rule,prem,L,r,a⟩:=x;have h:rule = 6:=h;subst h
 show (match parK r 3 with | some p=>_ | none=>_) = _
 rw [show parK r 3 = some p from hp]
theorem V5 {x:Inf} {G:List Sq} {T:List Tm} {p:Str × Str} (h:x.rule = 7) (hp:parK x.right 3 = some p):termI x G T = .right p.1 (gt T 0):=by
 obtain ⟨rule,prem,L,r,a⟩:=x;have h:rule = 7:=h;subst h
 show (match parK r 3 with | some p=>_ | none=>_) = _
 rw [show parK r 3 = some p from hp]
theorem V1 {x:Inf} {G:List Sq} {T:List Tm} (h:x.rule = 8):termI x G T = carry (gt G 1).1 x.left 0 (fun _=>.app (.var (posT x.left x.main)) (gt T 0)) (gt T 1):=by
 obtain ⟨rule,prem,L,r,a⟩:=x;have h:rule = 8:=h;subst h;rfl
theorem V9 {x:Inf} {G:List Sq} {T:List Tm} {p:Str × Str} (h:x.rule = 9) (hp:parK x.right 4 = some p):termI x G T = .lam p.1 (carry (gt G 0).1 x.left 1 (fun _=>.var x.left.length) (gt T 0)):=by
 obtain ⟨rule,prem,L,r,a⟩:=x;have h:rule = 9:=h;subst h
 show (match parK r 4 with | some p=>_ | none=>_) = _
 rw [show parK r 4 = some p from hp]
theorem VO {x:Inf} {G:List Sq} {T:List Tm} (h:x.rule = 10):termI x G T = carry (gt G 0).1 x.left 0 (fun _=>default) (gt T 0):=by
 obtain ⟨rule,prem,L,r,a⟩:=x;have h:rule = 10:=h;subst h;rfl
theorem VY {x:Inf} {G:List Sq} {T:List Tm} (h:x.rule = 11):termI x G T = carry (gt G 1).1 x.left 0 (fun _=>gt T 0) (gt T 1):=by
 obtain ⟨rule,prem,L,r,a⟩:=x;have h:rule = 11:=h;subst h;rfl
theorem rQ (n:Nat):(Tm.var n).raw = [⟨0,(n:Int),[]⟩]:=rfl
end Go.Vc
namespace Go.Proofs.YtkjoppimpmojfaaGreat
open Go.Vc
structure InfW (w:World) (x:IV) (RG:List (Value × Sq)) (T:List Tm) (v1 v2:Value) (vs:List Value) (q3 q4 q5:Nat):Prop where
 b3:Blk aT w q3 x.cs
 b4:Blk F1 w q4 [v1]
 b5:Blk t9 w q5 [v2]
 left:SlT w x.vl x.i.left
 goals:GsR w v1 RG
 row:Sl w v2 vs
 kids:KidsW w vs T
 len:T.length = RG.length
 l13:x.i.left.length ≤ 12
 g13:∀ g ∈ RG,g.2.1.length ≤ 100
 t60:∀ t ∈ T,t.raw.length ≤ 60 ∧ numLe 99 t
theorem InfW.ext {w w':World} {x:IV} {RG:List (Value × Sq)} {T:List Tm} {v1 v2:Value} {vs:List Value} {q3 q4 q5:Nat} (h:InfW w x RG T v1 v2 vs q3 q4 q5) (y:Ext w w'):InfW w' x RG T v1 v2 vs q3 q4 q5:=
 ⟨h.b3.ext y,h.b4.ext y,h.b5.ext y,Sl.ext h.left y,h.goals.ext y,Sl.ext h.row y,h.kids.ext y,h.len,h.l13,h.g13,h.t60⟩
abbrev ptr (q:Nat):Value:=.pointer (some ⟨q,0,none⟩)
theorem lE {w:World} {x:IV} {RG:List (Value × Sq)} {T:List Tm} {v1 v2 vm:Value} {vs:List Value} {q3 q4 q5 k more:Nat} {given:Str → Tm} (h:InfW w x RG T v1 v2 vs q3 q4 q5) (hk:k < RG.length) (hmore:more ≤ 1) (hvm:aD vm = true)
  (hgiv:∀ a ∈ (gt RG k).2.1,¬ a ∈ x.i.left → ∃ b D,vm = .map (some b) ∧ a ∈ D ∧ GivT given D w b) (hsmall:∀ a,(given a).raw.length ≤ 900 ∧ numLe 1000 (given a)):
  Cal Tryz.prog a9 #[.int .i64 (k:Int),.int .i64 (more:Int),vm,ptr q3,ptr q5,ptr q4] w fun r w'=>Ext w w' ∧ OwT aA w.heap.size w' r (carry (gt RG k).2.1 x.i.left more given (gt T k)).raw:=by
 have hkT:k < T.length:=by rw [h.len];exact hk
 have hmT:gt T k ∈ T:=by rw [gt_eq hkT];exact List.getElem_mem _
 have hmG:gt RG k ∈ RG:=by rw [gt_eq hk];exact List.getElem_mem _
 have hl:=h.l13
 obtain ⟨h60,hnum⟩:=h.t60 _ hmT
 have hvl:aD x.vl = true:=by
  obtain ⟨a,c,e,_⟩:=h.left
  rw [e];rfl
 apply AG;unfold nM
 refine iFa (iLdB h.b3 (i:=2) (v:=x.vl) rfl ?_)
 refine j4 (cs:=#[x.vl,.int .i64 (more:Int),vm]) (by simp [Instr.fill,aH hvl,aH hvm,aH (show aD (.int .i64 (more:Int)) = true from rfl)]) ?_
 refine iLdB h.b5 (i:=0) (v:=v2) rfl ?_
 refine iKid h.row h.kids rfl hkT fun u hu=>?_
 refine iLdB h.b4 (i:=0) (v:=v1) rfl ?_
 refine iFld (f:=0) (j:=k) (x:=(gt RG k).1) h.goals.row rfl hk (by decide) (dA hk).1 ?_
 intro w1 x1
 have hc:CarW (gt RG k).2.1 x.i.left more given w1 x.vl vm (gt RG k).1:=
  ⟨Sl.ext h.left x1,Sl.ext (h.goals.lf _ hmG) x1,by omega,h.g13 _ hmG,hmore,fun a h1 h2=>let ⟨b,D,e,hd,hg⟩:=hgiv a h1 h2;⟨b,D,e,hd,GivT.ext' hg x1⟩,hsmall⟩
 refine iCall ((A7 hc (SlK.ext hu x1) h60 hnum).mono ?_)
 rintro r w2 ⟨x2,hr⟩
 exact fun w3 x3=>⟨(x1.trans x2).trans x3,OwK.mono (OwK.ext hr x3) x1.size⟩
theorem OJ:¬ pCode [] = 0:=by decide
theorem iM {w:World} {x:IV} {q3:Nat} {t:Str} (h3:Blk aT w q3 x.cs) (hl:SlT w x.vl x.i.left):Cal Tryz.prog nU #[sv t,ptr q3] w fun r w'=>Ext w w' ∧ OwT aA w.heap.size w' r [⟨0,if t ∈ x.i.left then (posT x.i.left t:Int) else -1,[]⟩]:=by
 apply z8;unfold n7
 refine iFa (iLdB h3 (i:=2) (v:=x.vl) rfl ?_)
 refine iRet (uE (t:=t) hl) fun w1 x1=>?_
 refine iCall ((eD _ w1).mono ?_)
 rintro r w2 ⟨x2,hr⟩
 exact ⟨x1.trans x2,hr.mono x1.size⟩
theorem AQ {w:World} {x:IV} {RG:List (Value × Sq)} {T:List Tm} {v1 v2:Value} {vs:List Value} (hl:SlT w x.vl x.i.left) (hG:GsR w v1 RG) (hs:Sl w v2 vs) (hk:KidsW w vs T) (hlen:T.length = RG.length) (hl13:x.i.left.length ≤ 12) (hg13:∀ g ∈ RG,g.2.1.length ≤ 100) (ht60:∀ t ∈ T,t.raw.length ≤ 60 ∧ numLe 99 t)
  (hr:plT x.i.right = true) (hlp:∀ t ∈ x.i.left,plT t = true)
  (hrule:(x.i.rule = 10 ∧ x.i.main = [] ∧ ∃ g,RG.map Prod.snd = [g] ∧ g.2 = x.i.right ∧ ∀ t ∈ g.1,t ∈ x.i.left) ∨ (1 ≤ x.i.rule ∧ x.i.rule ≤ 11 ∧ ¬ x.i.rule = 10 ∧ aJ x.i.left x.i.right x.i.rule x.i.main = (RG.map Prod.snd,true))):
  Cal Tryz.prog p4 #[.agg x.cs.toArray,v1,v2] w fun r w'=>Ext w w' ∧ OwT aA w.heap.size w' r (termI x.i (RG.map Prod.snd) T).raw:=by
 have hmain:=VX hlp hrule
 have hvl:aD x.vl = true:=by
  obtain ⟨a,c,e,_⟩:=hl
  rw [e];rfl
 have hv1:aD v1 = true:=by
  obtain ⟨_,a,c,e,_⟩:=hG.row
  rw [e];rfl
 have hv2:aD v2 = true:=by
  obtain ⟨a,c,e,_⟩:=hs
  rw [e];rfl
 apply DP;unfold pV
 refine iNew5 fun q3 w1 hq3 x1 hB3=>?_
 refine iNew fun q4 w2 hq4 x2 hB4=>?_
 refine iNew fun q5 w3 hq5 x3 hB5=>?_
 rw [aH hv1] at hB4
 rw [aH hv2] at hB5
 have X3:=(x1.trans x2).trans x3
 have hI:InfW w3 x RG T v1 v2 vs q3 q4 q5:=⟨hB3.ext (x2.trans x3),hB4.ext x3,hB5,Sl.ext hl X3,hG.ext X3,Sl.ext hs X3,hk.ext X3,hlen,hl13,hg13,ht60⟩
 refine iFa (iLdB hI.b3 (i:=2) (v:=x.vl) rfl ?_)
 refine iRet (mJ hI.left) fun w4 x4=>?_
 have hI4:=hI.ext x4
 refine iFa (iLdB hI4.b3 (i:=4) (v:=sv x.i.main) rfl ?_)
 refine (iClo rfl ((iM (t:=x.i.main) hI4.b3 hI4.left).mono ?_))
 rintro vx w5 ⟨x5,hvx⟩
 have hI5:=hI4.ext x5
 refine iFa (iLdB hI5.b3 (i:=4) (v:=sv x.i.main) rfl ?_)
 refine iFa (iLdB hI5.b3 (i:=3) (v:=sv x.i.right) rfl ?_)
 intro w6 x6
 refine iCall ((bW x.i.main w6).mono ?_)
 rintro vmn w7 ⟨x7,hm1,hm2⟩
 refine ⟨x7,fun w8 x8=>?_⟩
 refine iCall ((bW x.i.right w8).mono ?_)
 rintro vrt w9 ⟨x9,hr1,-⟩
 intro w10 x10
 obtain ⟨-,hrg,hrp,hrb,hrc⟩:=dY hr
 have hfr:FmW w8.heap.size w9 vrt (fT x.i.right):=hr1 hrc
 refine iCall ((eK (SlK.ext hfr.sl x10) hrg (Nat.le_trans (bL hrc).1 (by decide))).mono ?_)
 rintro vr w11 ⟨x11,hvr⟩
 intro w12 x12
 have X12:=(((((x6.trans x7).trans x8).trans x9).trans x10).trans x11).trans x12
 have hI12:=hI5.ext X12
 have hvr12:TxW 0 w12 vr ((fT x.i.right).kids.map Fm.body):=(hvr.ext x12).mono (Nat.zero_le _)
 have x712:Ext w7 w12:=(((x8.trans x9).trans x10).trans x11).trans x12
 refine ⟨by
  rcases hmain with h0 | h0
  ·rw [hm2 (by rw [h0];exact OJ)];trivial
  ·have:=(hm1 (dY h0).2.2.2.2).sl
   obtain ⟨_,a,c,e,_⟩:=this
   rw [e];trivial,rfl,?_⟩
 refine iJnX (fun xs w'=>∃ m,xs = [m] ∧ Ext w12 w' ∧ (plT x.i.main = true → TxW 0 w' m ((fT x.i.main).kids.map Fm.body))) (fun J hJ=>?_) ?_
 ·by_cases h0:plT x.i.main = true
  ·obtain ⟨-,hmg,-,-,hmc⟩:=dY h0
   have hfm:FmW w6.heap.size w7 vmn (fT x.i.main):=hm1 hmc
   have hns:CQ vmn = false:=by
    obtain ⟨_,a,c,e,_,_,hz | ⟨b,o,ha,_⟩⟩:=hfm.sl
    ·have:=(fT x.i.main).size_pos;omega
    ·rw [e,ha];rfl
   refine iCndT (by rw [hns];rfl) ?_
   refine iCall ((eK (SlK.ext hfm.sl x712) hmg (Nat.le_trans (bL hmc).1 (by decide))).mono ?_)
   rintro m w15 ⟨x15,hm⟩
   exact hJ _ _ ⟨m,rfl,x15,fun _=>hm.mono (Nat.zero_le _)⟩
  ·rw [hm2 (by rw [hmain.resolve_right h0];exact OJ)]
   exact iCndF rfl (hJ _ _ ⟨_,rfl,Ext.refl _,fun h=>absurd h h0⟩)
 rintro _ w14 ⟨vm,rfl,x14,hvm⟩
 intro _
 simp only [gx]
 have hI:=hI12.ext x14
 have hvr:=hvr12.ext x14
 have hvx:OwT aA w4.heap.size w14 vx _:=OwK.ext hvx (X12.trans x14)
 have X14:Ext w w14:=(((X3.trans x4).trans x5).trans X12).trans x14
 clear hm1 hm2 hr1 hfr
 have hnr:∀ {r':Nat},¬ r' = 10 → x.i.rule = r' → aJ x.i.left x.i.right r' x.i.main = (RG.map Prod.snd,true):=fun h1 h2=>by
  rcases hrule with ⟨h,_⟩ | ⟨_,_,_,h⟩
  ·omega
  ·rw [← h2];exact h
 have hsmv:∀ n,n ≤ 12 → (Tm.var n).raw.length ≤ 200 ∧ numLe 1000 (Tm.var n):=fun n hn=>⟨by rw [rQ];exact (show 1 ≤ 200 by decide),fun nd hnd=>by rw [Tm.nodes,List.mem_singleton] at hnd;rw [hnd];show n ≤ 1000;omega⟩
 have hxv:x.i.main ∈ x.i.left → RdT w14 vx (Tm.var (posT x.i.left x.i.main)).raw:=fun h=>by
  rw [rQ]
  rw [if_pos h] at hvx
  exact hvx.sl
 refine iFa (iLdB hI.b3 (i:=0) (v:=.int .i64 (x.i.rule:Int)) rfl (iEq (iCndP (fun h1=>?_) (fun h1=>?_))))
 ·have hr1:x.i.rule = 1:=by omega
  have hin:=inv1 (hnr (by decide) hr1)
  refine iFa (iLdB hI.b3 (i:=3) (v:=sv x.i.right) rfl ?_)
  refine (iClo rfl ((iM (t:=x.i.right) hI.b3 hI.left).mono ?_))
  rintro r w16 ⟨x16,hr16⟩
  rw [if_pos hin] at hr16
  refine ⟨X14.trans x16,?_⟩
  rw [show termI x.i (RG.map Prod.snd) T = .var (posT x.i.left x.i.right) from WO hr1,rQ]
  exact OwK.mono hr16 X14.size
 refine iEq (iCndP (fun h2=>?_) (fun h2=>?_))
 ·have hr2:x.i.rule = 2:=by omega
  have hin:=inv2 (hnr (by decide) hr2)
  refine iFa (iLdB hI.b3 (i:=3) (v:=sv x.i.right) rfl ?_)
  intro w17 x17
  have hI17:=hI.ext x17
  refine (iClo rfl ((iM (t:=Fm.fls.body) hI17.b3 hI17.left).mono ?_))
  rintro vF w18 ⟨x18,hF⟩
  rw [if_pos hin] at hF
  refine ⟨x18,fun w19 x19=>?_⟩
  have hFr:RdT w18 vF (Tm.var (posT x.i.left Fm.fls.body)).raw:=by rw [rQ];exact hF.sl
  refine iBs1 rfl (bU hFr) fun b w20 hb x20 hB20=>⟨x20,fun w21 x21=>?_⟩
  obtain ⟨k1,k2⟩:=KidsW.one (hB20.ext x21) (SlK.ext hFr ((x19.trans x20).trans x21))
  refine iCall ((dE k1 k2 (by simp [sumT,rQ])).mono ?_)
  rintro r w22 ⟨x22,hr22⟩
  intro w23 x23
  refine ⟨((((((X14.trans x17).trans x18).trans x19).trans x20).trans x21).trans x22).trans x23,?_⟩
  rw [show termI x.i (RG.map Prod.snd) T = .abort x.i.right (.var (posT x.i.left Fm.fls.body)) from WQ hr2]
  exact OwK.mono (OwK.ext hr22 x23) (((((X14.trans x17).trans x18).trans x19).trans x20).trans x21).size
 have gz:∀ {g:Sq} {l:List Sq},RG.map Prod.snd = g :: l → 0 < RG.length ∧ (gt RG 0).2 = g:=fun {g l} e=>by
  have hl:=congrArg List.length e
  rw [List.length_map,List.length_cons] at hl
  have h0:0 < RG.length:=by omega
  exact ⟨h0,by rw [← d7 (f:=Prod.snd) h0,e];rfl⟩
 have gz1:∀ {g g':Sq} {l:List Sq},RG.map Prod.snd = g :: g' :: l → 1 < RG.length ∧ (gt RG 1).2 = g':=fun {g g' l} e=>by
  have hl:=congrArg List.length e
  rw [List.length_map,List.length_cons,List.length_cons] at hl
  have h0:1 < RG.length:=by omega
  exact ⟨h0,by rw [← d7 (f:=Prod.snd) h0,e];rfl⟩
 have kid:∀ {w':World} {k:Nat} {K:Value → Prop},Ext w14 w' → k < RG.length → (∀ u,RdT w14 u (gt T k).raw → K u) → xLd w' (ptr q5) fun v=>xIa 1 v (.int .i64 (k:Int)) fun p=>xLd w' p K:=fun {w' k K} x h hK=>by
  refine iLdB (hI.b5.ext x) (i:=0) (v:=v2) rfl ?_
  obtain ⟨u,e1,e2⟩:=hI.kids.2 k (by rw [hI.len];exact h)
  refine iIa (Sl.ext hI.row x) (by omega) (by have:=hI.kids.1;have:=hI.len;omega) fun p hp=>?_
  rw [Int.toNat_natCast,e1] at hp
  exact iLd hp (hK u e2)
 have hpz:∀ {t:Str},t ∈ x.i.left → posT x.i.left t ≤ 12:=fun h=>by have:=vB h;have:=hI.l13;omega
 have stE:∀ {w' w'':World} {b:Nat},Ext w14 w' → w14.heap.size ≤ b → Ch (fun c=>c = b) w' w'' → Ext w14 w'':=fun x1 hb hc=>x1.thenCh hc fun c e=>by omega
 refine iEq (iCndP (fun h3=>?_) (fun h3=>?_))
 ·have hr3:x.i.rule = 3:=by omega
  obtain ⟨hml,u,v,e,eG⟩:=inv3 (hnr (by decide) hr3)
  have hm:=hvm (hlp _ hml)
  rw [show (fT x.i.main).kids.map Fm.body = [u.body,v.body] by rw [e];rfl] at hm
  have hp:parK x.i.main 2 = some (u.body,v.body):=by unfold parK;rw [e];rfl
  obtain ⟨h0,hg0⟩:=gz eG
  have hX:=hxv hml
  have hXs:=hsmv _ (hpz hml)
  have et:=WS (G:=RG.map Prod.snd) (T:=T) hr3 hp
  generalize Tm.var (posT x.i.left x.i.main) = X at *
  have e5:(Tm.snd X).raw = ⟨5,0,[]⟩ :: [X].flatMap Tm.raw:=Tm.raw_kids _
  have e4:(Tm.fst X).raw = ⟨4,0,[]⟩ :: [X].flatMap Tm.raw:=Tm.raw_kids _
  have hz:sumT [X] ≤ 100000000:=by
   have:=hXs.1
   show X.raw.length + 0 ≤ _
   omega
  have tail3:∀ {w34:World} {b:Nat} {v60:Value},Ext w14 w34 → w14.heap.size ≤ b → eE v.body v60 w34 b → RdT w34 v60 (Tm.snd X).raw →
    ∃ D35:Nat → Prop,xIa 1 vm (.int .i64 0) fun v64=>xLd w34 v64 fun v65=>(∀ w36,Ch D35 w34 w36 → xLd w36 v64 fun u65=>u65 = v65) ∧ ∀ w37,Ext w34 w37 → xBs aF (Value.cells (.slice none 0 0)) 1 1 [(0,vx)] w37 fun v67 w38=>Ch D35 w37 w38 ∧ ∀ w39,Ext w38 w39 → callV Tryz.prog (.func (.func fX) #[] #[]) [.int .i64 4,.string ⟨#[]⟩,v67] w39 fun v68 w40=>Ch D35 w39 w40 ∧ ∀ w41,Ext w40 w41 → xOpU Tryz.prog (Instr.mapUpdate 151 (.map (some b)) v65 v68) w41 fun w42=>∀ w43,Ext w42 w43 → callV Tryz.prog (.func (.func a9) #[] #[ptr q3,ptr q5,ptr q4]) [.int .i64 0,.int .i64 0,.map (some b)] w43 fun r w'=>Ext w w' ∧ OwT aA w.heap.size w' r (termI x.i (RG.map Prod.snd) T).raw:=fun {w34 b v60} y34 hb hM h60=>by
   refine ⟨fun c=>w34.heap.size ≤ c,?_⟩
   refine iIaGs (L:=[u.body,v.body]) (j:=0) (hm.ext y34).sl rfl (by simp) ?_
   intro w37 x37
   refine iBs1 rfl (bU hX) fun c w38 _ x38 hB=>⟨x38.ch,fun w39 x39=>?_⟩
   have y39:=((y34.trans x37).trans x38).trans x39
   obtain ⟨k1,k2⟩:=KidsW.one (hB.ext x39) (SlK.ext hX y39)
   refine iCall ((dE k1 k2 hz).mono ?_)
   rintro v68 w40 ⟨x40,h68⟩
   refine ⟨x40.ch,fun w41 x41=>?_⟩
   have x3441:=(((x37.trans x38).trans x39).trans x40).trans x41
   have h68':RdT w41 v68 (Tm.fst X).raw:=by rw [e4];exact (OwK.ext h68 x41).sl
   refine UD (k:=aB) (e:=aF) (Q:=fun t z=>RdT w41 z (if t = u.body then Tm.fst X else Tm.snd X).raw) (hM.ext x3441) (by kernel_rfl) (by kernel_rfl) (by show RdT w41 v68 (if u.body = u.body then Tm.fst X else Tm.snd X).raw;rw [if_pos rfl];exact h68') (fun hne=>by rw [if_neg (fun e=>hne e.symm)];exact SlK.ext h60 x3441) fun w42 hM42 hc42=>?_
   intro w43 x43
   have y43:=(stE (y34.trans x3441) hb hc42).trans x43
   have hG43:GivT (fun t=>if t = u.body then Tm.fst X else Tm.snd X) [u.body,v.body] w43 b:=GivT.ext' (hM42.mono fun t z hz=>mO (hM.ext x3441).is hz hc42) x43
   refine (iClo rfl ((lE (k:=0) (more:=0) (hI.ext y43) h0 (by decide) rfl (fun a ha hna=>⟨b,_,rfl,?_,hG43⟩) (fun a=>?_)).mono ?_))
   ·rw [hg0] at ha
    rcases List.mem_append.1 (cP.1 ha) with ha | ha
    ·exact absurd ha hna
    ·exact ha
   ·show (if a = u.body then Tm.fst X else Tm.snd X).raw.length ≤ 900 ∧ numLe 1000 (if a = u.body then Tm.fst X else Tm.snd X)
    split
    ·exact DG (t:=.fst X) (fun k hk=>by rw [List.mem_singleton.1 hk];exact hXs) (Nat.zero_le _)
    ·exact DG (t:=.snd X) (fun k hk=>by rw [List.mem_singleton.1 hk];exact hXs) (Nat.zero_le _)
   ·rintro r w44 ⟨x44,hr⟩
    refine ⟨(X14.trans y43).trans x44,?_⟩
    rw [et,d7 h0]
    exact OwK.mono hr (X14.trans y43).size
  have rows5:∀ {w':World} {c:Nat} {K:Value → World → Prop},Ext w14 w' → Blk aF w' c [vx] → (∀ r w'',Ext w' w'' → RdT w'' r (Tm.snd X).raw → K r w'') → callV Tryz.prog (.func (.func fX) #[] #[]) [.int .i64 5,.string ⟨#[]⟩,.slice (some ⟨c,0,none⟩) 1 1] w' K:=fun {w' c K} y hB hK=>by
   obtain ⟨k1,k2⟩:=KidsW.one hB (SlK.ext hX y)
   refine iCall ((dE k1 k2 hz).mono ?_)
   rintro r w'' ⟨y',h⟩
   exact hK r w'' y' (by rw [e5];exact h.sl)
  refine ⟨fun c=>w14.heap.size ≤ c,?_⟩
  refine iIaGs (j:=1) hm.sl rfl (by simp) ?_
  intro w26 x26
  have z26:=x26.size
  refine ⟨?_,?_⟩
  ·refine fI fun b w27 hb x27 hM=>⟨x27.ch,fun w28 x28=>?_⟩
   refine iBs1 rfl (bU hX) fun c w29 _ x29 hB=>⟨x29.ch,fun w30 x30=>?_⟩
   have y30:=(((x26.trans x27).trans x28).trans x29).trans x30
   refine rows5 y30 (hB.ext x30) fun v60 w31 x31 h60=>⟨x31.ch,fun w32 x32=>?_⟩
   have hM32:=hM.ext ((((x28.trans x29).trans x30).trans x31).trans x32)
   refine lQ (k:=aB) (e:=aF) hM32 (by kernel_rfl) (by kernel_rfl) fun w33 hM33 hc33 w34 x34=>?_
   exact tail3 ((stE ((y30.trans x31).trans x32) (by omega) hc33).trans x34) (by omega) (hM33.ext x34) (SlK.ext (mO hM32.is (SlK.ext h60 x32) hc33) x34)
  ·refine iBs1 rfl (bU hX) fun c w45 _ x45 hB=>⟨x45.ch,fun w46 x46=>?_⟩
   have y46:=(x26.trans x45).trans x46
   have z46:=y46.size
   refine ⟨?_,?_⟩
   ·refine fI fun b w47 hb x47 hM=>⟨x47.ch,fun w48 x48=>?_⟩
    have x4648:=x47.trans x48
    refine rows5 (y46.trans x4648) ((hB.ext x46).ext x4648) fun v60 w49 x49 h60=>⟨x49.ch,fun w50 x50=>?_⟩
    have hM50:=hM.ext ((x48.trans x49).trans x50)
    refine lQ (k:=aB) (e:=aF) hM50 (by kernel_rfl) (by kernel_rfl) fun w51 hM51 hc51 w52 x52=>?_
    exact tail3 ((stE (((y46.trans x4648).trans x49).trans x50) (by omega) hc51).trans x52) (by omega) (hM51.ext x52) (SlK.ext (mO hM50.is (SlK.ext h60 x50) hc51) x52)
   ·refine rows5 y46 (hB.ext x46) fun v60 w63 x63 h60=>⟨x63.ch,fun w64 x64=>?_⟩
    have y64:=(y46.trans x63).trans x64
    have z64:=y64.size
    refine fI fun b w65 hb x65 hM=>⟨x65.ch,fun w66 x66=>?_⟩
    have hM66:=hM.ext x66
    refine lQ (k:=aB) (e:=aF) hM66 (by kernel_rfl) (by kernel_rfl) fun w67 hM67 hc67 w68 x68=>?_
    exact tail3 ((stE ((y64.trans x65).trans x66) (by omega) hc67).trans x68) (by omega) (hM67.ext x68) (SlK.ext (mO hM66.is (SlK.ext h60 ((x64.trans x65).trans x66)) hc67) x68)
 refine iEq (iCndP (fun h4=>?_) (fun h4=>?_))
 ·have hr4:x.i.rule = 4:=by omega
  obtain ⟨u,v,e,eG⟩:=inv4 (hnr (by decide) hr4)
  have hl2:T.length = 2:=by
   rw [hI.len]
   have:=congrArg List.length eG
   rw [List.length_map] at this
   exact this
  have eT:T = [gt T 0,gt T 1]:=by
   match T,hl2 with
   | [a,b],_=>rfl
  refine iLdB hI.b5 (i:=0) (v:=v2) rfl ?_
  refine iCall ((dE hI.row hI.kids (Nat.le_trans (M5 fun k hk=>(hI.t60 k hk).1) (by rw [hl2];decide))).mono ?_)
  rintro r w71 ⟨x71,h71⟩
  refine ⟨X14.trans x71,?_⟩
  rw [WH hr4,Tm.raw_kids]
  rw [eT] at h71
  exact OwK.mono h71 X14.size
 refine iEq (iCndP (fun h5=>?_) (fun h5=>?_))
 ·have hr5:x.i.rule = 5:=by omega
  obtain ⟨hml,u,v,e,eG⟩:=inv5 (hnr (by decide) hr5)
  have hm:=hvm (hlp _ hml)
  rw [show (fT x.i.main).kids.map Fm.body = [u.body,v.body] by rw [e];rfl] at hm
  obtain ⟨h0,hg0⟩:=gz eG
  obtain ⟨h1,hg1⟩:=gz1 eG
  have hX:=hxv hml
  have hXs:=hsmv _ (hpz hml)
  have et:=V0 (G:=RG.map Prod.snd) (T:=T) hr5
  have hNs:=hsmv _ hI.l13
  rw [d7 h0,d7 h1] at et
  refine iCall ((eD _ w14).mono ?_)
  rintro z w80 ⟨x80,hz80⟩
  have hz80:RdT w80 z (Tm.var x.i.left.length).raw:=by rw [rQ];exact hz80.sl
  generalize Tm.var (posT x.i.left x.i.main) = X at *
  generalize Tm.var x.i.left.length = N at *
  have hF:RG.length = 2:=by
   have:=congrArg List.length eG
   rw [List.length_map] at this
   exact this
  refine ⟨fun c=>w80.heap.size ≤ c,?_⟩
  refine iIaGs (L:=[u.body,v.body]) (j:=0) (hm.ext x80).sl rfl (by simp) ?_
  refine iIaGs (L:=[u.body,v.body]) (j:=1) (hm.ext x80).sl rfl (by simp) ?_
  show ∀ w84,Ext w80 w84 → _
  have mkA:∀ {w':World} {B:Option (Nat × Bool)} {R:List (Value × List RT)} {K:Value → World → Prop},St5 w80 w' u.body v.body z none B R → (∀ b w3,St5 w80 w3 u.body v.body z (some (b,false)) B R → K (.map (some b)) w3) → xOp Tryz.prog (Instr.makeMap 151 none) w' fun r w''=>Ch (fun c=>w80.heap.size ≤ c) w' w'' ∧ ∀ w3,Ext w'' w3 → K r w3:=fun h hK=>
   fI fun b w'' hb y hM=>⟨y.ch,fun w3 y3=>hK b w3 ((h.mkA y hb hM).ext y3)⟩
  have mkB:∀ {w':World} {A:Option (Nat × Bool)} {R:List (Value × List RT)} {K:Value → World → Prop},St5 w80 w' u.body v.body z A none R → (∀ b w3,St5 w80 w3 u.body v.body z A (some (b,false)) R → K (.map (some b)) w3) → xOp Tryz.prog (Instr.makeMap 151 none) w' fun r w''=>Ch (fun c=>w80.heap.size ≤ c) w' w'' ∧ ∀ w3,Ext w'' w3 → K r w3:=fun h hK=>
   fI fun b w'' hb y hM=>⟨y.ch,fun w3 y3=>hK b w3 ((h.mkB y hb hM).ext y3)⟩
  have putA:∀ {w':World} {b:Nat} {B:Option (Nat × Bool)} {R:List (Value × List RT)} {K:World → Prop},St5 w80 w' u.body v.body z (some (b,false)) B R → (∀ w3,St5 w80 w3 u.body v.body z (some (b,true)) B R → K w3) → xOpU Tryz.prog (Instr.mapUpdate 151 (.map (some b)) (sv u.body) z) w' fun w''=>Ch (fun c=>w80.heap.size ≤ c) w' w'' ∧ ∀ w3,Ext w'' w3 → K w3:=fun {w' b B R K} h hK=>by
   obtain ⟨g1,-,g3,-⟩:=h.a b false rfl
   exact lQ (k:=aB) (e:=aF) (g3 rfl) (by kernel_rfl) (by kernel_rfl) fun w'' hM hc=>⟨hc.mono fun c e=>by omega,fun w3 y3=>hK w3 ((h.putA hM hc).ext y3)⟩
  have putB:∀ {w':World} {b:Nat} {A:Option (Nat × Bool)} {R:List (Value × List RT)} {K:World → Prop},St5 w80 w' u.body v.body z A (some (b,false)) R → (∀ w3,St5 w80 w3 u.body v.body z A (some (b,true)) R → K w3) → xOpU Tryz.prog (Instr.mapUpdate 151 (.map (some b)) (sv v.body) z) w' fun w''=>Ch (fun c=>w80.heap.size ≤ c) w' w'' ∧ ∀ w3,Ext w'' w3 → K w3:=fun {w' b A R K} h hK=>by
   obtain ⟨g1,-,g3,-⟩:=h.b b false rfl
   exact lQ (k:=aB) (e:=aF) (g3 rfl) (by kernel_rfl) (by kernel_rfl) fun w'' hM hc=>⟨hc.mono fun c e=>by omega,fun w3 y3=>hK w3 ((h.putB hM hc).ext y3)⟩
  have car:∀ {w':World} {b k:Nat} {t:Str},Ext w80 w' → k < RG.length → RdT w' z N.raw → eE t z w' b → (gt RG k).2 = (addT x.i.left t,x.i.right) → Cal Tryz.prog a9 #[.int .i64 (k:Int),.int .i64 ((1:Nat):Int),.map (some b),ptr q3,ptr q5,ptr q4] w' fun r w''=>Ext w' w'' ∧ OwT aA w'.heap.size w'' r (carry (gt RG k).2.1 x.i.left 1 (fun _=>N) (gt T k)).raw:=fun {w' b k t} y hk hz hM hg=>
   lE (hI.ext (x80.trans y)) hk (Nat.le_refl 1) rfl (fun a ha hna=>⟨b,[t],rfl,by
    rw [hg] at ha
    rw [(bB.1 ha).resolve_left hna];exact List.mem_singleton.2 rfl,hM.toT hz⟩) fun _=>⟨Nat.le_trans hNs.1 (by decide),hNs.2⟩
  have car0:∀ {w':World} {b:Nat} {B:Option (Nat × Bool)} {K:Value → World → Prop},St5 w80 w' u.body v.body z (some (b,true)) B [(z,N.raw)] → (∀ r w3,St5 w80 w3 u.body v.body z (some (b,true)) B [(r,(carry (gt RG 0).2.1 x.i.left 1 (fun _=>N) (gt T 0)).raw),(z,N.raw)] → K r w3) → callV Tryz.prog (.func (.func a9) #[] #[ptr q3,ptr q5,ptr q4]) [.int .i64 0,.int .i64 1,.map (some b)] w' fun r w''=>Ch (fun c=>w80.heap.size ≤ c) w' w'' ∧ ∀ w3,Ext w'' w3 → K r w3:=fun {w' b B K} h hK=>by
   obtain ⟨-,-,-,g4⟩:=h.a b true rfl
   refine iClo rfl ((car (k:=0) h.x h0 (h.r _ (List.mem_singleton.2 rfl)) (g4 rfl) hg0).mono ?_)
   rintro r w'' ⟨y,hr⟩
   exact ⟨y.ch,fun w3 y3=>hK r w3 (((h.ext y).row hr.sl).ext y3)⟩
  have fin:∀ {w':World} {b b':Nat} {r0:Value},St5 w80 w' u.body v.body z (some (b,true)) (some (b',true)) [(r0,(carry (gt RG 0).2.1 x.i.left 1 (fun _=>N) (gt T 0)).raw),(z,N.raw)] → callV Tryz.prog (.func (.func a9) #[] #[ptr q3,ptr q5,ptr q4]) [.int .i64 1,.int .i64 1,.map (some b')] w' fun v96 w90=>∀ w91,Ext w90 w91 → xBs aF (Value.cells (.slice none 0 0)) 1 3 [(0,vx),(1,r0),(2,v96)] w91 fun v97 w92=>∀ w93,Ext w92 w93 → callV Tryz.prog (.func (.func fX) #[] #[]) [.int .i64 8,.string ⟨#[]⟩,v97] w93 fun v98 w94=>∀ w95,Ext w94 w95 → Ext w w95 ∧ OwT aA w.heap.size w95 v98 (termI x.i (RG.map Prod.snd) T).raw:=fun {w' b b' r0} h=>by
   obtain ⟨-,-,-,g4⟩:=h.b b' true rfl
   have hz':=h.r (z,N.raw) (by simp)
   have hr0:=h.r (r0,(carry (gt RG 0).2.1 x.i.left 1 (fun _=>N) (gt T 0)).raw) (by simp)
   refine iClo rfl ((car (k:=1) h.x h1 hz' (g4 rfl) hg1).mono ?_)
   rintro r1 w90 ⟨y90,hr1⟩
   intro w91 y91
   have hr0':=SlK.ext hr0 (y90.trans y91)
   have hr1':=SlK.ext hr1.sl y91
   have Y91:=x80.trans (h.x.trans (y90.trans y91))
   refine iBs3 rfl (bU hX) (bU hr0') (bU hr1') fun c w92 _ y92 hB=>?_
   intro w93 y93
   have y9193:=y92.trans y93
   obtain ⟨k1,k2⟩:=KidsW.three (hB.ext y93) (SlK.ext hX (Y91.trans y9193)) (SlK.ext hr0' y9193) (SlK.ext hr1' y9193)
   have hcl:∀ k,k < RG.length → (carry (gt RG k).2.1 x.i.left 1 (fun _=>N) (gt T k)).raw.length ≤ 60 * 200:=fun k hk=>by
    have hkT:k < T.length:=by rw [hI.len];exact hk
    have h60:=(hI.t60 (gt T k) (by rw [gt_eq hkT];exact List.getElem_mem _)).1
    have:=dI (F:=carF (gt RG k).2.1 x.i.left 1 fun _=>N) (B:=200) (by decide) (fun a n=>by
     unfold carF
     split
     ·exact (show 1 ≤ 200 by decide)
     ·split
      ·exact (show 1 ≤ 200 by decide)
      ·rw [GL,← Tm.raw_len];exact hNs.1) (gt T k) (gt RG k).2.1.length
    rw [Tm.raw_len] at h60 ⊢
    exact Nat.le_trans this (Nat.mul_le_mul_right _ h60)
   refine iCall ((dE k1 k2 ?_).mono ?_)
   ·have a1:=hcl 0 h0
    have a2:=hcl 1 h1
    have a3:=hXs.1
    show X.raw.length + ((carry (gt RG 0).2.1 x.i.left 1 (fun _=>N) (gt T 0)).raw.length + ((carry (gt RG 1).2.1 x.i.left 1 (fun _=>N) (gt T 1)).raw.length + 0)) ≤ _
    omega
   ·rintro r w94 ⟨y94,hr⟩
    intro w95 y95
    refine ⟨(((X14.trans Y91).trans y9193).trans y94).trans y95,?_⟩
    rw [et,Tm.raw_kids]
    exact OwK.mono (OwK.ext hr y95) ((X14.trans Y91).trans y9193).size
  intro w84 x84
  have h:=St5.ext (s0:=u.body) (s1:=v.body) (z:=z) (A:=none) (B:=none) (R:=[(z,N.raw)]) ⟨Ext.refl w80,(fun b f e=>by cases e),(fun b f e=>by cases e),(fun b f b' f' e=>by cases e),fun p hp=>by rw [List.mem_singleton.1 hp];exact hz80⟩ x84
  refine ⟨mkA h fun b w1 h1=>⟨putA h1 fun w2 h2=>⟨car0 h2 fun r w3 h3=>mkB h3 fun b' w4 h4=>putB h4 fun w5 h5=>fin h5,mkB h2 fun b' w3 h3=>⟨car0 h3 fun r w4 h4=>putB h4 fun w5 h5=>fin h5,putB h3 fun w4 h4=>car0 h4 fun r w5 h5=>fin h5⟩⟩,mkB h1 fun b' w2 h2=>⟨putA h2 fun w3 h3=>⟨car0 h3 fun r w4 h4=>putB h4 fun w5 h5=>fin h5,putB h3 fun w4 h4=>car0 h4 fun r w5 h5=>fin h5⟩,putB h2 fun w3 h3=>putA h3 fun w4 h4=>car0 h4 fun r w5 h5=>fin h5⟩⟩,?_⟩
  exact mkB h fun b' w1 h1=>⟨mkA h1 fun b w2 h2=>⟨putA h2 fun w3 h3=>⟨car0 h3 fun r w4 h4=>putB h4 fun w5 h5=>fin h5,putB h3 fun w4 h4=>car0 h4 fun r w5 h5=>fin h5⟩,putB h2 fun w3 h3=>putA h3 fun w4 h4=>car0 h4 fun r w5 h5=>fin h5⟩,putB h1 fun w2 h2=>mkA h2 fun b w3 h3=>putA h3 fun w4 h4=>car0 h4 fun r w5 h5=>fin h5⟩
 refine iEq (iCndP (fun h6=>?_) (fun h6=>?_))
 ·have hr6:x.i.rule = 6:=by omega
  obtain ⟨u,v,e,eG⟩:=inv6 (hnr (by decide) hr6)
  rw [show (fT x.i.right).kids.map Fm.body = [u.body,v.body] by rw [e];rfl] at hvr
  have hp:parK x.i.right 3 = some (u.body,v.body):=by unfold parK;rw [e];rfl
  obtain ⟨h0,hg0⟩:=gz eG
  refine iIaG (L:=[u.body,v.body]) (j:=1) hvr.sl rfl (by simp) ?_
  refine kid (k:=0) (Ext.refl _) h0 fun t ht=>?_
  intro w200 x200
  refine iBs1 rfl (bU ht) fun c w201 _ x201 hB=>⟨x201,fun w202 x202=>?_⟩
  have y:=(x200.trans x201).trans x202
  obtain ⟨k1,k2⟩:=KidsW.one (hB.ext x202) (SlK.ext ht y)
  have hm0:gt T 0 ∈ T:=by rw [gt_eq (by rw [hI.len];exact h0)];exact List.getElem_mem _
  refine iCall ((dE k1 k2 (Nat.le_trans (M5 (B:=60) fun k hk=>by rw [List.mem_singleton.1 hk];exact (hI.t60 _ hm0).1) (by simp))).mono ?_)
  rintro r w203 ⟨x203,h203⟩
  intro w204 x204
  refine ⟨((X14.trans y).trans x203).trans x204,?_⟩
  rw [WE hr6 hp,Tm.raw_kids]
  exact OwK.mono (OwK.ext h203 x204) (X14.trans y).size
 refine iEq (iCndP (fun h7=>?_) (fun h7=>?_))
 ·have hr7:x.i.rule = 7:=by omega
  obtain ⟨u,v,e,eG⟩:=inv7 (hnr (by decide) hr7)
  rw [show (fT x.i.right).kids.map Fm.body = [u.body,v.body] by rw [e];rfl] at hvr
  have hp:parK x.i.right 3 = some (u.body,v.body):=by unfold parK;rw [e];rfl
  obtain ⟨h0,hg0⟩:=gz eG
  refine iIaG (L:=[u.body,v.body]) (j:=0) hvr.sl rfl (by simp) ?_
  refine kid (k:=0) (Ext.refl _) h0 fun t ht=>?_
  intro w200 x200
  refine iBs1 rfl (bU ht) fun c w201 _ x201 hB=>⟨x201,fun w202 x202=>?_⟩
  have y:=(x200.trans x201).trans x202
  obtain ⟨k1,k2⟩:=KidsW.one (hB.ext x202) (SlK.ext ht y)
  have hm0:gt T 0 ∈ T:=by rw [gt_eq (by rw [hI.len];exact h0)];exact List.getElem_mem _
  refine iCall ((dE k1 k2 (Nat.le_trans (M5 (B:=60) fun k hk=>by rw [List.mem_singleton.1 hk];exact (hI.t60 _ hm0).1) (by simp))).mono ?_)
  rintro r w203 ⟨x203,h203⟩
  intro w204 x204
  refine ⟨((X14.trans y).trans x203).trans x204,?_⟩
  rw [V5 hr7 hp,Tm.raw_kids]
  exact OwK.mono (OwK.ext h203 x204) (X14.trans y).size
 have car1:∀ {w':World} {b k more:Nat} {t:Str} {z:Value} {g:Tm} {K:Value → World → Prop},Ext w14 w' → eE t z w' b → RdT w' z g.raw → k < RG.length → more ≤ 1 → (∀ a ∈ (gt RG k).2.1,¬ a ∈ x.i.left → a = t) → (g.raw.length ≤ 900 ∧ numLe 1000 g) → (∀ r w'',Ext w' w'' → OwT aA w'.heap.size w'' r (carry (gt RG k).2.1 x.i.left more (fun _=>g) (gt T k)).raw → K r w'') → callV Tryz.prog (.func (.func a9) #[] #[ptr q3,ptr q5,ptr q4]) [.int .i64 (k:Int),.int .i64 (more:Int),.map (some b)] w' K:=fun {w' b k more t z g K} y hM hz hk hmo hg hs hK=>by
  refine iClo rfl ((lE (hI.ext y) hk hmo rfl (fun a ha hna=>⟨b,[t],rfl,by rw [hg a ha hna];exact List.mem_singleton.2 rfl,hM.toT hz⟩) (fun _=>hs)).mono ?_)
  rintro r w'' ⟨y',hr⟩
  exact hK r w'' y' hr
 have kidS:∀ {k:Nat} {K:Value → Prop},k < RG.length → (∀ u,RdT w14 u (gt T k).raw → K u) → xLd w14 (ptr q5) fun v=>(∀ w',Ch (fun c=>w14.heap.size ≤ c) w14 w' → xLd w' (ptr q5) fun u'=>u' = v) ∧ xIa 1 v (.int .i64 (k:Int)) fun p=>xLd w14 p fun u=>(∀ w',Ch (fun c=>w14.heap.size ≤ c) w14 w' → xLd w' p fun u'=>u' = u) ∧ K u:=fun {k K} h hK=>by
  have stb:∀ {w':World},Ch (fun c=>w14.heap.size ≤ c) w14 w' → Ext w14 w':=fun hc=>hc.toExt fun c hc=>hc
  refine iLdB hI.b5 (i:=0) (v:=v2) rfl ⟨fun w' h'=>iLdB (hI.b5.ext (stb h')) (i:=0) (v:=v2) rfl rfl,?_⟩
  obtain ⟨u,e1,e2⟩:=hI.kids.2 k (by rw [hI.len];exact h)
  refine iIa hI.row (by omega) (by have:=hI.kids.1;have:=hI.len;omega) fun p hp=>?_
  rw [Int.toNat_natCast,e1] at hp
  exact iLd hp ⟨fun w' h'=>iLd ((stb h').cell hp) rfl,hK u e2⟩
 have t60:∀ {k:Nat},k < RG.length → (gt T k).raw.length ≤ 60 ∧ numLe 99 (gt T k):=fun {k} hk=>hI.t60 _ (by rw [gt_eq (by rw [hI.len];exact hk)];exact List.getElem_mem _)
 have num9:∀ {t:Tm},numLe 99 t → numLe 1000 t:=fun h nd hn=>Nat.le_trans (h nd hn) (by decide)
 refine iEq (iCndP (fun h8=>?_) (fun h8=>?_))
 ·have hr8:x.i.rule = 8:=by omega
  obtain ⟨hml,u,v,e,eG⟩:=inv8 (hnr (by decide) hr8)
  have hm:=hvm (hlp _ hml)
  rw [show (fT x.i.main).kids.map Fm.body = [u.body,v.body] by rw [e];rfl] at hm
  obtain ⟨h0,hg0⟩:=gz eG
  obtain ⟨h1,hg1⟩:=gz1 eG
  have hX:=hxv hml
  have hXs:=hsmv _ (hpz hml)
  have et:=V1 (G:=RG.map Prod.snd) (T:=T) hr8
  rw [d7 h1] at et
  generalize Tm.var (posT x.i.left x.i.main) = X at *
  have t0:=t60 h0
  have hsm:(Tm.app X (gt T 0)).raw.length ≤ 900 ∧ numLe 1000 (Tm.app X (gt T 0)):=DG (fun k hk=>by
   have hk:k ∈ [X,gt T 0]:=hk
   rcases List.mem_cons.1 hk with rfl | hk
   ·exact hXs
   ·rw [List.mem_singleton.1 hk];exact ⟨by omega,num9 t0.2⟩) (Nat.zero_le _)
  refine ⟨fun c=>w14.heap.size ≤ c,?_⟩
  refine iIaGs (L:=[u.body,v.body]) (j:=1) hm.sl rfl (by simp) ?_
  refine kidS (k:=0) h0 fun t ht=>?_
  have app:∀ {w':World} {c:Nat} {K:Value → World → Prop},Ext w14 w' → Blk aF w' c [vx,t] → (∀ r w'',Ext w' w'' → RdT w'' r (Tm.app X (gt T 0)).raw → K r w'') → callV Tryz.prog (.func (.func fX) #[] #[]) [.int .i64 2,.string ⟨#[]⟩,.slice (some ⟨c,0,none⟩) 2 2] w' K:=fun {w' c K} y hB hK=>by
   obtain ⟨k1,k2⟩:=KidsW.two hB (SlK.ext hX y) (SlK.ext ht y)
   refine iCall ((dE k1 k2 (by
    have:=hXs.1
    have:=t0.1
    show X.raw.length + ((gt T 0).raw.length + 0) ≤ _
    omega)).mono ?_)
   rintro r w'' ⟨y',h⟩
   exact hK r w'' y' (by rw [Tm.raw_kids];exact h.sl)
  have tail8:∀ {w':World} {b:Nat} {z:Value},Ext w14 w' → w14.heap.size ≤ b → Map0 w' b → RdT w' z (Tm.app X (gt T 0)).raw → xOpU Tryz.prog (Instr.mapUpdate 151 (.map (some b)) (sv v.body) z) w' fun w''=>∀ w3,Ext w'' w3 → callV Tryz.prog (.func (.func a9) #[] #[ptr q3,ptr q5,ptr q4]) [.int .i64 1,.int .i64 0,.map (some b)] w3 fun r w4=>∀ w5,Ext w4 w5 → Ext w w5 ∧ OwT aA w.heap.size w5 r (termI x.i (RG.map Prod.snd) T).raw:=fun {w' b z} y hb hM hz=>by
   refine lQ (k:=aB) (e:=aF) hM (by kernel_rfl) (by kernel_rfl) fun w'' hM'' hc w3 y3=>?_
   have Y3:=(stE y hb hc).trans y3
   refine car1 (k:=1) (more:=0) Y3 (hM''.ext y3) (SlK.ext (mO hM.is hz hc) y3) h1 (by decide) (fun a ha hna=>by
    rw [hg1] at ha
    exact (bB.1 ha).resolve_left hna) hsm fun r w4 y4 hr=>?_
   intro w5 y5
   refine ⟨((X14.trans Y3).trans y4).trans y5,?_⟩
   rw [et]
   exact OwK.mono (OwK.ext hr y5) (X14.trans Y3).size
  intro w225 x225
  have z225:=x225.size
  refine ⟨?_,?_⟩
  ·refine fI fun b w27 hb x27 hM=>⟨x27.ch,fun w28 x28=>?_⟩
   refine iBs2 rfl (bU hX) (bU ht) fun c w29 _ x29 hB=>⟨x29.ch,fun w30 x30=>?_⟩
   have y30:=(((x225.trans x27).trans x28).trans x29).trans x30
   refine app y30 (hB.ext x30) fun z w31 x31 h60=>⟨x31.ch,fun w32 x32=>?_⟩
   exact tail8 ((y30.trans x31).trans x32) (by omega) (hM.ext ((((x28.trans x29).trans x30).trans x31).trans x32)) (SlK.ext h60 x32)
  ·refine iBs2 rfl (bU hX) (bU ht) fun c w45 _ x45 hB=>⟨x45.ch,fun w46 x46=>?_⟩
   have y46:=(x225.trans x45).trans x46
   have z46:=y46.size
   refine ⟨?_,?_⟩
   ·refine fI fun b w47 hb x47 hM=>⟨x47.ch,fun w48 x48=>?_⟩
    have x4648:=x47.trans x48
    refine app (y46.trans x4648) ((hB.ext x46).ext x4648) fun z w49 x49 h60=>⟨x49.ch,fun w50 x50=>?_⟩
    exact tail8 (((y46.trans x4648).trans x49).trans x50) (by omega) (hM.ext ((x48.trans x49).trans x50)) (SlK.ext h60 x50)
   ·refine app y46 (hB.ext x46) fun z w63 x63 h60=>⟨x63.ch,fun w64 x64=>?_⟩
    have y64:=(y46.trans x63).trans x64
    have z64:=y64.size
    refine fI fun b w65 hb x65 hM=>⟨x65.ch,fun w66 x66=>?_⟩
    exact tail8 ((y64.trans x65).trans x66) (by omega) (hM.ext x66) (SlK.ext h60 ((x64.trans x65).trans x66))
 refine iEq (iCndP (fun h9=>?_) (fun h9=>?_))
 ·have hr9:x.i.rule = 9:=by omega
  obtain ⟨u,v,e,eG⟩:=inv9 (hnr (by decide) hr9)
  rw [show (fT x.i.right).kids.map Fm.body = [u.body,v.body] by rw [e];rfl] at hvr
  have hp:parK x.i.right 4 = some (u.body,v.body):=by unfold parK;rw [e];rfl
  obtain ⟨h0,hg0⟩:=gz eG
  have et:=V9 (G:=RG.map Prod.snd) (T:=T) hr9 hp
  have hNs:=hsmv _ hI.l13
  rw [d7 h0] at et
  have t0:=t60 h0
  have mkN:∀ {w':World} {K:Value → World → Prop},(∀ r w'',Ext w' w'' → RdT w'' r (Tm.var x.i.left.length).raw → K r w'') → callV Tryz.prog (.func (.func lB) #[] #[]) [.int .i64 (x.i.left.length:Int)] w' K:=fun {w' K} hK=>by
   refine iCall ((eD _ w').mono ?_)
   rintro r w'' ⟨y,h⟩
   exact hK r w'' y (by rw [rQ];exact h.sl)
  generalize Tm.var x.i.left.length = N at *
  refine ⟨fun c=>w14.heap.size ≤ c,?_⟩
  refine iIaGs (L:=[u.body,v.body]) (j:=0) hvr.sl rfl (by simp) ?_
  refine iIaGs (L:=[u.body,v.body]) (j:=0) hvr.sl rfl (by simp) ?_
  have tail9:∀ {w':World} {b:Nat} {z:Value},Ext w14 w' → w14.heap.size ≤ b → Map0 w' b → RdT w' z N.raw → xOpU Tryz.prog (Instr.mapUpdate 151 (.map (some b)) (sv u.body) z) w' fun w''=>Ch (fun c=>w14.heap.size ≤ c) w' w'' ∧ ∀ w3,Ext w'' w3 → callV Tryz.prog (.func (.func a9) #[] #[ptr q3,ptr q5,ptr q4]) [.int .i64 0,.int .i64 1,.map (some b)] w3 fun r w4=>Ch (fun c=>w14.heap.size ≤ c) w3 w4 ∧ ∀ w5,Ext w4 w5 → xBs aF (Value.cells (.slice none 0 0)) 1 1 [(0,r)] w5 fun v148 w6=>Ch (fun c=>w14.heap.size ≤ c) w5 w6 ∧ ∀ w7,Ext w6 w7 → callV Tryz.prog (.func (.func fX) #[] #[]) [.int .i64 1,sv u.body,v148] w7 fun v149 w8=>∀ w9,Ext w8 w9 → Ext w w9 ∧ OwT aA w.heap.size w9 v149 (termI x.i (RG.map Prod.snd) T).raw:=fun {w' b z} y hb hM hz=>by
   refine lQ (k:=aB) (e:=aF) hM (by kernel_rfl) (by kernel_rfl) fun w'' hM'' hc=>⟨hc.mono fun c e=>by omega,fun w3 y3=>?_⟩
   have Y3:=(stE y hb hc).trans y3
   refine car1 (k:=0) (more:=1) Y3 (hM''.ext y3) (SlK.ext (mO hM.is hz hc) y3) h0 (by decide) (fun a ha hna=>by
    rw [hg0] at ha
    exact (bB.1 ha).resolve_left hna) ⟨Nat.le_trans hNs.1 (by decide),hNs.2⟩ fun r w4 y4 hr=>⟨y4.ch,fun w5 y5=>?_⟩
   have hr5:=SlK.ext hr.sl y5
   refine iBs1 rfl (bU hr5) fun c w6 _ y6 hB=>⟨y6.ch,fun w7 y7=>?_⟩
   obtain ⟨k1,k2⟩:=KidsW.one (hB.ext y7) (SlK.ext hr5 (y6.trans y7))
   refine iCall ((dE k1 k2 ?_).mono ?_)
   ·have:=dI (F:=carF (gt RG 0).2.1 x.i.left 1 fun _=>N) (B:=200) (by decide) (fun a n=>by
     unfold carF
     split
     ·exact (show 1 ≤ 200 by decide)
     ·split
      ·exact (show 1 ≤ 200 by decide)
      ·rw [GL,← Tm.raw_len];exact hNs.1) (gt T 0) (gt RG 0).2.1.length
    have h60:=t0.1
    rw [Tm.raw_len] at h60
    have h2:=Nat.mul_le_mul_right 200 h60
    show (carry (gt RG 0).2.1 x.i.left 1 (fun _=>N) (gt T 0)).raw.length + 0 ≤ _
    rw [Tm.raw_len]
    exact Nat.le_trans this (by omega)
   ·rintro r8 w8 ⟨y8,h8⟩
    intro w9 y9
    refine ⟨((((((X14.trans Y3).trans y4).trans y5).trans y6).trans y7).trans y8).trans y9,?_⟩
    rw [et,Tm.raw_kids]
    exact OwK.mono (OwK.ext h8 y9) (((((X14.trans Y3).trans y4).trans y5).trans y6).trans y7).size
  intro w257 x257
  have z257:=x257.size
  refine ⟨?_,?_⟩
  ·refine fI fun b w27 hb x27 hM=>⟨x27.ch,fun w28 x28=>?_⟩
   refine mkN fun z w29 x29 hz=>⟨x29.ch,fun w30 x30=>?_⟩
   exact tail9 ((((x257.trans x27).trans x28).trans x29).trans x30) (by omega) (hM.ext ((x28.trans x29).trans x30)) (SlK.ext hz x30)
  ·refine mkN fun z w29 x29 hz=>⟨x29.ch,fun w30 x30=>?_⟩
   have y30:=(x257.trans x29).trans x30
   have z30:=y30.size
   refine fI fun b w31 hb x31 hM=>⟨x31.ch,fun w32 x32=>?_⟩
   exact tail9 ((y30.trans x31).trans x32) (by omega) (hM.ext x32) (SlK.ext hz ((x30.trans x31).trans x32))
 refine iEq (iCndP (fun h10=>?_) (fun h10=>?_))
 ·have hr10:x.i.rule = 10:=by omega
  obtain ⟨g,eG,hsub⟩:∃ g,RG.map Prod.snd = [g] ∧ ∀ t ∈ g.1,t ∈ x.i.left:=by
   rcases hrule with ⟨_,_,g,h3,_,h5⟩ | ⟨_,_,h,_⟩
   ·exact ⟨g,h3,h5⟩
   ·exact absurd hr10 h
  obtain ⟨h0,hg0⟩:=gz eG
  refine (iClo rfl ((lE (k:=0) (more:=0) (vm:=.map none) (given:=fun _=>default) hI h0 (by decide) rfl (fun a ha hna=>absurd (hsub a (by rw [← hg0];exact ha)) hna) (fun _=>⟨Nat.le_trans (hsmv 0 (by decide)).1 (by decide),(hsmv 0 (by decide)).2⟩)).mono ?_))
  rintro r w44 ⟨x44,hr⟩
  refine ⟨X14.trans x44,?_⟩
  rw [VO hr10,d7 h0]
  exact OwK.mono hr X14.size
 have hr11:x.i.rule = 11:=by
  rcases hrule with ⟨h,_⟩ | ⟨g1,g2,g3,_⟩
  ·omega
  ·omega
 obtain ⟨hpa,eG⟩:=inv11 (hnr (by decide) hr11)
 obtain ⟨h0,hg0⟩:=gz eG
 obtain ⟨h1,hg1⟩:=gz1 eG
 have t0:=t60 h0
 refine ⟨fun c=>w14.heap.size ≤ c,?_⟩
 refine iFa (iLdB hI.b3 (i:=4) (v:=sv x.i.main) rfl ⟨fun w' h'=>iLdB (hI.b3.ext (h'.toExt fun c hc=>hc)) (i:=4) (v:=sv x.i.main) rfl rfl,?_⟩)
 refine kidS (k:=0) h0 fun t ht=>?_
 intro w287 x287
 have z287:=x287.size
 refine fI fun b w27 hb x27 hM=>⟨x27.ch,fun w28 x28=>?_⟩
 have y28:=(x287.trans x27).trans x28
 have hM28:=hM.ext x28
 refine lQ (k:=aB) (e:=aF) hM28 (by kernel_rfl) (by kernel_rfl) fun w'' hM'' hc w3 y3=>?_
 have Y3:=(stE y28 (by omega) hc).trans y3
 refine car1 (k:=1) (more:=0) (g:=gt T 0) Y3 (hM''.ext y3) (SlK.ext (mO hM28.is (SlK.ext ht y28) hc) y3) h1 (by decide) (fun a ha hna=>by
  rw [hg1] at ha
  exact (bB.1 ha).resolve_left hna) ⟨by omega,num9 t0.2⟩ fun r w4 y4 hr=>?_
 intro w5 y5
 refine ⟨((X14.trans Y3).trans y4).trans y5,?_⟩
 rw [VY hr11,d7 h1]
 exact OwK.mono (OwK.ext hr y5) (X14.trans Y3).size
end Go.Proofs.YtkjoppimpmojfaaGreat

namespace Go.Proofs.YtkjoppimpmojfaaGreat
open Go.Vc
theorem I6 {v v':Value} {L:List Str} {w:World} (hs:SlT w v L) (hs':SlT w v' L):Ret Tryz.prog eR #[v,v'] w (.bool true):=by
 have hln:=hs.len
 rw [aI] at hln
 apply jI;unfold eU
 refine aM hs (aM hs' ?_)
 refine iNe (iCndF (decide_eq_false fun h=>h rfl) ?_)
 refine aM hs ?_
 refine iLp (fun i:Nat=>[.int .i64 (i:Int)]) (fun i w'=>i ≤ L.length ∧ Ext w w') (fun i=>L.length - i) 0 rfl ⟨Nat.zero_le _,Ext.refl _⟩ ?_
 rintro i w2 Kn ⟨hi,x2⟩ hKn
 intro _
 simp only [gx]
 refine iLt (iCndP (fun h=>?_) (fun h=>⟨by first | trivial | rfl,x2⟩))
 have hil:i < L.length:=by omega
 refine iIaG (hs.ext x2) rfl hil ?_
 refine iIaG (hs'.ext x2) rfl hil ?_
 refine iNeT ?_
 intro w3 x3
 refine iCndF (decide_eq_false fun h=>h rfl) ?_
 refine iAdd (by omega) ?_
 exact hKn (i + 1) _ ⟨by omega,x2.trans x3⟩ (by omega)
theorem qK {t:Str} (h:PmT t) (w:World):Ret Tryz.prog iY #[sv t] w (.bool true):=by
 apply sI;unfold lL
 refine iJnB true w (fun J hJ=>?_) (fun w2 x2=>fun _=>⟨by first | trivial | rfl,x2⟩)
 refine iRet (CB t w) fun w3 x3=>?_
 rw [h.good]
 refine iCndT rfl ?_
 refine iCall ((bW t w3).mono ?_)
 rintro v w4 ⟨x4,hv,-⟩
 have hv:FmW w3.heap.size w4 v (fT t):=hv h.code
 refine iRet (yK hv.sl) fun w5 x5=>?_
 rw [h.gt.at.2.1]
 exact hJ _ ((x3.trans x4).trans x5)
theorem NY {v:Value} {L:List Str} {w:World} (hs:SlT w v L) (hi:Inc L) (hl:∀ t ∈ L,PmT t):Ret Tryz.prog EM #[v] w (.bool true):=by
 have hln:=hs.len
 rw [aI] at hln
 apply O1;unfold EX
 refine aM hs ?_
 refine iLp (fun i:Nat=>[.int .i64 (i:Int)]) (fun i w'=>i ≤ L.length ∧ Ext w w') (fun i=>L.length - i) 0 rfl ⟨Nat.zero_le _,Ext.refl _⟩ ?_
 rintro i w2 Kn ⟨hi2,x2⟩ hKn
 intro _
 simp only [gx]
 refine iLt (iCndP (fun h=>?_) (fun h=>⟨by first | trivial | rfl,x2⟩))
 have hil:i < L.length:=by omega
 refine iIaG (hs.ext x2) rfl hil ?_
 refine iJnB false w2 (fun J hJ=>?_) (fun w4 x4=>?_)
 ·refine iRet (qK (hl _ (by rw [gt_eq hil];exact List.getElem_mem _)) w2) fun w5 x5=>iNot (iCndF rfl ?_)
  refine iLt (iCndP (fun h0=>?_) (fun _=>hJ _ x5))
  have hi0:0 < i:=by omega
  refine iSub (by omega) ?_
  refine iIaG (j:=i - 1) (hs.ext (x2.trans x5)) (by omega) (by omega) ?_
  refine iGeT ?_
  have:=List.pairwise_iff_getElem.1 hi (i - 1) i (by omega) hil (by omega)
  rw [← gt_eq (show i - 1 < L.length by omega),← gt_eq hil] at this
  rw [this]
  exact hJ _ x5
 ·intro _
  simp only [gx]
  refine iCndF rfl (iAdd (by omega) ?_)
  exact hKn (i + 1) _ ⟨by omega,x2.trans x4⟩ (by omega)
theorem GS {v:Value} {L:List Str} {w:World} (hs:SlT w v L) (hi:Inc L) (hl:∀ t ∈ L,PmT t) (h12:L.length ≤ 12):Ret Tryz.prog tP #[v] w (.bool true):=by
 apply HO;unfold tR
 refine iJnB true w (fun J hJ=>?_) (fun w2 x2=>fun _=>⟨by first | trivial | rfl,x2⟩)
 refine aM hs ?_
 refine iLe (iCndT (decide_eq_true (by omega)) ?_)
 exact iRet (NY hs hi hl) fun w3 x3=>hJ _ x3
theorem HS {v:Value} {L:List Str} {r:Str} {w:World} (hs:SlT w v L) (hi:Inc L) (hl:∀ t ∈ L,PmT t) (h12:L.length ≤ 12) (hr:PmT r):Ret Tryz.prog wI #[v,sv r] w (.bool true):=by
 apply I7;unfold wL
 refine iJnB true w (fun J hJ=>?_) (fun w2 x2=>fun _=>⟨by first | trivial | rfl,x2⟩)
 refine iRet (GS hs hi hl h12) fun w3 x3=>iCndT rfl ?_
 exact iRet (qK hr w3) fun w4 x4=>hJ _ (x3.trans x4)
end Go.Proofs.YtkjoppimpmojfaaGreat


namespace Go.Vc
theorem P4 {a:Fm} (h:(a.kind:Int) = 2):∃ x y,a = .and x y:=by
 cases a <;> first | exact ⟨_,_,rfl⟩ | (simp [Fm.kind] at h)
theorem ME {a:Fm} (h:(a.kind:Int) = 3):∃ x y,a = .or x y:=by
 cases a <;> first | exact ⟨_,_,rfl⟩ | (simp [Fm.kind] at h)
theorem QA {a:Fm} (h:(a.kind:Int) = 4):∃ x y,a = .imp x y:=by
 cases a <;> first | exact ⟨_,_,rfl⟩ | (simp [Fm.kind] at h)
theorem both {p q:Prop} [Decidable p] [Decidable q] (h:(decide p && decide q) = true):p ∧ q:=by
 rw [Bool.and_eq_true,decide_eq_true_eq,decide_eq_true_eq] at h;exact h
theorem nboth {p q:Prop} [Decidable p] [Decidable q] (h:(decide p && decide q) = false):¬ (p ∧ q):=fun ⟨a,b⟩=>by
 rw [decide_eq_true a,decide_eq_true b] at h;cases h
theorem UR {L:List Str} {r:Str} {rule:Nat} {a:Fm} (h2:¬ ((rule:Int) = 3 ∧ (a.kind:Int) = 2)) (h3:¬ ((rule:Int) = 5 ∧ (a.kind:Int) = 3)) (h4:¬ ((rule:Int) = 8 ∧ (a.kind:Int) = 4)):leftG L r rule a = ([],false):=by
 cases a with
 | and x y=>exact if_neg fun e=>h2 ⟨by omega,rfl⟩
 | or x y=>exact if_neg fun e=>h3 ⟨by omega,rfl⟩
 | imp x y=>exact if_neg fun e=>h4 ⟨by omega,rfl⟩
 | _=>rfl
theorem SY {L:List Str} {rule:Nat} {a:Fm} (h2:¬ ((rule:Int) = 4 ∧ (a.kind:Int) = 2)) (h3:¬ ((rule:Int) = 6 ∧ (a.kind:Int) = 3)) (h5:¬ ((rule:Int) = 7 ∧ (a.kind:Int) = 3)) (h4:¬ ((rule:Int) = 9 ∧ (a.kind:Int) = 4)):bK L rule a = ([],false):=by
 cases a with
 | and x y=>exact if_neg fun e=>h2 ⟨by omega,rfl⟩
 | or x y=>exact (if_neg fun e=>h3 ⟨by omega,rfl⟩).trans (if_neg fun e=>h5 ⟨by omega,rfl⟩)
 | imp x y=>exact if_neg fun e=>h4 ⟨by omega,rfl⟩
 | _=>rfl
theorem TC {L:List Str} {r:Str} {rule:Nat} {a:Fm}:(leftG L r rule a).1.length ≤ 2:=by
 unfold leftG
 split <;> (try split) <;> simp
theorem SA {L:List Str} {rule:Nat} {a:Fm}:(bK L rule a).1.length ≤ 2:=by
 unfold bK
 split <;> (try split) <;> (try split) <;> simp
def seqI (x:Inf):Sq:=(x.left,x.right)
theorem T5 {L:List Str} {r main:Str} {rule:Nat}:(bI L r rule main).1.length ≤ 2:=by
 unfold bI
 split
 ·simp
 split
 ·simp
 split
 ·split
  ·exact TC
  ·simp
 ·exact SA
end Go.Vc
namespace Go.Proofs.YtkjoppimpmojfaaGreat
open Go.Vc
def GsW (w:World) (v:Value) (G:List Sq):Prop:=∃ R:List (Value × Sq),R.map Prod.snd = G ∧ OwK 2 0 bR w v R.length (cH R) ∧ ∀ x ∈ R,TxW 0 w x.1 x.2.1
theorem GsW.ext {w w':World} {v:Value} {G:List Sq} (h:GsW w v G) (x:Ext w w'):GsW w' v G:=by
 obtain ⟨R,h1,h2,h3⟩:=h
 exact ⟨R,h1,OwK.ext h2 x,fun y hy=>(h3 y hy).ext x⟩
theorem GsW.nil (w:World):GsW w (.slice none 0 0) []:=⟨[],rfl,OwK.nil 2 0 _ w,fun x hx=>by cases hx⟩
theorem GsW.one {w:World} {b:Nat} {v:Value} {L:List Str} {r:Str} (hB:Blk bR w b [v,sv r]) (hv:TxW 0 w v L):GsW w (.slice (some ⟨b,0,none⟩) 1 1) [(L,r)]:=
 ⟨[(v,(L,r))],rfl,OwK.ofBlk (n:=1) hB (Nat.zero_le _) rfl (by decide),fun x hx=>by rw [List.mem_singleton.1 hx];exact hv⟩
theorem GsW.two {w:World} {b:Nat} {v v':Value} {L L':List Str} {r r':Str} (hB:Blk bR w b [v,sv r,v',sv r']) (hv:TxW 0 w v L) (hv':TxW 0 w v' L'):GsW w (.slice (some ⟨b,0,none⟩) 2 2) [(L,r),(L',r')]:=
 ⟨[(v,(L,r)),(v',(L',r'))],rfl,OwK.ofBlk (n:=2) hB (Nat.zero_le _) rfl (by decide),fun x hx=>by
  rcases List.mem_cons.1 hx with rfl | hx
  ·exact hv
  ·rw [List.mem_singleton.1 hx];exact hv'⟩
theorem iRule {w:World} {va:Value} {a:Fm} {rule:Nat} (ha:FmS w va a) (k q:Int) {J:List Value → World → Prop} (h:J [.bool (decide ((rule:Int) = k) && decide ((a.kind:Int) = q))] w):
  xEq .i64 (.int .i64 (rule:Int)) (.int .i64 k) fun v13=>cnd v13 (xIa 2 va (.int .i64 0) fun v16=>xFa 0 v16 fun v17=>xLd w v17 fun v18=>xEq .i64 v18 (.int .i64 q) fun v19=>J [v19] w) (J [.bool false] w):=by
 refine iEq (iCndP (fun h1=>?_) (fun h1=>?_))
 ·refine iFld (f:=0) (j:=0) ha rfl a.size_pos (by decide) (fZ ha).1 (iEq ?_)
  rw [decide_eq_true h1,Bool.true_and] at h;exact h
 ·rw [decide_eq_false h1,Bool.false_and] at h;exact h
def GlQ (w:World) (g:List Sq × Bool):Value → World → Prop:=fun u w'=>Ext w w' ∧ ∃ x,u = .tuple #[x,.bool g.2] ∧ GsW w' x g.1
theorem GlQ.one {w w':World} {g:List Sq × Bool} {b:Nat} {u:Value} {L:List Str} {r:Str} (e:g = ([(L,r)],true)) (x:Ext w w') (hB:Blk bR w' b [u,sv r]) (hu:TxW 0 w' u L):GlQ w g (.tuple #[.slice (some ⟨b,0,none⟩) 1 1,.bool true]) w':=⟨x,_,by rw [e],by rw [e];exact GsW.one hB hu⟩
theorem GlQ.two {w w':World} {g:List Sq × Bool} {b:Nat} {u u':Value} {L L':List Str} {r r':Str} (e:g = ([(L,r),(L',r')],true)) (x:Ext w w') (hB:Blk bR w' b [u,sv r,u',sv r']) (hu:TxW 0 w' u L) (hu':TxW 0 w' u' L'):GlQ w g (.tuple #[.slice (some ⟨b,0,none⟩) 2 2,.bool true]) w':=⟨x,_,by rw [e],by rw [e];exact GsW.two hB hu hu'⟩
theorem GlQ.no {w w':World} {g:List Sq × Bool} (e:g = ([],false)) (x:Ext w w'):GlQ w g (.tuple #[.slice none 0 0,.bool false]) w':=⟨x,_,by rw [e],by rw [e];exact GsW.nil _⟩
theorem AF {v va:Value} {L:List Str} {r:Str} {a:Fm} {rule:Nat} {w:World} (hv:TxW 0 w v L) (ha:FmS w va a) (hg:a.good) (hn:a.size ≤ 1000) (hl:L.length ≤ 1000000000):
  Cal Tryz.prog oZ #[.agg #[v,sv r],.int .i64 (rule:Int),va] w (GlQ w (leftG L r rule a)):=by
 apply CI;unfold oR
 refine iNew2 fun q w1 hq x1 hB1=>?_
 refine iCall ((eK (SlK.ext ha x1) hg (by omega)).mono ?_)
 rintro p w2 ⟨x2,hp0⟩
 have X2:=x1.trans x2
 have hp:TxW 0 w2 p (a.kids.map Fm.body):=hp0.mono (Nat.zero_le _)
 have hB2:=hB1.ext x2
 have hv2:=hv.ext X2
 have ha2:FmS w2 va a:=SlK.ext ha X2
 refine iJnB (decide ((rule:Int) = 3) && decide ((a.kind:Int) = 2)) w2 (fun J hJ=>iRule ha2 3 2 (hJ _ (Ext.refl _))) fun w4 x4=>?_
 intro _
 simp only [gx]
 have X4:=X2.trans x4
 have wi:∀ {w':World} {lo:Nat} {vt:Value} {ts:List Str} {K:Value → World → Prop},Ext w2 w' → TxW lo w' vt ts → ts.length ≤ 2 → (∀ u w'',Ext w' w'' → TxW 0 w'' u (setT (L ++ ts)) → K (.agg #[u,sv r]) w'') → callV Tryz.prog (.func (.func kK) #[] #[]) [.agg #[v,sv r],vt] w' K:=fun {w' _ vt ts K} x ht h2 h=>by
  refine iCall ((nD (L:=L) (hv2.ext x) ht (by omega)).mono ?_)
  rintro _ w'' ⟨x',u,rfl,hu⟩
  exact h u w'' x' (hu.mono (Nat.zero_le _))
 refine iCnd (fun h=>?_) (fun h=>?_)
 ·obtain ⟨hr,hk⟩:=both h
  obtain ⟨x,y,rfl⟩:=P4 hk
  refine iLd2 (hB2.ext x4) ?_
  refine wi x4 (hp.ext x4) (by simp [Fm.kids]) fun u w5 x5 hu=>?_
  refine iBsA fun b w6 _ x6 hB6=>?_
  exact GlQ.one (if_pos (by omega)) ((X4.trans x5).trans x6) hB6 (hu.ext x6)
 have h3:=nboth h
 refine iJnB (decide ((rule:Int) = 5) && decide ((a.kind:Int) = 3)) w4 (fun J hJ=>iRule (SlK.ext ha2 x4) 5 3 (hJ _ (Ext.refl _))) fun w8 x8=>?_
 intro _
 simp only [gx]
 have x28:=x4.trans x8
 have X8:=X4.trans x8
 -- the parts
 have k0:∀ {w':World} {x y:Fm} {K:Value → Prop},a.kids = [x,y] → Ext w2 w' → K (sv x.body) → xIa 1 p (.int .i64 0) fun q=>xLd w' q K:=fun {w' x y K} e x' h=>iIaG (L:=a.kids.map Fm.body) (j:=0) (hp.ext x').sl rfl (by rw [e];simp) (by rw [e];exact h)
 have k1:∀ {w':World} {x y:Fm} {K:Value → Prop},a.kids = [x,y] → Ext w2 w' → K (sv y.body) → xIa 1 p (.int .i64 1) fun q=>xLd w' q K:=fun {w' x y K} e x' h=>iIaG (L:=a.kids.map Fm.body) (j:=1) (hp.ext x').sl rfl (by rw [e];simp) (by rw [e];exact h)
 refine iCnd (fun h=>?_) (fun h=>?_)
 ·obtain ⟨hr,hk⟩:=both h
  obtain ⟨x,y,e⟩:=ME hk
  have ek:a.kids = [x,y]:=by rw [e];rfl
  have eg:leftG L r rule a = ([(addT L x.body,r),(addT L y.body,r)],true):=by rw [e];exact if_pos (by omega)
  refine iLd2 (hB2.ext x28) (k0 ek x28 (iLd2 (hB2.ext x28) (k1 ek x28 ?_)))
  have fin:∀ {w' w9:World} {u u':Value},Ext w8 w' → TxW 0 w' u (addT L x.body) → TxW 0 w' u' (addT L y.body) → Ext w' w9 → xBs bR (Value.cells (.agg #[.slice none 0 0,.string ⟨#[]⟩])) 2 2 [(0,.agg #[u,sv r]),(1,.agg #[u',sv r])] w9 fun v47 w18=>∀ w19,Ext w18 w19 → GlQ w (leftG L r rule a) (.tuple #[v47,.bool true]) w19:=fun {w' w9 u u'} x' hu hu' x9=>by
   refine iBsA2 fun b w18 _ x18 hB18 w19 x19=>?_
   have xx:=(x9.trans x18).trans x19
   exact GlQ.two eg ((X8.trans x').trans xx) (hB18.ext x19) (hu.ext xx) (hu'.ext xx)
  intro w9 x9
  have one:∀ {w':World} {b:Nat} {t:Str},Blk aB w' b [sv t] → TxW 0 w' (.slice (some ⟨b,0,none⟩) 1 1) [t]:=fun hB=>Ow.ofBlk (n:=1) hB (Nat.zero_le _) rfl (by decide)
  refine ⟨?_,?_⟩
  ·refine iBs1 rfl rfl fun b w10 _ x10 hB=>⟨x10,fun w11 x11=>⟨?_,?_⟩⟩
   ·have X11:=(x9.trans x10).trans x11
    refine wi (x28.trans X11) (one (hB.ext x11)) (by simp) fun u w12 x12 hu=>⟨x12,fun w13 x13=>?_⟩
    refine iBs1 rfl rfl fun b' w14 _ x14 hB'=>⟨x14,fun w15 x15=>?_⟩
    have X15:=((x12.trans x13).trans x14).trans x15
    refine wi (x28.trans (X11.trans X15)) (one (hB'.ext x15)) (by simp) fun u' w16 x16 hu' w17 x17=>?_
    exact fin ((X11.trans X15).trans x16) (hu.ext (((x13.trans x14).trans x15).trans x16)) hu' x17
   ·have X11:=(x9.trans x10).trans x11
    refine iBs1 rfl rfl fun b' w14 _ x14 hB'=>⟨x14,fun w15 x15=>?_⟩
    have x1115:=x14.trans x15
    refine wi (x28.trans (X11.trans x1115)) (one (hB.ext (x11.trans x1115))) (by simp) fun u w16 x16 hu=>⟨x16,fun w17 x17=>?_⟩
    have x1517:=x16.trans x17
    refine wi (x28.trans (X11.trans (x1115.trans x1517))) (one (hB'.ext (x15.trans x1517))) (by simp) fun u' w18 x18 hu' w19 x19=>?_
    exact fin (X11.trans ((x1115.trans x1517).trans x18)) (hu.ext (x17.trans x18)) hu' x19
  ·refine iBs1 rfl rfl fun b' w10 _ x10 hB'=>⟨x10,fun w11 x11=>?_⟩
   refine iBs1 rfl rfl fun b w12 _ x12 hB=>⟨x12,fun w13 x13=>?_⟩
   have x1113:=x12.trans x13
   have X13:=((x9.trans x10).trans x11).trans x1113
   refine wi (x28.trans X13) (one (hB.ext x13)) (by simp) fun u w14 x14 hu=>⟨x14,fun w15 x15=>?_⟩
   have x1315:=x14.trans x15
   refine wi (x28.trans (X13.trans x1315)) (one (hB'.ext (x11.trans (x1113.trans x1315)))) (by simp) fun u' w16 x16 hu' w17 x17=>?_
   exact fin ((X13.trans x1315).trans x16) (hu.ext (x15.trans x16)) hu' x17
 have h5:=nboth h
 refine iJnB (decide ((rule:Int) = 8) && decide ((a.kind:Int) = 4)) w8 (fun J hJ=>iRule (SlK.ext ha2 x28) 8 4 (hJ _ (Ext.refl _))) fun w39 x39=>?_
 intro _
 simp only [gx]
 have x239:=x28.trans x39
 have X39:=X8.trans x39
 refine iCnd (fun h=>?_) (fun h=>?_)
 ·obtain ⟨hr,hk⟩:=both h
  obtain ⟨x,y,e⟩:=QA hk
  have ek:a.kids = [x,y]:=by rw [e];rfl
  have eg:leftG L r rule a = ([(L,x.body),(addT L y.body,r)],true):=by rw [e];exact if_pos (by omega)
  refine iLd2 (hB2.ext x239) (k0 ek x239 (iLd2 (hB2.ext x239) (k1 ek x239 ?_)))
  have fin:∀ {w' w9:World} {u':Value},Ext w39 w' → TxW 0 w' u' (addT L y.body) → Ext w' w9 → xBs bR (Value.cells (.agg #[.slice none 0 0,.string ⟨#[]⟩])) 2 2 [(0,.agg #[v,sv x.body]),(1,.agg #[u',sv r])] w9 fun v47 w18=>∀ w19,Ext w18 w19 → GlQ w (leftG L r rule a) (.tuple #[v47,.bool true]) w19:=fun {w' w9 u'} x' hu' x9=>by
   refine iBsA2 fun b w18 _ x18 hB18 w19 x19=>?_
   have xx:=(x9.trans x18).trans x19
   exact GlQ.two eg ((X39.trans x').trans xx) (hB18.ext x19) (hv.ext ((X39.trans x').trans xx)) (hu'.ext xx)
  intro w40 x40
  have one:∀ {w':World} {b:Nat} {t:Str},Blk aB w' b [sv t] → TxW 0 w' (.slice (some ⟨b,0,none⟩) 1 1) [t]:=fun hB=>Ow.ofBlk (n:=1) hB (Nat.zero_le _) rfl (by decide)
  refine ⟨?_,?_⟩
  ·refine iRet (bH hv.cell) fun w41 x41=>⟨x41,fun w42 x42=>?_⟩
   refine iBs1 rfl rfl fun b w43 _ x43 hB=>⟨x43,fun w44 x44=>?_⟩
   have XX:=(((x40.trans x41).trans x42).trans x43).trans x44
   refine wi (x239.trans XX) (one (hB.ext x44)) (by simp) fun u w45 x45 hu w46 x46=>?_
   exact fin (XX.trans x45) hu x46
  ·refine iBs1 rfl rfl fun b w43 _ x43 hB=>⟨x43,fun w44 x44=>?_⟩
   refine iRet (bH hv.cell) fun w41 x41=>⟨x41,fun w42 x42=>?_⟩
   have XX:=(((x40.trans x43).trans x44).trans x41).trans x42
   refine wi (x239.trans XX) (one (hB.ext ((x44.trans x41).trans x42))) (by simp) fun u w45 x45 hu w46 x46=>?_
   exact fin (XX.trans x45) hu x46
 ·exact GlQ.no (UR h3 h5 (nboth h)) X39
theorem xJ {v:Value} {L:List Str} {r:Str} {rule:Nat} {w:World} (hv:TxW 0 w v L) (hr:PmT r) (hl:L.length ≤ 1000000000):
  Cal Tryz.prog nN #[.agg #[v,sv r],.int .i64 (rule:Int)] w (GlQ w (bK L rule (fT r))):=by
 obtain ⟨hg,hpl,-⟩:=hr.gt.at
 have hn:=hr.size
 apply zY;unfold nQ
 refine iNew2 fun q w1 hq x1 hB1=>?_
 refine iFa (iLdB hB1 (i:=1) (v:=sv r) rfl ?_)
 refine iCall ((bW r w1).mono ?_)
 rintro va w2 ⟨x2,hva,-⟩
 have hva:FmW w1.heap.size w2 va (fT r):=hva hr.code
 have ha2:FmS w2 va (fT r):=hva.sl
 generalize fT r = a at *
 refine iCall ((eK ha2 hg (by omega)).mono ?_)
 rintro p w3 ⟨x3,hp0⟩
 have hp:TxW 0 w3 p (a.kids.map Fm.body):=hp0.mono (Nat.zero_le _)
 have X3:=(x1.trans x2).trans x3
 have hB3:=hB1.ext (x2.trans x3)
 have hv3:=hv.ext X3
 have ha3:FmS w3 va a:=SlK.ext ha2 x3
 have k0:∀ {w':World} {x y:Fm} {K:Value → Prop},a.kids = [x,y] → Ext w3 w' → K (sv x.body) → xIa 1 p (.int .i64 0) fun q=>xLd w' q K:=fun {w' x y K} e x' h=>iIaG (L:=a.kids.map Fm.body) (j:=0) (hp.ext x').sl rfl (by rw [e];simp) (by rw [e];exact h)
 have k1:∀ {w':World} {x y:Fm} {K:Value → Prop},a.kids = [x,y] → Ext w3 w' → K (sv y.body) → xIa 1 p (.int .i64 1) fun q=>xLd w' q K:=fun {w' x y K} e x' h=>iIaG (L:=a.kids.map Fm.body) (j:=1) (hp.ext x').sl rfl (by rw [e];simp) (by rw [e];exact h)
 refine iJnB (decide ((rule:Int) = 4) && decide ((a.kind:Int) = 2)) w3 (fun J hJ=>iRule ha3 4 2 (hJ _ (Ext.refl _))) fun w5 x5=>?_
 intro _
 simp only [gx]
 have X5:=X3.trans x5
 refine iCnd (fun h=>?_) (fun h=>?_)
 ·obtain ⟨hr,hk⟩:=both h
  obtain ⟨x,y,e⟩:=P4 hk
  have ek:a.kids = [x,y]:=by rw [e];rfl
  have eg:bK L rule a = ([(L,x.body),(L,y.body)],true):=by rw [e];exact if_pos (by omega)
  refine iLd2 (hB3.ext x5) (k0 ek x5 (iLd2 (hB3.ext x5) (k1 ek x5 ?_)))
  intro w6 x6
  refine iRet (bH hv.cell) fun w7 x7=>⟨x7,fun w8 x8=>?_⟩
  refine iRet (bH hv.cell) fun w9 x9=>fun w10 x10=>?_
  refine iBsA2 fun b w11 _ x11 hB11 w12 x12=>?_
  have XX:=(((((X5.trans x6).trans x7).trans x8).trans x9).trans x10).trans (x11.trans x12)
  exact GlQ.two eg XX (hB11.ext x12) (hv.ext XX) (hv.ext XX)
 have h2:=nboth h
 refine iJnB (decide ((rule:Int) = 6) && decide ((a.kind:Int) = 3)) w5 (fun J hJ=>iRule (SlK.ext ha3 x5) 6 3 (hJ _ (Ext.refl _))) fun w14 x14=>?_
 intro _
 simp only [gx]
 have x314:=x5.trans x14
 have X14:=X5.trans x14
 refine iCnd (fun h=>?_) (fun h=>?_)
 ·obtain ⟨hr,hk⟩:=both h
  obtain ⟨x,y,e⟩:=ME hk
  have ek:a.kids = [x,y]:=by rw [e];rfl
  have eg:bK L rule a = ([(L,x.body)],true):=by rw [e];exact if_pos (by omega)
  refine iLd2 (hB3.ext x314) (k0 ek x314 ?_)
  intro w15 x15
  refine iRet (bH hv.cell) fun w16 x16=>fun w17 x17=>?_
  refine iBsA fun b w18 _ x18 hB18 w19 x19=>?_
  have XX:=((X14.trans x15).trans (x16.trans x17)).trans (x18.trans x19)
  exact GlQ.one eg XX (hB18.ext x19) (hv.ext XX)
 have h3:=nboth h
 refine iJnB (decide ((rule:Int) = 7) && decide ((a.kind:Int) = 3)) w14 (fun J hJ=>iRule (SlK.ext ha3 x314) 7 3 (hJ _ (Ext.refl _))) fun w21 x21=>?_
 intro _
 simp only [gx]
 have x321:=x314.trans x21
 have X21:=X14.trans x21
 refine iCnd (fun h=>?_) (fun h=>?_)
 ·obtain ⟨hr,hk⟩:=both h
  obtain ⟨x,y,e⟩:=ME hk
  have ek:a.kids = [x,y]:=by rw [e];rfl
  have eg:bK L rule a = ([(L,y.body)],true):=by rw [e];exact (if_neg (by omega)).trans (if_pos (by omega))
  refine iLd2 (hB3.ext x321) (k1 ek x321 ?_)
  intro w15 x15
  refine iRet (bH hv.cell) fun w16 x16=>fun w17 x17=>?_
  refine iBsA fun b w18 _ x18 hB18 w19 x19=>?_
  have XX:=((X21.trans x15).trans (x16.trans x17)).trans (x18.trans x19)
  exact GlQ.one eg XX (hB18.ext x19) (hv.ext XX)
 have h5:=nboth h
 refine iJnB (decide ((rule:Int) = 9) && decide ((a.kind:Int) = 4)) w21 (fun J hJ=>iRule (SlK.ext ha3 x321) 9 4 (hJ _ (Ext.refl _))) fun w28 x28=>?_
 intro _
 simp only [gx]
 have x328:=x321.trans x28
 have X28:=X21.trans x28
 refine iCnd (fun h=>?_) (fun h=>?_)
 ·obtain ⟨hr,hk⟩:=both h
  obtain ⟨x,y,e⟩:=QA hk
  have ek:a.kids = [x,y]:=by rw [e];rfl
  have eg:bK L rule a = ([(addT L x.body,y.body)],true):=by rw [e];exact if_pos (by omega)
  refine iLd2 (hB3.ext x328) (k0 ek x328 (k1 ek x328 ?_))
  intro w29 x29
  refine iBs1 rfl rfl fun b w30 _ x30 hB=>⟨x30,fun w31 x31=>?_⟩
  have X31:=X28.trans (x29.trans (x30.trans x31))
  refine iCall ((nD (L:=L) (ts:=[x.body]) (lo':=0) (hv.ext X31) (Ow.ofBlk (n:=1) (hB.ext x31) (Nat.zero_le _) rfl (by decide)) (by simp;omega)).mono ?_)
  rintro _ w32 ⟨x32,u,rfl,hu⟩
  refine ⟨x32,fun w33 x33=>?_⟩
  refine iRet (bH hu.cell) fun w34 x34=>fun w35 x35=>?_
  refine iBsA fun b w36 _ x36 hB36 w37 x37=>?_
  have XX:=(x33.trans (x34.trans x35)).trans (x36.trans x37)
  exact GlQ.one eg ((X31.trans x32).trans XX) (hB36.ext x37) ((hu.ext XX).mono (Nat.zero_le _))
 ·exact GlQ.no (SY h2 h3 h5 (nboth h)) X28
theorem F3 {v:Value} {L:List Str} {r main:Str} {rule:Nat} {w:World} (hv:TxW 0 w v L) (hL:∀ t ∈ L,PmT t) (hr:PmT r) (hl:L.length ≤ 1000000000) (hrule:rule ≤ 9):
  Cal Tryz.prog jU #[.agg #[v,sv r],.int .i64 (rule:Int),sv main] w (GlQ w (bI L r rule main)):=by
 apply tX;unfold nA
 refine iNew2 fun q w1 hq x1 hB1=>?_
 have hv1:=hv.ext x1
 refine iEq (iCndP (fun h1=>?_) (fun h1=>?_))
 ·have eg:bI L r rule main = ([],decide (main = []) && decide (r ∈ L)):=if_pos (by omega)
  rw [eg]
  refine iJnX (fun xs w'=>xs = [.slice none 0 0,.bool (decide (main = []) && decide (r ∈ L))] ∧ Ext w1 w') (fun J hJ=>?_) ?_
  ·refine iEqT (b:=[]) (iCndP (fun h=>?_) (fun h=>?_))
   ·rw [decide_eq_true h,Bool.true_and] at hJ
    refine iFa (iLdB hB1 (i:=0) (v:=v) rfl ?_)
    refine iFa (iLdB hB1 (i:=1) (v:=sv r) rfl ?_)
    exact iRet (iA hv1.sl) fun w3 x3=>hJ _ _ ⟨rfl,x3⟩
   ·rw [decide_eq_false h,Bool.false_and] at hJ
    exact hJ _ _ ⟨rfl,Ext.refl _⟩
  rintro _ w3 ⟨rfl,x3⟩
  intro _
  exact ⟨x1.trans x3,_,rfl,GsW.nil _⟩
 refine iEq (iCndP (fun h2=>?_) (fun h2=>?_))
 ·have eg:bI L r rule main = ([],decide (main = []) && decide (Fm.fls.body ∈ L)):=(if_neg (by omega)).trans (if_pos (by omega))
  rw [eg]
  refine iJnX (fun xs w'=>xs = [.slice none 0 0,.bool (decide (main = []) && decide (Fm.fls.body ∈ L))] ∧ Ext w1 w') (fun J hJ=>?_) ?_
  ·refine iEqT (b:=[]) (iCndP (fun h=>?_) (fun h=>?_))
   ·rw [decide_eq_true h,Bool.true_and] at hJ
    refine iFa (iLdB hB1 (i:=0) (v:=v) rfl ?_)
    exact iRet (iA (t:=Fm.fls.body) hv1.sl) fun w3 x3=>hJ _ _ ⟨rfl,x3⟩
   ·rw [decide_eq_false h,Bool.false_and] at hJ
    exact hJ _ _ ⟨rfl,Ext.refl _⟩
  rintro _ w3 ⟨rfl,x3⟩
  intro _
  exact ⟨x1.trans x3,_,rfl,GsW.nil _⟩
 refine iEq ?_
 refine iJnB (decide (rule = 3 ∨ rule = 5 ∨ rule = 8)) w1 (fun J hJ=>?_) fun w9 x9=>?_
 ·refine iCndP (fun h=>?_) (fun h=>?_)
  ·rw [decide_eq_true (show rule = 3 ∨ rule = 5 ∨ rule = 8 by omega)] at hJ
   exact hJ _ (Ext.refl _)
  refine iEq (iJnB (decide (rule = 3 ∨ rule = 5 ∨ rule = 8)) w1 (fun J' hJ'=>?_) fun w11 x11=>fun _=>hJ _ x11)
  refine iCndP (fun h'=>?_) (fun h'=>iEq ?_)
  ·rw [decide_eq_true (show rule = 3 ∨ rule = 5 ∨ rule = 8 by omega)] at hJ'
   exact hJ' _ (Ext.refl _)
  ·have e:decide ((rule:Int) = 8) = decide (rule = 3 ∨ rule = 5 ∨ rule = 8):=decide_eq_decide.2 (by omega)
   rw [e];exact hJ' _ (Ext.refl _)
 intro _
 simp only [gx]
 have X9:=x1.trans x9
 have hB9:=hB1.ext x9
 refine iCndP (fun h3=>?_) (fun h3=>?_)
 ·have eg:bI L r rule main = if main ∈ L then leftG L r rule (fT main) else ([],false):=((if_neg (by omega)).trans (if_neg (by omega))).trans (if_pos h3)
  refine iFa (iLdB hB9 (i:=0) (v:=v) rfl ?_)
  refine iRet (iA (hv.ext X9).sl) fun w12 x12=>?_
  have X12:=X9.trans x12
  refine iNot (iCnd (fun h=>?_) (fun h=>?_))
  ·have h:¬ main ∈ L:=by simpa using h
   rw [if_neg h] at eg
   exact GlQ.no eg X12
  have h:main ∈ L:=by simpa using h
  rw [if_pos h] at eg
  have hm:=hL main h
  have hms:=hm.size
  rw [eg]
  refine iLd2 (hB9.ext x12) ?_
  intro w13 x13
  refine iCall ((bW main w13).mono ?_)
  rintro va w14 ⟨x14,hva,-⟩
  have hva:FmW w13.heap.size w14 va (fT main):=hva hm.code
  refine ⟨x14,fun w15 x15=>?_⟩
  have X15:=X12.trans (x13.trans (x14.trans x15))
  refine iCall ((AF (rule:=rule) (r:=r) (hv.ext X15) (SlK.ext hva.sl x15) hm.gt.at.1 (by omega) hl).mono ?_)
  rintro _ w16 ⟨x16,u,rfl,hu⟩
  refine iEx rfl (iEx rfl ?_)
  intro w17 x17
  exact ⟨(X15.trans x16).trans x17,u,rfl,hu.ext x17⟩
 have eg:bI L r rule main = ((bK L rule (fT r)).1,(bK L rule (fT r)).2 && decide (main = [])):=((if_neg (by omega)).trans (if_neg (by omega))).trans (if_neg h3)
 refine iEq (iCndF (decide_eq_false (by omega)) ?_)
 refine iLd2 hB9 ?_
 refine iCall ((xJ (rule:=rule) (hv.ext X9) hr hl).mono ?_)
 rintro _ w35 ⟨x35,u,rfl,hu⟩
 refine iEx rfl (iEx rfl ?_)
 rw [eg]
 generalize bK L rule (fT r) = g at *
 refine iJnX (fun xs w'=>xs = [u,.bool (g.2 && decide (main = []))] ∧ Ext w35 w') (fun J hJ=>?_) ?_
 ·refine iCnd (fun h=>?_) (fun h=>?_)
  ·rw [h,Bool.true_and] at hJ
   exact iEqT (b:=[]) (hJ _ _ ⟨rfl,Ext.refl _⟩)
  ·rw [h,Bool.false_and] at hJ
   exact hJ _ _ ⟨rfl,Ext.refl _⟩
 rintro _ w37 ⟨rfl,x37⟩
 intro _
 exact ⟨(X9.trans x35).trans x37,u,rfl,hu.ext x37⟩
theorem IR {v v':Value} {L:List Str} {r:Str} {w:World} (hv:TxW 0 w v L) (hv':TxW 0 w v' L):Ret Tryz.prog qD #[.agg #[v,sv r],.agg #[v',sv r]] w (.bool true):=by
 apply KU;unfold xU
 refine iNew2 fun q1 w1 hq1 x1 hB1=>?_
 refine iNew2 fun q2 w2 hq2 x2 hB2=>?_
 have X2:=x1.trans x2
 refine iJnB true w2 (fun J hJ=>?_) (fun w4 x4=>fun _=>⟨by first | trivial | rfl,X2.trans x4⟩)
 refine iFa (iLdB (hB1.ext x2) (i:=1) (v:=sv r) rfl ?_)
 refine iFa (iLdB hB2 (i:=1) (v:=sv r) rfl ?_)
 refine iEqT (iCndT (decide_eq_true rfl) ?_)
 refine iFa (iLdB (hB1.ext x2) (i:=0) (v:=v) rfl ?_)
 refine iFa (iLdB hB2 (i:=0) (v:=v') rfl ?_)
 exact iRet (I6 (hv.ext X2).sl (hv'.ext X2).sl) fun w5 x5=>hJ _ x5
theorem PI {v v':Value} {G:List Sq} {w:World} (hv:GsW w v G) (hv':GsW w v' G):Ret Tryz.prog bN #[v,v',.func (.func qD) #[] #[]] w (.bool true):=by
 obtain ⟨R,hR,hs,hL⟩:=hv
 obtain ⟨R',hR',hs',hL'⟩:=hv'
 have hl:R.length = G.length:=by rw [← hR,List.length_map]
 have hl':R'.length = G.length:=by rw [← hR',List.length_map]
 have hs:=hs.sl
 have hs':=hs'.sl
 have hln:=hs.len
 apply eI;unfold bM
 refine iLenK hs (iLenK hs' (iNe (iCndF (decide_eq_false fun h=>h (by omega)) ?_)))
 refine iLenK hs ?_
 refine iLp (fun i:Nat=>[.int .i64 (i:Int)]) (fun i w'=>i ≤ R.length ∧ Ext w w') (fun i=>R.length - i) 0 rfl ⟨Nat.zero_le _,Ext.refl _⟩ ?_
 rintro i w2 Kn ⟨hi,x2⟩ hKn
 intro _
 simp only [gx]
 refine iLt (iCndP (fun h=>?_) (fun h=>⟨by first | trivial | rfl,x2⟩))
 have hil:i < R.length:=by omega
 have hil':i < R'.length:=by omega
 have hm:gt R i ∈ R:=by rw [gt_eq hil];exact List.getElem_mem _
 have hm':gt R' i ∈ R':=by rw [gt_eq hil'];exact List.getElem_mem _
 have hsame:(gt R i).2 = (gt R' i).2:=by
  have h1:gt (R.map Prod.snd) i = (gt R i).2:=d7 hil
  have h2:gt (R'.map Prod.snd) i = (gt R' i).2:=d7 hil'
  rw [← h1,← h2,hR,hR']
 have ha:=(hL _ hm).ext x2
 have hb:=(hL' _ hm').ext x2
 refine iLdK (cs:=#[(gt R i).1,sv (gt R i).2.2]) (SlK.ext hs x2) rfl hil rfl (fun j hj=>?_) ?_
 ·rcases j with _ | _ | j
  ·exact (dA hil).1
  ·exact (dA hil).2
  ·omega
 refine iNew2 fun q3 w3 hq3 x3 hB3=>?_
 refine iSt2 hB3 rfl ha.cell rfl fun w4 hB4 hc4=>?_
 have x24:Ext w2 w4:=x3.thenCh hc4 fun c hc=>by omega
 refine iLdK (cs:=#[(gt R' i).1,sv (gt R' i).2.2]) (SlK.ext hs' (x2.trans x24)) rfl hil' rfl (fun j hj=>?_) ?_
 ·rcases j with _ | _ | j
  ·exact (dA hil').1
  ·exact (dA hil').2
  ·omega
 refine iNew2 fun q5 w5 hq5 x5 hB5=>?_
 refine iSt2 hB5 rfl hb.cell rfl fun w6 hB6 hc6=>?_
 have x46:Ext w4 w6:=x5.thenCh hc6 fun c hc=>by omega
 refine iLd2 (hB4.ext x46) (iLd2 hB6 ?_)
 have x26:=x24.trans x46
 rw [← hsame] at hb ⊢
 refine iRet (IR (ha.ext x26) (hb.ext x26)) fun w7 x7=>?_
 refine iNot (iCndF rfl (iAdd (by omega) ?_))
 exact hKn (i + 1) _ ⟨by omega,(x2.trans x26).trans x7⟩ (by omega)
end Go.Proofs.YtkjoppimpmojfaaGreat

namespace Go.Vc
theorem iIaAg {sz:Nat} {w0:World} {v:Value} {n:Nat} {xs:List Value} {cs:Array Value} {j:Nat} {k:IntKind} {K0:Value → Prop} (hs:SlK sz w0 v n xs) (h1:j < n) (hc:cs.size = sz) (hx:∀ i,i < sz → xs[j * sz + i]? = cs[i]?)
  (h:∀ p,(∀ (w':World) (K:Value → Prop),Ext w0 w' → K (.agg cs) → xLdA w' sz p K) → K0 p):xIa sz v (.int k (j:Int)) K0:=
 iIaK hs h1 fun b o hcell=>h _ fun w' K x hK=>by
  refine ⟨_,cs,rfl,hc,fun i hi=>?_,hK⟩
  rw [dB]
  have h2:=hcell i hi
  rw [hx i hi] at h2
  have h3:cs[i]? = some (cs[i]'(by omega)):=Array.getElem?_eq_getElem _
  rw [h3] at h2
  rw [x.cell h2,h3]
theorem iIaOf {w0:World} {v u:Value} {xs:List Value} {j:Nat} {k:IntKind} {K0:Value → Prop} (hs:Sl w0 v xs) (hu:xs[j]? = some u)
  (h:∀ p,(∀ (w':World) (K:Value → Prop),Ext w0 w' → K u → xLd w' p K) → K0 p):xIa 1 v (.int k (j:Int)) K0:=by
 have hj:j < xs.length:=(List.getElem?_eq_some_iff.1 hu).1
 refine iIa hs (by omega) (by omega) fun p hp=>h _ fun w' K x hK=>?_
 rw [Int.toNat_natCast,hu] at hp
 exact iLd (x.cell hp) hK
def TmsO (e:TypeId) (lo:Nat) (w:World) (vs:List Value) (ts:List Tm):Prop:=vs.length = ts.length ∧ ∀ j,j < ts.length → ∃ u,vs[j]? = some u ∧ OwT e lo w u (gt ts j).raw
theorem TmsO.ext {e:TypeId} {lo:Nat} {w w':World} {vs:List Value} {ts:List Tm} (h:TmsO e lo w vs ts) (x:Ext w w'):TmsO e lo w' vs ts:=⟨h.1,fun j hj=>let ⟨u,h1,h2⟩:=h.2 j hj;⟨u,h1,OwK.ext h2 x⟩⟩
theorem TmsO.ch {e e':TypeId} {lo lo':Nat} {w w':World} {vs xs:List Value} {ts:List Tm} {z:Value} (h:TmsO e lo w vs ts) (hz:Ow lo' e' w z xs) (hne:e ≠ e') (hc:Ch (fun c=>z.ownBlock = some c) w w'):TmsO e lo w' vs ts:=
 ⟨h.1,fun j hj=>let ⟨u,h1,h2⟩:=h.2 j hj;⟨u,h1,OwK.ch h2 hc fun _ hu hS=>absurd (ne_ty (OwK.ty h2 hu) (hz.ty hS)) hne⟩⟩
theorem QM {α:Type} [Inhabited α] {A:List α} {x:α} {j:Nat} (h:j < A.length):gt (A ++ [x]) j = gt A j:=by
 rw [gt_eq (by rw [List.length_append];omega),gt_eq h,List.getElem_append_left h]
theorem TmsO.snoc {e:TypeId} {lo:Nat} {w:World} {vs:List Value} {ts:List Tm} {u:Value} {t:Tm} (h:TmsO e lo w vs ts) (hu:OwT e lo w u t.raw):TmsO e lo w (vs ++ [u]) (ts ++ [t]):=by
 refine ⟨by rw [List.length_append,List.length_append,h.1];rfl,fun j hj=>?_⟩
 have hl:=h.1
 rw [List.length_append,List.length_singleton] at hj
 by_cases hjl:j < ts.length
 ·obtain ⟨a,h1,h2⟩:=h.2 j hjl
  refine ⟨a,by rw [List.getElem?_append_left (by omega)];exact h1,?_⟩
  rw [QM hjl];exact h2
 ·have:j = ts.length:=by omega
  subst this
  refine ⟨u,by rw [← hl,List.getElem?_append_right (Nat.le_refl _)];simp,?_⟩
  rw [BO];exact hu
theorem LE {M:List Inf} {i:Nat} (h:GoodC M i):(gt M i).prem.length ≤ 1000:=by
 rcases h.rule with ⟨_,_,q,a3,_,_⟩ | ⟨_,_,_,a4⟩
 ·rw [a3];exact (show 1 ≤ 1000 by decide)
 ·have hlen:(aJ (gt M i).left (gt M i).right (gt M i).rule (gt M i).main).1.length = (gt M i).prem.length:=by rw [a4,List.length_map]
  unfold aJ at hlen
  by_cases h11:(gt M i).rule = 11
  ·rw [if_pos h11] at hlen
   have:(2:Nat) = (gt M i).prem.length:=hlen
   omega
  ·rw [if_neg h11] at hlen
   have:=@T5 (gt M i).left (gt M i).right (gt M i).main (gt M i).rule
   omega
theorem KidsW.snoc {w:World} {vs:List Value} {ts:List Tm} {u:Value} {t:Tm} (h:KidsW w vs ts) (hu:RdT w u t.raw):KidsW w (vs ++ [u]) (ts ++ [t]):=by
 refine ⟨by rw [List.length_append,List.length_append,h.1];rfl,fun j hj=>?_⟩
 have hl:=h.1
 rw [List.length_append,List.length_singleton] at hj
 by_cases hjl:j < ts.length
 ·obtain ⟨a,h1,h2⟩:=h.2 j hjl
  refine ⟨a,by rw [List.getElem?_append_left (by omega)];exact h1,?_⟩
  rw [QM hjl];exact h2
 ·have:j = ts.length:=by omega
  subst this
  refine ⟨u,by rw [← hl,List.getElem?_append_right (Nat.le_refl _)];simp,?_⟩
  rw [BO];exact hu
end Go.Vc
namespace Go.Proofs.YtkjoppimpmojfaaGreat
open Go.Vc
theorem tY {v fv:Value} {L:List RT} {w:World} (hs:RdT w v L) (p:RT → Bool) (hf:∀ q ∈ L,∀ w',Ext w w' → callV Tryz.prog fv [.agg q.cs.toArray] w' fun u w''=>u = .bool (p q) ∧ Ext w' w''):
  Ret Tryz.prog cX #[v,fv] w (.bool (L.any p)):=by
 have hln:=hs.len
 apply gG;unfold cU
 refine iRet (v:=.int .i64 (match L.findIdx? p with | some i=>(i:Int) | none=>-1)) ?_ fun w1 x1=>iLe ⟨?_,x1⟩
 ·apply iB;unfold dC
  refine iLenK hs ?_
  refine iLp (fun i:Nat=>[.int .i64 (i:Int)]) (fun i w'=>i ≤ L.length ∧ Ext w w' ∧ ∀ x ∈ L.take i,p x = false) (fun i=>L.length - i) 0 rfl ⟨Nat.zero_le _,Ext.refl _,by simp⟩ ?_
  rintro i w2 Kn ⟨hi,h2,hno⟩ hKn
  intro _
  simp only [gx]
  refine iLt (iCndP (fun h=>?_) (fun h=>?_))
  ·have hil:i < L.length:=by omega
   refine iLdK (cs:=(gt L i).cs.toArray) (SlK.ext hs h2) rfl (by omega) rfl (fun f hf=>by rw [gI hil f hf];simp) ?_
   rw [gt_eq hil]
   refine (hf _ (List.getElem_mem hil) w2 h2).mono ?_
   rintro u w3 ⟨rfl,x3⟩
   cases hp:p L[i]
   ·refine iCndF (by first | rfl | exact hp) ?_
    refine iAdd (by omega) ?_
    refine hKn (i + 1) _ ⟨by omega,h2.trans x3,?_⟩ (by omega)
    rw [List.take_succ_eq_append_getElem hil]
    intro x hx
    rcases List.mem_append.1 hx with hx | hx
    ·exact hno x hx
    ·simp at hx;rw [hx];exact hp
   ·refine iCndT (by first | rfl | exact hp) ⟨?_,h2.trans x3⟩
    have:L.findIdx? p = some i:=List.findIdx?_eq_some_iff_getElem.2 ⟨hil,hp,fun j hj=>by
     have:=hno (L[j]'(by omega)) (List.mem_take_iff_getElem.2 ⟨j,by omega,rfl⟩)
     simp [this]⟩
    rw [this]
  ·refine ⟨?_,h2⟩
   rw [List.take_of_length_le (by omega)] at hno
   have:L.findIdx? p = none:=List.findIdx?_eq_none_iff.2 hno
   rw [this]
 ·cases hf:L.findIdx? p with
  | none=>
   have:=List.findIdx?_eq_none_iff.1 hf
   rw [show L.any p = false from List.any_eq_false.2 fun x hx=>by rw [this x hx];decide]
   rfl
  | some i=>
   obtain ⟨h1,h2,-⟩:=List.findIdx?_eq_some_iff_getElem.1 hf
   rw [show L.any p = true from List.any_eq_true.2 ⟨_,List.getElem_mem h1,h2⟩]
   show Value.bool (decide ((0:Int) ≤ (i:Int))) = _
   rw [decide_eq_true (by omega)]
theorem FP {v:Value} {t:Tm} {w:World} (hs:RdT w v t.raw):Cal Tryz.prog sW #[v] w fun r w'=>Ext w w' ∧ (r = .tuple #[.slice none 0 0,.int .i64 3] ∨ (r = .tuple #[v,.int .i64 0] ∧ t.raw.length ≤ 60 ∧ numLe 99 t)):=by
 apply F2;unfold sG
 refine iJnX (fun xs w'=>Ext w w' ∧ ∃ b,xs = [.bool b] ∧ (b = false → t.raw.length ≤ 60 ∧ numLe 99 t)) (fun J hJ=>?_) ?_
 ·refine iLenK hs (iLt (iCndP (fun h=>?_) (fun h=>?_)))
  ·exact hJ _ _ ⟨Ext.refl _,true,rfl,fun e=>by cases e⟩
  ·refine iRet (tY hs (fun q=>decide (99 < q.num)) fun q _ w' x'=>?_) fun w3 x3=>?_
   ·refine iRet (v:=.bool (decide (99 < q.num))) ?_ fun w5 x5=>⟨rfl,x5⟩
    apply DJ;unfold pH
    refine iNew3 fun p w1 hp x1 hB=>?_
    refine iFa (iLdB hB (i:=1) (v:=.int .i64 q.num) rfl (iLt ⟨rfl,x1⟩))
   ·refine hJ _ _ ⟨x3,_,rfl,fun e=>⟨by omega,fun nd hn=>?_⟩⟩
    have:=List.any_eq_false.1 e (rawN nd) (List.mem_map.2 ⟨nd,hn,rfl⟩)
    simp only [decide_eq_true_eq] at this
    have:¬ (99:Int) < (nd.num:Int):=this
    omega
 ·rintro _ w2 ⟨x2,b,rfl,hb⟩
  intro _
  simp only [gx]
  cases b with
  | true=>exact iCndT rfl ⟨x2,.inl (by first | trivial | rfl)⟩
  | false=>exact iCndF rfl ⟨x2,.inr ⟨by first | trivial | rfl,hb rfl⟩⟩
theorem eX {x:IV} {w:World} (hc:aD x.vl = true):Ret Tryz.prog oY #[.agg x.cs.toArray] w (.agg #[x.vl,sv x.i.right]):=by
 apply CO;unfold oO
 refine iNew5 fun q1 w1 hq1 x1 hB1=>?_
 refine iNew2 fun q2 w2 hq2 x2 hB2=>?_
 have hB1:=hB1.ext x2
 refine iFa (iLdB hB1 (i:=2) (v:=x.vl) rfl ?_)
 refine iFa (iLdB hB1 (i:=3) (v:=sv x.i.right) rfl ?_)
 refine cY hc rfl ?_
 refine iSt2 hB2 rfl hc rfl fun w8 hB8 hc8=>?_
 refine iLd2 hB8 ⟨rfl,(x1.trans x2).thenCh hc8 fun c hc=>by have:=x1.size;omega⟩
theorem HJ {v:Value} {R:List IV} {w:World} (h1:1 ≤ R.length) (hR:R.length ≤ 60) (hp:RdI w v R) (hg:∀ i,i < R.length → GoodC (R.map IV.i) i) (hl:∀ x ∈ R,x.i.left.length ≤ 12):
  Cal Tryz.prog wN #[v] w fun r w'=>Ext w w' ∧ (r = .tuple #[.slice none 0 0,.int .i64 3] ∨ ∃ u,r = .tuple #[u,.int .i64 0] ∧ OwT aA w.heap.size w' u (gt (aV (R.map IV.i) R.length) (R.length - 1)).raw ∧ (gt (aV (R.map IV.i) R.length) (R.length - 1)).raw.length ≤ 60 ∧ numLe 99 (gt (aV (R.map IV.i) R.length) (R.length - 1))):=by
 have hML:(R.map IV.i).length = R.length:=List.length_map _
 have hgi:∀ {j:Nat},j < R.length → gt (R.map IV.i) j = (gt R j).i:=fun hj=>d7 hj
 apply JI;unfold wG
 refine iLenK hp.row ?_
 refine iLp (fun s:Value × Nat=>[s.1,.int .i64 (s.2:Int)]) (fun s w'=>s.2 ≤ R.length ∧ Ext w w' ∧ ∃ vs,Ow w.heap.size aF w' s.1 vs ∧ TmsO aA w.heap.size w' vs (aV (R.map IV.i) s.2) ∧ ∀ t ∈ aV (R.map IV.i) s.2,t.raw.length ≤ 60 ∧ numLe 99 t) (fun s=>R.length - s.2) (.slice none 0 0,0) rfl ⟨Nat.zero_le _,Ext.refl _,[],Ow.nil _ _ _,⟨rfl,fun j hj=>absurd hj (Nat.not_lt_zero j)⟩,fun t ht=>by cases ht⟩ ?_
 rintro ⟨z,i⟩ w2 Kn ⟨hi,x2,vs,hz,hts,h60⟩ hKn
 have hi:i ≤ R.length:=hi
 have hz:Ow w.heap.size aF w2 z vs:=hz
 have hts:TmsO aA w.heap.size w2 vs (aV (R.map IV.i) i):=hts
 have h60:∀ t ∈ aV (R.map IV.i) i,t.raw.length ≤ 60 ∧ numLe 99 t:=h60
 have hti:=u7 (R.map IV.i) i
 have hvi:vs.length = i:=by rw [hts.1,hti]
 intro _
 simp only [gx]
 refine iLt (iCndP (fun hlt=>?_) (fun hlt=>?_))
 ·have hil:i < R.length:=by omega
  have hmem:∀ {j:Nat},j < R.length → gt R j ∈ R:=fun hj=>by rw [gt_eq hj];exact List.getElem_mem _
  have hm:=hmem hil
  have hp2:=hp.ext x2
  have hG:=hg i hil
  have hpl3:=LE hG
  have hrul:=hG.rule
  have hprm:=hG.prem
  have hrt:=hG.right
  have hlft:=hG.left
  rw [hgi hil] at hrul hprm hrt hlft hpl3
  refine iAt5 hp2.row rfl hil ?_
  refine iNew5 fun q3 w3 hq3 x3 hB3=>?_
  refine iStAB hB3 rfl rfl (fun y hy=>?_) fun w4 hu4 hB4=>?_
  ·simp only [IV.cs,List.mem_cons,List.not_mem_nil,or_false] at hy
   rcases hy with rfl | rfl | rfl | rfl | rfl
   ·rfl
   ·obtain ⟨a,c,e,_⟩:=hp2.prem _ hm
    rw [e];rfl
   ·obtain ⟨a,c,e,_⟩:=hp2.left _ hm
    rw [e];rfl
   ·rfl
   ·rfl
  have hB4:Blk aT w4 q3 (gt R i).cs:=hB4
  have x24:Ext w2 w4:=x3.upd hu4 (by omega)
  have X4:=x2.trans x24
  have hp4:=hp2.ext x24
  have hz4:=hz.ext x24
  have hts4:=hts.ext x24
  refine iFa (iLdB hB4 (i:=1) (v:=(gt R i).vp) rfl ?_)
  have hpr:=hp4.prem _ hm
  have hpl:(nats (gt R i).i.prem).length = (gt R i).i.prem.length:=eA _
  have hpm:=hpr.len
  rw [hpl] at hpm
  refine iLenI hpr ?_
  rw [hpl]
  refine iLp (fun s:Value × Value × Nat=>[s.1,s.2.1,.int .i64 (s.2.2:Int)]) (fun s w'=>s.2.2 ≤ (gt R i).i.prem.length ∧ Ext w4 w' ∧ ∃ us RG,Ow w4.heap.size aF w' s.1 us ∧ KidsW w4 us (((gt R i).i.prem.take s.2.2).map (gt (aV (R.map IV.i) i))) ∧ OwK 2 w4.heap.size bR w' s.2.1 RG.length (cH RG) ∧ RG.map Prod.snd = ((gt R i).i.prem.take s.2.2).map (seqAt (R.map IV.i)) ∧ ∀ y ∈ RG,SlT w4 y.1 y.2.1 ∧ y.2.1.length ≤ 100) (fun s=>(gt R i).i.prem.length - s.2.2) (.slice none 0 0,.slice none 0 0,0) rfl ⟨Nat.zero_le _,Ext.refl _,[],[],Ow.nil _ _ _,⟨rfl,fun j hj=>absurd hj (by simp)⟩,OwK.nil 2 _ _ _,rfl,fun y hy=>by cases hy⟩ ?_
  rintro ⟨p,g,k⟩ w6 Kn6 ⟨hk,x6,us,RG,hus,hku,hrg,hrs,hrl⟩ hKn6
  have hk:k ≤ (gt R i).i.prem.length:=hk
  have hus:Ow w4.heap.size aF w6 p us:=hus
  have hku:KidsW w4 us (((gt R i).i.prem.take k).map (gt (aV (R.map IV.i) i))):=hku
  have hrg:OwK 2 w4.heap.size bR w6 g RG.length (cH RG):=hrg
  have hrs:RG.map Prod.snd = ((gt R i).i.prem.take k).map (seqAt (R.map IV.i)):=hrs
  have hul:us.length = k:=by rw [hku.1,List.length_map,List.length_take];omega
  have hrgl:RG.length = k:=by
   have:=congrArg List.length hrs
   rw [List.length_map,List.length_map,List.length_take] at this
   omega
  intro _
  simp only [gx]
  refine iLt (iCndP (fun hlk=>?_) (fun hlk=>?_))
  ·have hkl:k < (gt R i).i.prem.length:=by omega
   have hq:gt (gt R i).i.prem k < i:=hprm _ (by rw [gt_eq hkl];exact List.getElem_mem _)
   refine iIaNN (l:=(gt R i).i.prem) (j:=k) (SlI.ext hpr x6) hkl fun pp hpp=>?_
   refine iLd (v:=.int .i64 ((gt (gt R i).i.prem k:Nat):Int)) hpp ?_
   generalize hqe:gt (gt R i).i.prem k = q at *
   refine ⟨fun c=>w4.heap.size ≤ c,?_⟩
   obtain ⟨u,hu1,hu2⟩:=hts4.2 q (by rw [hti];exact hq)
   have stb:∀ {w':World},Ch (fun c=>w4.heap.size ≤ c) w6 w' → Ext w4 w':=fun hc=>x6.thenCh hc fun c hc=>hc
   refine iIaOf hz4.sl hu1 fun p1 hp1=>hp1 _ _ x6 ⟨fun w8 h8=>hp1 _ _ (stb h8) rfl,?_⟩
   have hqR:q < R.length:=by omega
   refine iIaAg (cs:=(gt R q).cs.toArray) hp4.row hqR rfl (fun f hf=>by rw [dL hqR f hf];simp) fun p2 hp2'=>hp2' _ _ x6 ⟨fun w8 h8=>hp2' _ _ (stb h8) rfl,?_⟩
   intro w10 x10
   have hyl:=hp4.left _ (hmem hqR)
   have hyc:aD (gt R q).vl = true:=by
    obtain ⟨a,c,e,_⟩:=hyl
    rw [e];rfl
   refine iBs1 rfl (bU (OwK.sl hu2)) fun bb w11 _ x11 hB11=>⟨x11.ch,fun w12 x12=>?_⟩
   have x612:=(x10.trans x11).trans x12
   refine iAppA nB nG rfl (hus.ext x612) (Sl.ofBlk (n:=1) (hB11.ext x12) rfl (by decide)) (fun y hy=>by rw [List.mem_singleton.1 hy];exact bU (OwK.sl hu2)) (by rw [hul];simp;omega) (by rw [hul];simp;omega) (Nat.le_trans x6.size x612.size) fun p' w13 hus13 hg13 _=>?_
   have hch13:=dG (S:=fun k=>p.ownBlock = some k) hg13 fun k hk=>hk
   have hlo13:∀ c,p.ownBlock = some c → w4.heap.size ≤ c:=fun c hc=>(hus.blk c hc).1
   refine ⟨hch13.mono hlo13,fun w14 x14=>?_⟩
   have X13:Ext w4 w13:=(x6.trans x612).thenCh hch13 hlo13
   have hrg13:OwK 2 w4.heap.size bR w13 g RG.length (cH RG):=OwK.ch (OwK.ext hrg x612) hch13 fun c hc hS=>absurd (ne_ty (OwK.ty (OwK.ext hrg x612) hc) (Ow.ty (hus.ext x612) hS)) (by decide)
   refine iRet (eX (x:=gt R q) hyc) fun w15 x15=>?_
   intro w16 x16
   refine iBsA fun b2 w17 _ x17 hB17=>?_
   intro w18 x18
   have x1318:=(((x14.trans x15).trans x16).trans x17).trans x18
   refine iAppK GI GH rfl (by decide) (OwK.ext hrg13 x1318) (SlK.ofBlk (n:=1) (hB17.ext x18) rfl (by decide)) (fun y hy=>by
    simp only [List.mem_cons,List.not_mem_nil,or_false] at hy
    rcases hy with rfl | rfl
    ·exact hyc
    ·rfl) (by omega) (by omega) (Nat.le_trans X13.size x1318.size) fun g' w19 hg19 hgr19 _=>?_
   have hch19:=dG (S:=fun k=>g.ownBlock = some k) hgr19 fun k hk=>hk
   have X19:Ext w4 w19:=(X13.trans x1318).thenCh hch19 fun c hc=>(OwK.blk hrg c hc).1
   have hus19:Ow w4.heap.size aF w19 p' (us ++ [u]):=(hus13.ext x1318).ch hch19 fun c hc hS=>absurd (ne_ty ((hus13.ext x1318).ty hc) (OwK.ty (OwK.ext hrg13 x1318) hS)) (by decide)
   intro w20 x20
   refine iAdd (by omega) ?_
   have htk:(gt R i).i.prem.take (k + 1) = (gt R i).i.prem.take k ++ [q]:=by rw [List.take_succ_eq_append_getElem hkl,← gt_eq hkl,hqe]
   refine hKn6 (p',g',k + 1) _ ⟨hkl,X19.trans x20,us ++ [u],RG ++ [((gt R q).vl,((gt R q).i.left,(gt R q).i.right))],hus19.ext x20,?_,?_,?_,fun y hy=>?_⟩ (by show (gt R i).i.prem.length - (k + 1) < (gt R i).i.prem.length - k;omega)
   ·show KidsW w4 _ (((gt R i).i.prem.take (k + 1)).map _)
    rw [htk,List.map_append]
    exact hku.snoc (OwK.sl hu2)
   ·show OwK 2 _ _ _ g' _ _
    rw [C9,List.length_append]
    exact OwK.ext hg19 x20
   ·show _ = ((gt R i).i.prem.take (k + 1)).map _
    rw [htk,List.map_append,List.map_append,hrs]
    congr 1
    show [((gt R q).i.left,(gt R q).i.right)] = [seqAt (R.map IV.i) q]
    unfold seqAt
    rw [hgi hqR]
   ·rcases List.mem_append.1 hy with hy | hy
    ·exact hrl y hy
    ·rw [List.mem_singleton.1 hy]
     exact ⟨hyl,Nat.le_trans (hl _ (hmem hqR)) (by decide)⟩
  ·have hke:k = (gt R i).i.prem.length:=by omega
   rw [hke,List.take_length] at hku hrs
   have X6:=X4.trans x6
   refine iLdA (hB4.ext x6) rfl ?_
   have hTl:((gt R i).i.prem.map (gt (aV (R.map IV.i) i))).length = RG.length:=by
    rw [List.length_map]
    have:=congrArg List.length hrs
    rw [List.length_map,List.length_map] at this
    exact this.symm
   refine iCall ((AQ (x:=gt R i) (RG:=RG) (T:=(gt R i).i.prem.map (gt (aV (R.map IV.i) i))) (Sl.ext (hp4.left _ hm) x6) ⟨hrg.sl,fun y hy=>Sl.ext (hrl y hy).1 x6⟩ hus.sl (hku.ext x6) hTl (hl _ hm) (fun y hy=>(hrl y hy).2) (fun t ht=>?_) hrt hlft ?_).mono ?_)
   ·obtain ⟨q,hq,rfl⟩:=List.mem_map.1 ht
    have:=hprm q hq
    exact h60 _ (by rw [gt_eq (by rw [hti];exact this)];exact List.getElem_mem _)
   ·rcases hrul with ⟨a1,a2,q,a3,a4,a5⟩ | ⟨a1,a2,a3,a4⟩
    ·refine .inl ⟨a1,a2,seqAt (R.map IV.i) q,by rw [hrs,a3];rfl,a4,a5⟩
    ·exact .inr ⟨a1,a2,a3,by rw [hrs];exact a4⟩
   ·rintro r w21 ⟨x21,hr⟩
    have hnew:termI (gt R i).i (RG.map Prod.snd) ((gt R i).i.prem.map (gt (aV (R.map IV.i) i))) = gt (aV (R.map IV.i) (i + 1)) i:=by
     rw [u6,hgi hil,hrs]
    rw [hnew] at hr
    have hsucc:aV (R.map IV.i) (i + 1) = aV (R.map IV.i) i ++ [gt (aV (R.map IV.i) (i + 1)) i]:=by
     rw [u6];rfl
    refine iCall ((FP hr.sl).mono ?_)
    rintro _ w22 ⟨x22,rfl | ⟨rfl,hr60,hrn⟩⟩
    ·refine iE20 (iE21 (iNe (iCndT (by decide) ?_)))
     exact ⟨((X6.trans x21).trans x22),.inl rfl⟩
    ·refine iE20 (iE21 (iNe (iCndF (by decide) ?_)))
     have x422:=(x6.trans x21).trans x22
     have hz22:=hz4.ext x422
     have hts22:=hts4.ext x422
     have hr22:OwT aA w.heap.size w22 r _:=OwK.mono (OwK.ext hr x22) X6.size
     refine iBs1 rfl (bU hr22.sl) fun bb w23 _ x23 hB23=>?_
     refine iAppA nB nG rfl (hz22.ext x23) (Sl.ofBlk (n:=1) hB23 rfl (by decide)) (fun y hy=>by rw [List.mem_singleton.1 hy];exact bU hr22.sl) (by rw [hvi];simp;omega) (by rw [hvi];simp;omega) ((X4.trans x422).trans x23).size fun z' w24 hz24 hg24 _=>?_
     have hch24:=dG (S:=fun k=>z.ownBlock = some k) hg24 fun k hk=>hk
     have X24:Ext w w24:=((X4.trans x422).trans x23).thenCh hch24 fun c hc=>(hz.blk c hc).1
     have hts24:=(hts22.ext x23).ch (hz22.ext x23) (by decide) hch24
     have hr24:OwT aA w.heap.size w24 r _:=OwK.ch (OwK.ext hr22 x23) hch24 fun c hc hS=>absurd (ne_ty (OwK.ty (OwK.ext hr22 x23) hc) ((hz22.ext x23).ty hS)) (by decide)
     refine iAdd (by omega) ?_
     refine hKn (z',i + 1) _ ⟨hil,X24,vs ++ [r],hz24,?_,fun t ht=>?_⟩ (by show R.length - (i + 1) < R.length - i;omega)
     ·show TmsO _ _ _ _ (aV (R.map IV.i) (i + 1))
      rw [hsucc]
      exact hts24.snoc hr24
     ·have ht:t ∈ aV (R.map IV.i) (i + 1):=ht
      rw [hsucc] at ht
      rcases List.mem_append.1 ht with ht | ht
      ·exact h60 t ht
      ·rw [List.mem_singleton.1 ht];exact ⟨hr60,hrn⟩
 ·have hie:i = R.length:=by omega
  subst hie
  obtain ⟨u,hu1,hu2⟩:=hts.2 (R.length - 1) (by rw [hti];omega)
  refine iLenS hz.sl (iSub (by omega) ?_)
  rw [show (vs.length:Int) - 1 = ((R.length - 1:Nat):Int) by omega]
  refine iIaOf hz.sl hu1 fun p1 hp1=>hp1 _ _ (Ext.refl _) ?_
  refine ⟨x2,.inr ⟨u,rfl,hu2,h60 _ ?_⟩⟩
  rw [gt_eq (by rw [hti];omega)];exact List.getElem_mem _
end Go.Proofs.YtkjoppimpmojfaaGreat

namespace Go.Vc
theorem LU {G:List Str} {t:Tm} {r:Str} (h:Has G t r):(∀ x ∈ G,plT x = true) → plT r = true:=by
 induction h with
 | var hn=>intro hG;exact hG _ (by rw [gt_eq hn];exact List.getElem_mem _)
 | lam hc _ _ _=>intro _;exact hc
 | app hp _ _ ih1 _=>intro hG;exact (bV (ih1 hG) hp).2
 | pair hc _ _ _ _ _=>intro _;exact hc
 | fst hp _ ih=>intro hG;exact (bV (ih hG) hp).1
 | snd hp _ ih=>intro hG;exact (bV (ih hG) hp).2
 | left hc _ _ _=>intro _;exact hc
 | right hc _ _ _=>intro _;exact hc
 | case hp _ _ _ ih1 ih2 _=>
  intro hG
  have hc:=bV (ih1 hG) hp
  exact ih2 fun x hx=>by
   rcases List.mem_append.1 hx with hx | hx
   ·exact hG x hx
   ·rw [List.mem_singleton.1 hx];exact hc.1
 | abort hc _ _=>intro _;exact hc
theorem yL {k:Nat} (hk:k = 2 ∨ k = 3 ∨ k = 4) (a b:Fm):(mkK k a b).cells = nd k 0 ++ a.cells ++ b.cells:=by
 rcases hk with rfl | rfl | rfl <;> rfl
theorem aU (k:Nat) (a b:Fm):(mkK k a b).size = 1 + a.size + b.size:=by
 unfold mkK;split
 ·rfl
 ·split <;> rfl
theorem bC (k:Nat) {a b:Fm} (h:a.good) (h':b.good):(mkK k a b).good:=by
 unfold mkK;split
 ·exact ⟨h,h'⟩
 ·split <;> exact ⟨h,h'⟩
def NdT (n:TN) (tys:List Str) (r:Str):Prop:=
 (n.kind = 1 ∧ ∃ u,tys = [u] ∧ plT n.typ = true ∧ plT u = true ∧ joinT 4 n.typ u = some r) ∨
 (n.kind = 3 ∧ ∃ a b,tys = [a,b] ∧ plT a = true ∧ plT b = true ∧ joinT 2 a b = some r) ∨
 (n.kind = 6 ∧ ∃ a,tys = [a] ∧ plT n.typ = true ∧ plT a = true ∧ joinT 3 a n.typ = some r) ∨
 (n.kind = 7 ∧ ∃ a,tys = [a] ∧ plT n.typ = true ∧ plT a = true ∧ joinT 3 n.typ a = some r) ∨
 (n.kind = 9 ∧ tys = [Fm.fls.body] ∧ r = n.typ) ∨
 (n.kind = 2 ∧ ∃ c p,tys = [c,p.1] ∧ plT c = true ∧ parK c 4 = some p ∧ r = p.2) ∨
 ((n.kind = 4 ∨ n.kind = 5) ∧ ∃ c p,tys = [c] ∧ plT c = true ∧ parK c 2 = some p ∧ r = if n.kind = 4 then p.1 else p.2)
theorem S2 {G:List Str} {t:Tm} {r:Str} (h:Has G t r) (h0:¬ t.hd.kind = 0) (h8:¬ t.hd.kind = 8) (hG:∀ x ∈ G,plT x = true):
  ∃ tys,tys.length = t.kids.length ∧ (∀ j,j < t.kids.length → Has (if t.hd.kind = 1 then G ++ [t.hd.typ] else G) (gt t.kids j) (gt tys j)) ∧ NdT t.hd tys r ∧ (t.hd.kind = 1 → plT t.hd.typ = true) ∧ (∀ k ∈ t.kids,(if t.hd.kind = 1 then 1 else 0) + k.dp ≤ t.dp):=by
 have j0:∀ {j:Nat} {a:Tm},j < [a].length → j = 0:=fun h=>by simpa using h
 cases h with
 | var hn=>exact absurd rfl h0
 | @lam _ b _ p hc hp hb=>
  have hpl:=bV hc hp
  refine ⟨[p.2],rfl,fun j hj=>?_,.inl ⟨rfl,p.2,rfl,hpl.1,hpl.2,DZ (.inr (.inr rfl)) hc hp⟩,fun _=>hpl.1,fun k hk=>?_⟩
  ·rw [j0 hj];exact hb
  ·rw [List.mem_singleton.1 hk];exact Nat.le_refl _
 | @app _ f x c p hp hf hx=>
  refine ⟨[c,p.1],rfl,fun j hj=>?_,.inr (.inr (.inr (.inr (.inr (.inl ⟨rfl,c,p,rfl,LU hf hG,hp,rfl⟩))))),(fun e=>by cases e),fun k hk=>?_⟩
  ·rcases j with _ | _ | j
   ·exact hf
   ·exact hx
   ·simp [Tm.kids] at hj;omega
  ·simp only [Tm.kids,List.mem_cons,List.not_mem_nil,or_false] at hk
   show 0 + k.dp ≤ max f.dp x.dp
   rcases hk with rfl | rfl <;> omega
 | @pair _ a b _ p hc hp ha hb=>
  have hpl:=bV hc hp
  refine ⟨[p.1,p.2],rfl,fun j hj=>?_,.inr (.inl ⟨rfl,p.1,p.2,rfl,hpl.1,hpl.2,DZ (.inl rfl) hc hp⟩),(fun e=>by cases e),fun k hk=>?_⟩
  ·rcases j with _ | _ | j
   ·exact ha
   ·exact hb
   ·simp [Tm.kids] at hj;omega
  ·simp only [Tm.kids,List.mem_cons,List.not_mem_nil,or_false] at hk
   show 0 + k.dp ≤ max a.dp b.dp
   rcases hk with rfl | rfl <;> omega
 | @fst _ a c p hp ha=>
  refine ⟨[c],rfl,fun j hj=>?_,.inr (.inr (.inr (.inr (.inr (.inr ⟨.inl rfl,c,p,rfl,LU ha hG,hp,rfl⟩))))),(fun e=>by cases e),fun k hk=>?_⟩
  ·rw [j0 hj];exact ha
  ·rw [List.mem_singleton.1 hk];show 0 + a.dp ≤ a.dp;omega
 | @snd _ a c p hp ha=>
  refine ⟨[c],rfl,fun j hj=>?_,.inr (.inr (.inr (.inr (.inr (.inr ⟨.inr rfl,c,p,rfl,LU ha hG,hp,rfl⟩))))),(fun e=>by cases e),fun k hk=>?_⟩
  ·rw [j0 hj];exact ha
  ·rw [List.mem_singleton.1 hk];show 0 + a.dp ≤ a.dp;omega
 | @left _ a _ p hc hp ha=>
  have hpl:=bV hc hp
  refine ⟨[p.1],rfl,fun j hj=>?_,.inr (.inr (.inl ⟨rfl,p.1,rfl,hpl.2,hpl.1,DZ (.inr (.inl rfl)) hc hp⟩)),(fun e=>by cases e),fun k hk=>?_⟩
  ·rw [j0 hj];exact ha
  ·rw [List.mem_singleton.1 hk];show 0 + a.dp ≤ a.dp;omega
 | @right _ a _ p hc hp ha=>
  have hpl:=bV hc hp
  refine ⟨[p.2],rfl,fun j hj=>?_,.inr (.inr (.inr (.inl ⟨rfl,p.2,rfl,hpl.1,hpl.2,DZ (.inr (.inl rfl)) hc hp⟩))),(fun e=>by cases e),fun k hk=>?_⟩
  ·rw [j0 hj];exact ha
  ·rw [List.mem_singleton.1 hk];show 0 + a.dp ≤ a.dp;omega
 | case _ _ _ _=>exact absurd rfl h8
 | @abort _ a _ hc ha=>
  refine ⟨[Fm.fls.body],rfl,fun j hj=>?_,.inr (.inr (.inr (.inr (.inl ⟨rfl,rfl,rfl⟩)))),(fun e=>by cases e),fun k hk=>?_⟩
  ·rw [j0 hj];exact ha
  ·rw [List.mem_singleton.1 hk];show 0 + a.dp ≤ a.dp;omega
theorem U3 {G:List Str} {t:Tm} {r:Str} (h:Has G t r) (h8:t.hd.kind = 8):∃ a b b' c p,t = .case a b b' ∧ parK c 3 = some p ∧ Has G a c ∧ Has (G ++ [p.1]) b r ∧ Has (G ++ [p.2]) b' r:=by
 cases h with
 | case hp ha hb hb'=>exact ⟨_,_,_,_,_,rfl,hp,ha,hb,hb'⟩
 | _=>cases h8
theorem VK {G:List Str} {t:Tm} {r:Str} (h:Has G t r) (h0:t.hd.kind = 0):t.hd.num < G.length ∧ gt G t.hd.num = r:=by
 cases h with
 | var hn=>exact ⟨hn,rfl⟩
 | _=>cases h0
end Go.Vc
namespace Go.Proofs.YtkjoppimpmojfaaGreat
open Go.Vc
theorem G9 {k:Nat} (hk:k = 2 ∨ k = 3 ∨ k = 4) {a b r:Str} (ha:plT a = true) (hb:plT b = true) (hj:joinT k a b = some r) (w:World):Ret Tryz.prog oG #[.int .i64 (k:Int),sv a,sv b] w (.tuple #[sv r,.bool true]):=by
 obtain ⟨-,ga,-,-,ca⟩:=dY ha
 obtain ⟨-,gb,-,-,cb⟩:=dY hb
 unfold joinT at hj
 split at hj
 ·rename_i hs
  cases hj
  apply IM;unfold wE
  refine iCall ((bW a w).mono ?_)
  rintro va w1 ⟨x1,h1,-⟩
  have h1:FmW w.heap.size w1 va (fT a):=h1 ca
  refine iCall ((bW b w1).mono ?_)
  rintro vb w2 ⟨x2,h2,-⟩
  have h2:FmW w1.heap.size w2 vb (fT b):=h2 cb
  refine iCall ((lO (yL hk _ _) (aU k _ _) (SlK.ext h1.sl x2) h2.sl (by omega)).mono ?_)
  rintro vc w3 ⟨x3,h3⟩
  refine iRet (wK h3.sl (bC k ga gb) (by omega)) fun w4 x4=>?_
  refine iLenK h3.sl (iLe ⟨?_,((x1.trans x2).trans x3).trans x4⟩)
  rw [decide_eq_true (by omega)]
 ·cases hj
theorem JL {n:TN} {tys:List Str} {r:Str} {v:Value} {w:World} (h:NdT n tys r) (hs:SlT w v tys):Ret Tryz.prog yX #[.agg (rawN n).cs.toArray,v] w (.tuple #[sv r,.bool true]):=by
 apply JY;unfold zA
 refine iNew3 fun q w1 hq x1 hB=>?_
 have hB:Blk aA w1 q [.int .i64 (n.kind:Int),.int .i64 (n.num:Int),sv n.typ]:=hB
 have hs1:=Sl.ext hs x1
 have typ:∀ {w':World} {K:Value → Prop},Ext w1 w' → K (sv n.typ) → xFa 2 (.pointer (some ⟨q,0,none⟩)) fun p=>xLd w' p K:=fun x h=>iFa (iLdB (hB.ext x) (i:=2) (v:=sv n.typ) rfl h)
 have jt:∀ {k:Nat} {a b:Str},k = 2 ∨ k = 3 ∨ k = 4 → plT a = true → plT b = true → joinT k a b = some r → callQ Tryz.prog (.func (.func oG) #[] #[]) [.int .i64 (k:Int),sv a,sv b] w1 fun v19=>xEx v19 0 fun v20=>xEx v19 1 fun v21=>∀ w2,Ext w1 w2 → (Value.tuple #[v20,v21] = .tuple #[sv r,.bool true] ∧ Ext w w2):=fun hk ha hb hj=>by
  refine iRetQ (fun w' x'=>G9 hk ha hb hj w') (iE20 (iE21 fun w2 x2=>⟨by first | trivial | rfl,x1.trans x2⟩))
 refine iFa (iLdB hB (i:=0) (v:=.int .i64 (n.kind:Int)) rfl ?_)
 rcases h with ⟨hk,u,rfl,p1,p2,hj⟩ | ⟨hk,a,b,rfl,p1,p2,hj⟩ | ⟨hk,a,rfl,p1,p2,hj⟩ | ⟨hk,a,rfl,p1,p2,hj⟩ | ⟨hk,rfl,rfl⟩ | ⟨hk,c,p,rfl,p1,hp,rfl⟩ | ⟨hk,c,p,rfl,p1,hp,rfl⟩
 ·refine iEq (iCndT (decide_eq_true (by omega)) ?_)
  refine typ (Ext.refl _) (iIaG (j:=0) hs1 rfl (by simp) ?_)
  exact jt (k:=4) (.inr (.inr rfl)) p1 p2 hj
 ·refine iEq (iCndF (decide_eq_false (by omega)) (iEq (iCndT (decide_eq_true (by omega)) ?_)))
  refine iIaG (j:=0) hs1 rfl (by simp) (iIaG (j:=1) hs1 rfl (by simp) ?_)
  exact jt (k:=2) (.inl rfl) p1 p2 hj
 ·refine iEq (iCndF (decide_eq_false (by omega)) (iEq (iCndF (decide_eq_false (by omega)) (iEq (iCndT (decide_eq_true (by omega)) ?_)))))
  refine iIaG (j:=0) hs1 rfl (by simp) (typ (Ext.refl _) ?_)
  exact jt (k:=3) (.inr (.inl rfl)) p2 p1 hj
 ·refine iEq (iCndF (decide_eq_false (by omega)) (iEq (iCndF (decide_eq_false (by omega)) (iEq (iCndF (decide_eq_false (by omega)) (iEq (iCndT (decide_eq_true (by omega)) ?_)))))))
  refine typ (Ext.refl _) (iIaG (j:=0) hs1 rfl (by simp) ?_)
  exact jt (k:=3) (.inr (.inl rfl)) p1 p2 hj
 ·refine iEq (iCndF (decide_eq_false (by omega)) (iEq (iCndF (decide_eq_false (by omega)) (iEq (iCndF (decide_eq_false (by omega)) (iEq (iCndF (decide_eq_false (by omega)) (iEq (iCndT (decide_eq_true (by omega)) ?_)))))))))
  refine typ (Ext.refl _) (iIaG (j:=0) hs1 rfl (by simp) (iEqT (b:=Fm.fls.body) ?_))
  intro w6 x6
  refine ⟨?_,x1.trans x6⟩
  rw [decide_eq_true (show gt [Fm.fls.body] 0 = Fm.fls.body from rfl)]
 ·refine iEq (iCndF (decide_eq_false (by omega)) (iEq (iCndF (decide_eq_false (by omega)) (iEq (iCndF (decide_eq_false (by omega)) (iEq (iCndF (decide_eq_false (by omega)) (iEq (iCndF (decide_eq_false (by omega)) (iEq (iCndT (decide_eq_true (by omega)) ?_)))))))))))
  refine iIaG (j:=0) hs1 rfl (by simp) ?_
  refine iCall ((bT (k:=4) p1 w1).mono ?_)
  rintro _ w7 ⟨x7,u,rfl,hu⟩
  obtain ⟨hkd,-⟩:=mA hp
  obtain ⟨p',hp',hkb⟩:=fL (.inr (.inr rfl)) hkd
  rw [hp] at hp';cases hp'
  rw [hkb] at hu
  rw [decide_eq_true hkd]
  refine iE20 (iE21 ?_)
  refine iJnB false w7 (fun J hJ=>?_) (fun w9 x9=>?_)
  ·refine iNot (iCndF rfl ?_)
   refine iIaG (L:=[p.1,p.2]) (j:=0) hu.sl rfl (by simp) (iIaG (j:=1) (Sl.ext hs1 x7) rfl (by simp) (iNeT ?_))
   intro w11 x11
   rw [decide_eq_false (show ¬ ¬ gt [p.1,p.2] 0 = gt [c,p.1] 1 from fun h=>h rfl)]
   exact hJ _ x11
  ·intro _
   simp only [gx]
   refine iCndF rfl ?_
   refine iIaG (L:=[p.1,p.2]) (j:=1) (hu.ext x9).sl rfl (by simp) ?_
   exact ⟨by first | trivial | rfl,(x1.trans x7).trans x9⟩
 ·refine iEq (iCndF (decide_eq_false (by omega)) (iEq (iCndF (decide_eq_false (by omega)) (iEq (iCndF (decide_eq_false (by omega)) (iEq (iCndF (decide_eq_false (by omega)) (iEq (iCndF (decide_eq_false (by omega)) (iEq (iCndF (decide_eq_false (by omega)) ?_)))))))))))
  refine iIaG (j:=0) hs1 rfl (by simp) ?_
  refine iCall ((bT (k:=2) p1 w1).mono ?_)
  rintro _ w7 ⟨x7,u,rfl,hu⟩
  obtain ⟨hkd,-⟩:=mA hp
  obtain ⟨p',hp',hkb⟩:=fL (.inl rfl) hkd
  rw [hp] at hp';cases hp'
  rw [hkb] at hu
  rw [decide_eq_true hkd]
  refine iE20 (iE21 (iNot (iCndF rfl ?_)))
  refine iFa (iLdB (hB.ext x7) (i:=0) (v:=.int .i64 (n.kind:Int)) rfl (iSub (by omega) ?_))
  refine iIaG (L:=[p.1,p.2]) (j:=n.kind - 4) hu.sl (by omega) (by simp;omega) ?_
  refine ⟨?_,x1.trans x7⟩
  rcases hk with hk | hk
  ·rw [hk];rfl
  ·rw [hk];rfl
theorem zJ (k:Nat) (w:World):Ret Tryz.prog BU #[.int .i64 (k:Int)] w (.bool (decide (k = 1 ∨ k = 6 ∨ k = 7 ∨ k = 9))):=by
 apply M2;unfold B5
 refine iJnB (decide (k = 1 ∨ k = 6 ∨ k = 7 ∨ k = 9)) w (fun J hJ=>?_) (fun w2 x2=>fun _=>⟨by first | trivial | rfl,x2⟩)
 refine iEq (iCndP (fun h=>?_) (fun h1=>iEq (iCndP (fun h=>?_) (fun h2=>iEq (iCndP (fun h=>?_) (fun h3=>iEq ?_))))))
 ·rw [decide_eq_true (by omega)] at hJ;exact hJ _ (Ext.refl _)
 ·rw [decide_eq_true (by omega)] at hJ;exact hJ _ (Ext.refl _)
 ·rw [decide_eq_true (by omega)] at hJ;exact hJ _ (Ext.refl _)
 ·rw [show decide ((k:Int) = 9) = decide (k = 1 ∨ k = 6 ∨ k = 7 ∨ k = 9) from decide_eq_decide.2 (by omega)]
  exact hJ _ (Ext.refl _)
theorem FT {n:TN} (h:QE n) (h99:n.num ≤ 99) (w:World):Ret Tryz.prog t8 #[.agg (rawN n).cs.toArray] w (.bool true):=by
 apply HR;unfold uD
 refine iNew3 fun q w1 hq x1 hB=>?_
 have hB:Blk aA w1 q [.int .i64 (n.kind:Int),.int .i64 (n.num:Int),sv n.typ]:=hB
 have f0:∀ {w':World} {K:Value → Prop},Ext w1 w' → K (.int .i64 (n.kind:Int)) → xFa 0 (.pointer (some ⟨q,0,none⟩)) fun p=>xLd w' p K:=fun x h=>iFa (iLdB (hB.ext x) (i:=0) (v:=.int .i64 (n.kind:Int)) rfl h)
 have f1:∀ {w':World} {K:Value → Prop},Ext w1 w' → K (.int .i64 (n.num:Int)) → xFa 1 (.pointer (some ⟨q,0,none⟩)) fun p=>xLd w' p K:=fun x h=>iFa (iLdB (hB.ext x) (i:=1) (v:=.int .i64 (n.num:Int)) rfl h)
 have f2:∀ {w':World} {K:Value → Prop},Ext w1 w' → K (sv n.typ) → xFa 2 (.pointer (some ⟨q,0,none⟩)) fun p=>xLd w' p K:=fun x h=>iFa (iLdB (hB.ext x) (i:=2) (v:=sv n.typ) rfl h)
 refine f0 (Ext.refl _) ?_
 rcases h with ⟨hk,ht⟩ | ⟨hk,hn,ht⟩ | ⟨hk,hn,ht⟩
 ·refine iEq (iCndT (decide_eq_true (by omega)) ?_)
  refine iJnB true w1 (fun J hJ=>?_) (fun w2 x2=>fun _=>⟨by first | trivial | rfl,x1.trans x2⟩)
  refine f1 (Ext.refl _) (iRet (iP _ _ _ w1) fun w3 x3=>iCndT (decide_eq_true (by omega)) ?_)
  refine f2 x3 (iEqT (b:=[]) ?_)
  rw [decide_eq_true ht]
  exact hJ _ x3
 ·refine iEq (iCndF (decide_eq_false (by omega)) (f0 (Ext.refl _) (iRet (zJ n.kind w1) fun w5 x5=>iCndT (decide_eq_true hk) ?_)))
  refine iJnB true w5 (fun J hJ=>?_) (fun w2 x2=>fun _=>⟨by first | trivial | rfl,(x1.trans x5).trans x2⟩)
  refine f1 x5 (iEq (iCndT (decide_eq_true (by omega)) (f2 x5 ?_)))
  refine iRet (gH n.typ w5) fun w6 x6=>?_
  rw [ht]
  exact hJ _ x6
 ·refine iEq (iCndF (decide_eq_false (by omega)) (f0 (Ext.refl _) (iRet (zJ n.kind w1) fun w5 x5=>iCndF (decide_eq_false (by omega)) ?_)))
  refine iJnB true w5 (fun J hJ=>?_) (fun w2 x2=>fun _=>⟨by first | trivial | rfl,(x1.trans x5).trans x2⟩)
  refine f0 x5 (iRet (iP _ _ _ w5) fun w6 x6=>iCndT (decide_eq_true (by omega)) ?_)
  refine f1 (x5.trans x6) (iEq (iCndT (decide_eq_true (by omega)) (f2 (x5.trans x6) (iEqT (b:=[]) ?_))))
  rw [decide_eq_true ht]
  exact hJ _ x6
theorem NL {t:Tm} {v:Value} {w:World} (hs:RdT w v t.raw) (h60:t.raw.length ≤ 60) (hn:numLe 99 t) (hok:∀ n ∈ t.nodes,QE n):Ret Tryz.prog EY #[v] w (.bool true):=by
 apply PD;unfold E4
 have hpos:=t.raw_pos
 refine iJnB true w (fun J hJ=>?_) (fun w2 x2=>fun _=>⟨by first | trivial | rfl,x2⟩)
 refine iLenK hs (iLe (iCndT (decide_eq_true (by omega)) (iLenK hs (iLe (iCndT (decide_eq_true (by omega)) ?_)))))
 refine iRet (tY hs (fun _=>false) fun q hq w' x'=>?_) fun w3 x3=>?_
 ·obtain ⟨nd,hnd,rfl⟩:=List.mem_map.1 hq
  refine iRet (v:=.bool false) ?_ fun w5 x5=>⟨rfl,x5⟩
  apply LI;unfold zH
  refine iNew3 fun p w1 hp x1 hB=>?_
  refine iLdA hB rfl (iRet (FT (hok nd hnd) (hn nd hnd) w1) fun w6 x6=>iNot ⟨rfl,x1.trans x6⟩)
 ·rw [show (t.raw.any fun _=>false) = false from List.any_eq_false.2 fun _ _=>by decide]
  refine iNot (iCndT rfl ?_)
  refine iRet (zI (i:=0) (rest:=[]) (SlK.ext hs x3) (by omega) (by rw [List.append_nil];rfl)) fun w4 x4=>?_
  refine iLenK (SlK.ext hs (x3.trans x4)) (iEq ?_)
  rw [decide_eq_true (by omega)]
  exact hJ _ (x3.trans x4)
end Go.Proofs.YtkjoppimpmojfaaGreat

namespace Go.Vc
theorem SQ {f:Fm} (hg:f.good) (hs:f.size ≤ 40):pCode f.body = 0:=by
 have hl:=vZ f
 have e:=CM hg
 unfold pCode
 rw [if_neg (by omega),if_pos (by unfold rdOk;rw [e];rfl)]
 rw [show (rd f.body).1 = f by rw [e],if_neg (by omega)]
def GdB (t:Str):Prop:=∃ f:Fm,f.good ∧ t = f.body ∧ f.size ≤ 1000
def GdA (t:Str):Prop:=∃ f:Fm,f.good ∧ t = f.body ∧ f.size ≤ 40
theorem GdA.gdB {t:Str} (h:GdA t):GdB t:=let ⟨f,h1,h2,h3⟩:=h;⟨f,h1,h2,by omega⟩
theorem GdA.at {t:Str} (h:GdA t):pCode t = 0 ∧ (fT t).good ∧ (fT t).size ≤ 40 ∧ (fT t).body = t:=by
 obtain ⟨f,h1,rfl,h3⟩:=h
 rw [gL h1]
 exact ⟨SQ h1 h3,h1,h3,rfl⟩
theorem GdB.gdA {t:Str} (h:GdB t) (hc:pCode t = 0):GdA t:=by
 obtain ⟨f,h1,rfl,-⟩:=h
 have:=(bL hc).1
 rw [CM h1] at this
 exact ⟨f,h1,rfl,this⟩
theorem GdA.kid {t:Str} {g:Fm} (h:GdA t) (hk:g ∈ (fT t).kids):GdA g.body:=by
 obtain ⟨-,h1,h2,-⟩:=h.at
 have:=lY g hk
 exact ⟨g,cE h1 g hk,rfl,by omega⟩
theorem D4 {f:Fm} (h:f.kind = 2):∃ x y,f = .and x y:=P4 (by omega)
theorem DF {f:Fm} (h:f.kind = 3):∃ x y,f = .or x y:=ME (by omega)
theorem xP {f:Fm} (h:f.kind = 4):∃ x y,f = .imp x y:=QA (by omega)
theorem VF {e:TypeId} {w0 w w':World} {vc v:Value} {b:Nat} {f:Fm} (h:SlK 2 w v f.size f.cells) (hS:Vc.Src e w0 vc b w) (hvc:∀ k z,vc ≠ .int k z) (hc:Ch (fun c=>c = b) w w'):SlK 2 w' v f.size f.cells:=by
 obtain ⟨k,s,rest,hcells⟩:∃ k s rest,f.cells = .int .i64 k :: .int .i64 s :: rest:=by cases f <;> exact ⟨_,_,_,rfl⟩
 have hpos:=f.size_pos
 obtain ⟨h0,a,c,rfl,h2,h3,h4⟩:=h
 refine ⟨h0,a,c,rfl,h2,h3,h4.imp id fun ⟨b',o,ha,hcl⟩=>⟨b',o,ha,fun i hi=>?_⟩⟩
 have hne:b' ≠ b:=by
  rintro rfl
  obtain ⟨_,_,at_,hash,hB,_⟩:=hS
  have c0:=hcl 0 (by omega)
  have c1:=hcl 1 (by omega)
  rw [hB.cell,hcells] at c0 c1
  rcases o with _ | _ | o
  ·have c0:some vc = some (.int .i64 k):=c0
   exact hvc _ _ (Option.some.inj c0)
  ·have c1:some (Value.int .u64 (hash:Int)) = some (.int .i64 s):=c1
   cases c1
  ·simp at c1
 have h5:=hcl i hi
 rw [List.getElem?_eq_getElem (by omega)] at h5
 have hlt:b' < w.heap.size:=by
  rcases Nat.lt_or_ge b' w.heap.size with hl | hl
  ·exact hl
  ·simp [World.cell?,Array.getElem?_eq_none hl] at h5
 rw [← hcl i hi]
 unfold World.cell?
 rw [hc.block b' hlt hne]
theorem SlB.noInt {w:World} {vc:Value} {bs:List Nat} (h:SlB w vc bs):∀ k z,vc ≠ .int k z:=fun k z e=>by
 obtain ⟨⟨a,c,hv,_⟩,_⟩:=h
 rw [hv] at e;cases e
end Go.Vc
namespace Go.Proofs.YtkjoppimpmojfaaGreat
open Go.Vc
theorem JD (t:Str) (w:World):Cal Tryz.prog rF #[sv t] w fun r w'=>Ext w w' ∧ ∃ v,r = .tuple #[v,.bool (goodT t)] ∧ (pCode t = 0 → FmW w.heap.size w' v (rd t).1) ∧ (¬ pCode t = 0 → v = .slice none 0 0):=by
 apply AX;unfold rU
 refine iCall ((pZ t w).mono ?_)
 rintro r w1 ⟨h1,v,rfl,hv,hv0⟩
 refine iE30 (iE31 (iE32 ?_))
 refine iJnX (fun xs w'=>xs = [v,.bool (goodT t)] ∧ Ext w1 w') (fun J hJ=>?_) ?_
 ·refine iEq ?_
  unfold goodT at hJ
  refine iCndP (fun hc=>?_) (fun hc=>?_)
  ·rw [decide_eq_true hc,Bool.true_and] at hJ
   refine iRet (bD (hv hc).sl (G5 t) (by have:=(bL hc).1;omega)) fun w4 h4=>?_
   exact iEqT (hJ _ _ ⟨rfl,h4⟩)
  ·rw [decide_eq_false hc,Bool.false_and] at hJ
   exact hJ _ _ ⟨rfl,Ext.refl _⟩
 ·rintro xs w3 ⟨rfl,h3⟩
  intro _
  exact ⟨h1.trans h3,v,rfl,fun hc=>(hv hc).ext h3,hv0⟩
theorem cO (t:Str) (w:World):Cal Tryz.prog f9 #[sv t] w fun r w'=>Ext w w' ∧ ∃ v,r = .tuple #[v,.bool (plT t)] ∧ (pCode t = 0 → FmW w.heap.size w' v (fT t)) ∧ (¬ pCode t = 0 → v = .slice none 0 0):=by
 apply uI;unfold nF
 refine iCall ((JD t w).mono ?_)
 rintro r w1 ⟨x1,v,rfl,hv,hv0⟩
 refine iE20 (iE21 ?_)
 have h0:goodT t = true → pCode t = 0:=fun h=>by
  unfold goodT at h
  rw [Bool.and_eq_true,decide_eq_true_eq] at h
  exact h.1
 refine iJnX (fun xs w'=>xs = [v,.bool (plT t)] ∧ Ext w1 w') (fun J hJ=>?_) ?_
 ·refine iCnd (fun h=>?_) (fun h=>?_)
  ·refine iRet (vO (hv (h0 h)).sl) fun w2 x2=>?_
   refine hJ _ _ ⟨?_,x2⟩
   unfold plT
   rw [h,Bool.true_and];rfl
  ·refine hJ _ _ ⟨?_,Ext.refl _⟩
   unfold plT
   rw [h,Bool.false_and]
 ·rintro _ w3 ⟨rfl,x3⟩
  intro _
  exact ⟨x1.trans x3,v,rfl,fun h=>OwK.ext (hv h) x3,hv0⟩
theorem GJ {w0:World} {vc:Value} {bs:List Nat} (hc:SlB w0 vc bs) {b:Nat} {w:World} (hS:Vc.Src eS w0 vc b w):Drw Tryz.prog uR #[.pointer (some ⟨b,0,none⟩)] eS w0 vc b w fun r _=>∃ t,r = sv t ∧ GdA t:=by
 apply HI;unfold t7
 refine iCall ((aG hc hS 3).mono ?_)
 rintro _ w1 ⟨⟨n1,rfl,hn1,_⟩,hS1,hC1⟩
 have hn1:=hn1 (by decide)
 refine iAdd (by omega) ?_
 rw [show (1:Int) + (n1:Int) = ((1 + n1:Nat):Int) by omega]
 refine iCall ((pD (by decide) hc (k:=3) (by decide) false (1 + n1) hS1 (by omega) (by omega)).mono ?_)
 rintro va w2 ⟨⟨a,ga,sa,ha⟩,hS2,hch2⟩
 have hC2:=aE hC1 hch2
 refine iCall ((aG hc hS2 3).mono ?_)
 rintro _ w3 ⟨⟨n3,rfl,hn3,_⟩,hS3,hch3⟩
 have hn3:=hn3 (by decide)
 have hC3:=aE hC2 hch3
 have ha3:=OwK.src ha hS2 (by decide) hch3
 refine iAdd (by omega) ?_
 rw [show (1:Int) + (n3:Int) = ((1 + n3:Nat):Int) by omega]
 refine iCall ((pD (by decide) hc (k:=3) (by decide) false (1 + n3) hS3 (by omega) (by omega)).mono ?_)
 rintro vb w4 ⟨⟨d,gd,sd,hd⟩,hS4,hch4⟩
 have hC4:=aE hC3 hch4
 have ha4:=OwK.src ha3 hS3 (by decide) hch4
 refine iCall ((aG hc hS4 3).mono ?_)
 rintro _ w5 ⟨⟨n5,rfl,hn5,_⟩,hS5,hch5⟩
 have hn5:=hn5 (by decide)
 have hC5:=aE hC4 hch5
 have ha5:=OwK.src ha4 hS4 (by decide) hch5
 have hd5:=OwK.src hd hS4 (by decide) hch5
 refine iCall ((q8 n5 w5).mono ?_)
 rintro vv w6 ⟨x6,hv6⟩
 have hS6:=hS5.later x6
 have hC6:=aL hC5 x6
 refine iCall ((aG hc hS6 8).mono ?_)
 rintro _ w7 ⟨⟨q,rfl,_,_⟩,hS7,hch7⟩
 have hC7:=aE hC6 hch7
 have hA:FmS w7 va a:=(OwK.src (OwK.ext ha5 x6) hS6 (by decide) hch7).sl
 have hD:FmS w7 vb d:=(OwK.src (OwK.ext hd5 x6) hS6 (by decide) hch7).sl
 have hV:FmS w7 vv (.var n5):=(OwK.src hv6 hS6 (by decide) hch7).sl
 have gv:(Fm.var n5).good:=show n5 < 6 by omega
 have sv1:(Fm.var n5).size = 1:=rfl
 clear ha ha3 ha4 ha5 hd hd5 hv6 hS1 hS2 hS3 hS4 hS5 hS6 hC1 hC2 hC3 hC4 hC5 hC6 hch2 hch3 hch4 hch5 hch7
 have pr:∀ {w':World} {k:Nat} {f g:Fm} {vf vg:Value} {K:Value → World → Prop},(k = 2 ∨ k = 3 ∨ k = 4) → FmS w' vf f → FmS w' vg g → f.size ≤ 100 → g.size ≤ 100 → (∀ r w'',Ext w' w'' → FmS w'' r (mkK k f g) → K r w'') → callV Tryz.prog (.func (.func mL) #[] #[]) [.int .i64 (k:Int),vf,vg] w' K:=fun {w' k f g vf vg K} hk hf hg s1 s2 h=>by
  refine iCall ((dM (yL hk f g) (aU k f g) hf hg (by rw [aU];omega)).mono ?_)
  rintro r w'' ⟨x,hr⟩
  exact h r w'' x hr.sl
 have nt:∀ {w':World} {f:Fm} {vf:Value} {K:Value → World → Prop},FmS w' vf f → f.size ≤ 100 → (∀ r w'',Ext w' w'' → FmS w'' r (.imp f .fls) → K r w'') → callV Tryz.prog (.func (.func tN) #[] #[]) [vf] w' K:=fun {w' f vf K} hf s h=>by
  refine iCall ((mI hf (by omega)).mono ?_)
  rintro r w'' ⟨x,hr⟩
  exact h r w'' x hr.sl
 have tx:∀ {w':World} {f:Fm} {vf:Value},Ext w7 w' → FmS w' vf f → f.good → f.size ≤ 40 → callV Tryz.prog (.func (.func d6) #[] #[]) [vf] w' fun r w''=>(∃ t,r = sv t ∧ GdA t) ∧ Vc.Src eS w0 vc b w'' ∧ Ch (fun c=>c = b) w w'':=fun {w' f vf} x hf hg s=>
  iRet (bD hf hg (by omega)) fun w'' x''=>⟨⟨_,rfl,f,hg,rfl,s⟩,hS7.later (x.trans x''),aL hC7 (x.trans x'')⟩
 refine iEq (iCndP (fun _=>?_) (fun _=>?_))
 ·refine pr (k:=2) (.inl rfl) hA hD (by omega) (by omega) fun r1 w8 x8 h8=>?_
  refine pr (k:=2) (.inl rfl) (SlK.ext hD x8) (SlK.ext hA x8) (by omega) (by omega) fun r2 w9 x9 h9=>?_
  refine pr (k:=4) (.inr (.inr rfl)) (SlK.ext h8 x9) h9 (by rw [aU];omega) (by rw [aU];omega) fun r3 w10 x10 h10=>?_
  exact tx ((x8.trans x9).trans x10) h10 (bC 4 (bC 2 ga gd) (bC 2 gd ga)) (by simp only [aU];omega)
 refine iEq (iCndP (fun _=>?_) (fun _=>?_))
 ·refine pr (k:=3) (.inr (.inl rfl)) hA hD (by omega) (by omega) fun r1 w8 x8 h8=>?_
  refine pr (k:=3) (.inr (.inl rfl)) (SlK.ext hD x8) (SlK.ext hA x8) (by omega) (by omega) fun r2 w9 x9 h9=>?_
  refine pr (k:=4) (.inr (.inr rfl)) (SlK.ext h8 x9) h9 (by rw [aU];omega) (by rw [aU];omega) fun r3 w10 x10 h10=>?_
  exact tx ((x8.trans x9).trans x10) h10 (bC 4 (bC 3 ga gd) (bC 3 gd ga)) (by simp only [aU];omega)
 refine iEq (iCndP (fun _=>?_) (fun _=>?_))
 ·refine pr (k:=4) (.inr (.inr rfl)) hD hA (by omega) (by omega) fun r1 w8 x8 h8=>?_
  refine pr (k:=4) (.inr (.inr rfl)) (SlK.ext hA x8) h8 (by omega) (by rw [aU];omega) fun r2 w9 x9 h9=>?_
  exact tx (x8.trans x9) h9 (bC 4 ga (bC 4 gd ga)) (by simp only [aU];omega)
 refine iEq (iCndP (fun _=>?_) (fun _=>?_))
 ·refine pr (k:=4) (.inr (.inr rfl)) hA hD (by omega) (by omega) fun r1 w8 x8 h8=>?_
  refine pr (k:=4) (.inr (.inr rfl)) (SlK.ext hD x8) (SlK.ext hV x8) (by omega) (by omega) fun r2 w9 x9 h9=>?_
  refine pr (k:=4) (.inr (.inr rfl)) (SlK.ext hA (x8.trans x9)) (SlK.ext hV (x8.trans x9)) (by omega) (by omega) fun r3 w10 x10 h10=>?_
  refine pr (k:=4) (.inr (.inr rfl)) (SlK.ext h9 x10) h10 (by rw [aU];omega) (by rw [aU];omega) fun r4 w11 x11 h11=>?_
  refine pr (k:=4) (.inr (.inr rfl)) (SlK.ext h8 ((x9.trans x10).trans x11)) h11 (by rw [aU];omega) (by simp only [aU];omega) fun r5 w12 x12 h12=>?_
  exact tx ((((x8.trans x9).trans x10).trans x11).trans x12) h12 (bC 4 (bC 4 ga gd) (bC 4 (bC 4 gd gv) (bC 4 ga gv))) (by simp only [aU];omega)
 refine iEq (iCndP (fun _=>?_) (fun _=>?_))
 ·refine nt hA (by omega) fun r1 w8 x8 h8=>?_
  have s1:(Fm.imp a .fls).size = 1 + a.size + 1:=rfl
  refine nt h8 (by omega) fun r2 w9 x9 h9=>?_
  have s2:(Fm.imp (.imp a .fls) .fls).size = 1 + (Fm.imp a .fls).size + 1:=rfl
  refine pr (k:=4) (.inr (.inr rfl)) (SlK.ext hA (x8.trans x9)) h9 (by omega) (by omega) fun r3 w10 x10 h10=>?_
  exact tx ((x8.trans x9).trans x10) h10 (bC 4 ga ⟨⟨ga,trivial⟩,trivial⟩) (by rw [aU];omega)
 refine iEq (iCndP (fun _=>?_) (fun _=>?_))
 ·refine pr (k:=4) (.inr (.inr rfl)) hD hV (by omega) (by omega) fun r1 w8 x8 h8=>?_
  refine pr (k:=4) (.inr (.inr rfl)) (SlK.ext hA x8) h8 (by omega) (by rw [aU];omega) fun r2 w9 x9 h9=>?_
  have x89:=x8.trans x9
  refine pr (k:=2) (.inl rfl) (SlK.ext hA x89) (SlK.ext hD x89) (by omega) (by omega) fun r3 w10 x10 h10=>?_
  have x810:=x89.trans x10
  refine pr (k:=4) (.inr (.inr rfl)) h10 (SlK.ext hV x810) (by rw [aU];omega) (by omega) fun r4 w11 x11 h11=>?_
  refine pr (k:=4) (.inr (.inr rfl)) (SlK.ext h9 (x10.trans x11)) h11 (by simp only [aU];omega) (by simp only [aU];omega) fun r5 w12 x12 h12=>?_
  exact tx ((x810.trans x11).trans x12) h12 (bC 4 (bC 4 ga (bC 4 gd gv)) (bC 4 (bC 2 ga gd) gv)) (by simp only [aU];omega)
 refine iEq (iCndP (fun _=>?_) (fun _=>?_))
 ·refine pr (k:=2) (.inl rfl) hA hA (by omega) (by omega) fun r1 w8 x8 h8=>?_
  refine pr (k:=3) (.inr (.inl rfl)) h8 (SlK.ext hD x8) (by rw [aU];omega) (by omega) fun r2 w9 x9 h9=>?_
  refine pr (k:=4) (.inr (.inr rfl)) (SlK.ext hA (x8.trans x9)) h9 (by omega) (by simp only [aU];omega) fun r3 w10 x10 h10=>?_
  exact tx ((x8.trans x9).trans x10) h10 (bC 4 ga (bC 3 (bC 2 ga ga) gd)) (by simp only [aU];omega)
 ·refine iCall ((pD (by decide) hc (k:=2) (by decide) false 6 hS7 (by omega) (by omega)).mono ?_)
  rintro vf w8 ⟨⟨f,gf,sf,hf⟩,hS8,hch8⟩
  refine iRet (bD hf.sl gf (by omega)) fun w9 x9=>?_
  exact ⟨⟨_,rfl,f,gf,rfl,by omega⟩,hS8.later x9,aL (aE hC7 hch8) x9⟩
end Go.Proofs.YtkjoppimpmojfaaGreat

namespace Go.Proofs.YtkjoppimpmojfaaGreat
open Go.Vc
def AnyQ (w0:World) (vc:Value) (b lo N:Nat) (w:World):Value → World → Prop:=fun r w'=>(∃ R',StO lo w' r R' ∧ R'.length + 1 ≤ N ∧ 1 ≤ R'.length) ∧ Vc.Src eS w0 vc b w' ∧ DCh w w'
theorem ND {w0:World} {vc:Value} {bs:List Nat} (hc:SlB w0 vc bs) {b:Nat}:∀ (n:Nat) {lo:Nat} {w:World} {v1 v2:Value} {R:List DV} {G:List Str} {goal:Str},n ≤ 6 → Vc.Src eS w0 vc b w → StO lo w v1 R → w0.heap.size ≤ lo → lo ≤ w.heap.size → R.length + 4 * 2 ^ n ≤ 100000 → TxW 0 w v2 G → G.length ≤ 12 → (∀ t ∈ G,GdA t) → GdB goal →
  Cal Tryz.prog tL #[.pointer (some ⟨b,0,none⟩),v1,v2,sv goal,.int .i64 (n:Int)] w (AnyQ w0 vc b lo (R.length + 4 * 2 ^ n) w):=by
 intro n
 induction n using Nat.strongRecOn with
 | _ n ih=>
 intro lo w v1 v2 R G goal hn6 hS hst hlo hlw hRn hG hGl hGa hgoal
 have h2n:1 ≤ 2 ^ n:=Nat.one_le_two_pow
 have hvi:=hc.noInt
 have hgm:∀ {i:Nat},i < G.length → GdA (gt G i):=fun hi=>hGa _ (by rw [gt_eq hi];exact List.getElem_mem _)
 -- one step put behind others
 have psh:∀ {w':World} {v vp:Value} {Q:List DV} {rule num:Int} {ps:List Int} {c:Str} {K:Value → World → Prop},StO lo w' v Q → Vc.Src eS w0 vc b w' → lo ≤ w'.heap.size → TxW 0 w' v2 G → Ow 0 t_i64 w' vp (ints ps) → ps.length ≤ 3 → Q.length ≤ 1000000 → (∀ r w'',StO lo w'' r (Q ++ [⟨⟨rule,ps,G,c,num⟩,vp,v2⟩]) → StO lo w'' v Q → Vc.Src eS w0 vc b w'' → DCh w' w'' → K r w'') → xBs aC (Value.cells (.agg #[.int .i64 0,.slice none 0 0,.slice none 0 0,.string ⟨#[]⟩,.int .i64 0])) 5 1 [(0,.agg #[.int .i64 rule,vp,v2,sv c,.int .i64 num])] w' fun u w1=>xOp Tryz.prog (Builtin.append_ #[aZ,aZ] aZ #[v,u]) w1 K:=fun {w' v vp Q rule num ps c K} h1 h2 h3 h4 h5 h6 h7 hK=>
  StO.push (x:=⟨⟨rule,ps,G,c,num⟩,vp,v2⟩) rfl h1 h2 h5 h4 ⟨h6,by show G.length ≤ 12;omega⟩ h7 hlo h3 hK
 have pr0:∀ {w':World} {K:Value → World → Prop},(∀ vp w'',Ext w' w'' → Ow 0 t_i64 w'' vp (ints []) → aD vp = true → K vp w'') → xBs t_i64 (Value.cells (.int .i64 0)) 1 0 [] w' K:=fun h=>iBs0 fun vp w'' _ x ho=>h vp w'' x (ho.mono (Nat.zero_le _)) ho.cell
 have pr1:∀ {w':World} {a:Int} {K:Value → World → Prop},(∀ vp w'',Ext w' w'' → Ow 0 t_i64 w'' vp (ints [a]) → aD vp = true → K vp w'') → xBs t_i64 (Value.cells (.int .i64 0)) 1 1 [(0,.int .i64 a)] w' K:=fun h=>iBs1 rfl rfl fun c w'' _ x hB=>h _ w'' x (Ow.ofBlk (n:=1) hB (Nat.zero_le _) rfl (by decide)) rfl
 have pr2:∀ {w':World} {a d:Int} {K:Value → World → Prop},(∀ vp w'',Ext w' w'' → Ow 0 t_i64 w'' vp (ints [a,d]) → aD vp = true → K vp w'') → xBs t_i64 (Value.cells (.int .i64 0)) 1 2 [(0,.int .i64 a),(1,.int .i64 d)] w' K:=fun h=>iBs2 rfl rfl rfl fun c w'' _ x hB=>h _ w'' x (Ow.ofBlk (n:=2) hB (Nat.zero_le _) rfl (by decide)) rfl
 have pr3:∀ {w':World} {a d f:Int} {K:Value → World → Prop},(∀ vp w'',Ext w' w'' → Ow 0 t_i64 w'' vp (ints [a,d,f]) → aD vp = true → K vp w'') → xBs t_i64 (Value.cells (.int .i64 0)) 1 3 [(0,.int .i64 a),(1,.int .i64 d),(2,.int .i64 f)] w' K:=fun h=>iBs3 rfl rfl rfl rfl fun c w'' _ x hB=>h _ w'' x (Ow.ofBlk (n:=3) hB (Nat.zero_le _) rfl (by decide)) rfl
 have tcell:aD v2 = true:=hG.cell
 have hGd:∀ {w':World},DCh w w' → TxW 0 w' v2 G:=fun h=>Ow.dch hG h (by decide) (by decide)
 have szD:∀ {w':World},DCh w w' → lo ≤ w'.heap.size:=fun h=>Nat.le_trans hlw h.size
 have sl:∀ (Q:List DV) (x:DV),(Q ++ [x]).length = Q.length + 1:=fun Q x=>by rw [List.length_append,List.length_singleton]
 apply O8;unfold D6
 refine iLp (fun i:Nat=>[.int .i64 (i:Int)]) (fun i w'=>i ≤ G.length ∧ w' = w) (fun i=>G.length - i) 0 rfl ⟨Nat.zero_le _,rfl⟩ ?_
 rintro i w2 Kn ⟨hi,rfl⟩ hKn
 intro _
 simp only [gx]
 refine aM hG.sl (iLt (iCndP (fun hlt=>?_) (fun _=>?_)))
 ·have hil:i < G.length:=by omega
  refine iIaG hG.sl rfl hil (iEqT (iCndP (fun _=>?_) (fun _=>?_)))
  ·refine pr0 fun vp w3 x3 hp hpc=>?_
   refine lP rfl hpc tcell rfl rfl ?_
   refine psh (hst.ext x3) (hS.later x3) (Nat.le_trans hlw x3.size) (hG.ext x3) hp (by decide) (by omega) fun r w5 k1 _ k3 k4=>?_
   exact ⟨⟨_,k1,by rw [sl];omega,by rw [sl];omega⟩,k3,(DCh.ext x3).trans k4⟩
  ·refine iAdd (by omega) ?_
   exact hKn (i + 1) _ ⟨hil,rfl⟩ (by omega)
 refine iCall ((cO goal w2).mono ?_)
 rintro _ w6 ⟨x6,va,rfl,ha,ha0⟩
 refine iE20 (iE21 ?_)
 refine pr0 fun vp7 w7 x7 hp7 hpc7=>?_
 refine fY rfl hpc7 tcell rfl ?_
 have x27:=x6.trans x7
 refine psh (num:=0) (hst.ext x27) (hS.later x27) (Nat.le_trans hlw x27.size) (hG.ext x27) hp7 (by decide) (by omega) fun wr w9 hwr hst9 hS9 hD79=>?_
 have hD9:=(DCh.ext x27).trans hD79
 have ha9:pCode goal = 0 → FmW w2.heap.size w9 va (fT goal):=fun h=>OwK.dch (OwK.ext (ha h) x7) hD79 (by decide) (by decide)
 refine iEq (iCndP (fun h0=>?_) (fun h0=>?_))
 ·exact ⟨⟨_,hwr,by rw [sl];omega,by rw [sl];omega⟩,hS9,hD9⟩
 have hn1:1 ≤ n:=by omega
 have e2:2 ^ n = 2 * 2 ^ (n - 1):=by
  obtain ⟨m,rfl⟩:=Nat.exists_eq_add_of_le hn1
  rw [Nat.add_comm,Nat.pow_succ,Nat.add_sub_cancel];omega
 have e4:2 ≤ n → 2 ^ n = 4 * 2 ^ (n - 2):=fun h2=>by
  obtain ⟨m,rfl⟩:=Nat.exists_eq_add_of_le h2
  rw [Nat.add_comm,Nat.pow_add,Nat.add_sub_cancel];omega
 have h1n:1 ≤ 2 ^ (n - 1):=Nat.one_le_two_pow
 have h2m:1 ≤ 2 ^ (n - 2):=Nat.one_le_two_pow
 -- a deduction of something else behind these
 have rcu:∀ {m:Nat} {w':World} {v v':Value} {Q:List DV} {G':List Str} {t:Str} {K:Value → World → Prop},m < n → Vc.Src eS w0 vc b w' → StO lo w' v Q → lo ≤ w'.heap.size → Q.length + 4 * 2 ^ m ≤ 100000 → TxW 0 w' v' G' → G'.length ≤ 12 → (∀ t ∈ G',GdA t) → GdB t → (∀ r w'' R',StO lo w'' r R' → R'.length + 1 ≤ Q.length + 4 * 2 ^ m → 1 ≤ R'.length → Vc.Src eS w0 vc b w'' → DCh w' w'' → K r w'') → callV Tryz.prog (.func (.func tL) #[] #[]) [.pointer (some ⟨b,0,none⟩),v,v',sv t,.int .i64 (m:Int)] w' K:=fun {m w' v v' Q G' t K} hm k1 k2 k3 k4 k5 k6 k7 k8 hK=>by
  refine iCall ((ih m hm (by omega) k1 k2 hlo k3 k4 k5 k6 k7 k8).mono ?_)
  rintro r w'' ⟨⟨R',q1,q2,q3⟩,q4,q5⟩
  exact hK r w'' R' q1 q2 q3 q4 q5
 have lft:∀ {w':World} {u:Value} {f g:Fm} {gs:List Fm} {K:Value → World → Prop},FmS w' u f → f.kids = g :: gs → f.size ≤ 40 → f.good → (∀ w'',Ext w' w'' → K (sv g.body) w'') → callV Tryz.prog (.func (.func mN) #[] #[]) [u] w' fun x w1=>callV Tryz.prog (.func (.func d6) #[] #[]) [x] w1 K:=fun {w' u f g gs K} hf hk hs hg hK=>by
  refine iCall ((dK hf hk (by omega)).mono ?_)
  rintro x w1 ⟨x1,hx⟩
  have hm:g ∈ f.kids:=by rw [hk];exact List.mem_cons_self ..
  have:=lY g hm
  exact iRet (bD hx (cE hg g hm) (by omega)) fun w'' x''=>hK w'' (x1.trans x'')
 have rgt:∀ {w':World} {u:Value} {f g g':Fm} {K:Value → World → Prop},FmS w' u f → f.kids = [g,g'] → f.size ≤ 40 → f.good → (∀ w'',Ext w' w'' → K (sv g'.body) w'') → callV Tryz.prog (.func (.func lF) #[] #[]) [u] w' fun x w1=>callV Tryz.prog (.func (.func d6) #[] #[]) [x] w1 K:=fun {w' u f g g' K} hf hk hs hg hK=>by
  refine iCall ((c8 hf hk (by omega)).mono ?_)
  rintro x w1 ⟨x1,hx⟩
  have hm:g' ∈ f.kids:=by rw [hk];exact List.mem_cons_of_mem _ (List.mem_cons_self ..)
  have:=lY g' hm
  exact iRet (bD hx (cE hg g' hm) (by omega)) fun w'' x''=>hK w'' (x1.trans x'')
 have wth:∀ {w':World} {c:Nat} {t:Str} {K:Value → World → Prop},TxW 0 w' v2 G → Blk aB w' c [sv t] → (∀ u w'',Ext w' w'' → TxW 0 w'' u (G ++ [t]) → K u w'') → callV Tryz.prog (.func (.func gO) #[] #[]) [v2,.slice (some ⟨c,0,none⟩) 1 1] w' K:=fun {w' c t K} hg hB hK=>by
  refine iCall ((fU (B:=[t]) hg.sl (Sl.ofBlk (n:=1) hB rfl (by decide)) (by omega) (by simp)).mono ?_)
  rintro u w'' ⟨x,hu⟩
  exact hK u w'' x (hu.mono (Nat.zero_le _))
 have gap:∀ {t:Str},GdA t → ∀ y ∈ G ++ [t],GdA y:=fun ht y hy=>by
  rcases List.mem_append.1 hy with hy | hy
  ·exact hGa y hy
  ·rw [List.mem_singleton.1 hy];exact ht
 have fin:∀ {r:Value} {w':World} {Q:List DV},StO lo w' r Q → Q.length + 1 ≤ R.length + 4 * 2 ^ n → 1 ≤ Q.length → Vc.Src eS w0 vc b w' → DCh w2 w' → AnyQ w0 vc b lo (R.length + 4 * 2 ^ n) w2 r w':=fun k1 k2 k3 k4 k5=>⟨⟨_,k1,k2,k3⟩,k4,k5⟩
 refine iLp (fun i:Nat=>[v1,.int .i64 (i:Int)]) (fun i w'=>i ≤ G.length ∧ Vc.Src eS w0 vc b w' ∧ StO lo w' v1 R ∧ (∃ x,StO lo w' wr (R ++ [x])) ∧ (pCode goal = 0 → FmW w2.heap.size w' va (fT goal)) ∧ DCh w2 w') (fun i=>G.length - i) 0 rfl ⟨Nat.zero_le _,hS9,hst9,⟨_,hwr⟩,ha9,hD9⟩ ?_
 clear hS9 hst9 hwr ha9 hD9 hD79 hKn
 rintro k w11 Kn ⟨hk,hS11,hst11,⟨xw,hwr11⟩,ha11,hD11⟩ hKn
 intro _
 simp only [gx]
 refine aM (hGd hD11).sl (iLt (iCndP (fun hlt=>?_) (fun _=>?_)))
 ·have hkl:k < G.length:=by omega
  have hgk:=hgm hkl
  obtain ⟨hpc,hbg,hbs,hbb⟩:=hgk.at
  refine iIaG (hGd hD11).sl rfl hkl ?_
  refine iCall ((cO (gt G k) w11).mono ?_)
  rintro _ w12 ⟨x12,vb,rfl,hb,-⟩
  have hb:FmW w11.heap.size w12 vb (fT (gt G k)):=hb hpc
  refine iE20 (iE21 ?_)
  have hkidA:∀ g ∈ (fT (gt G k)).kids,GdA g.body:=fun g hg=>hgk.kid hg
  generalize hfe:fT (gt G k) = f at *
  have hfp:=f.size_pos
  have hD12:=hD11.trans (DCh.ext x12)
  have hS12:=hS11.later x12
  have kdf:∀ {w':World} {K:Value → Prop},FmS w' vb f → K (.int .i64 (f.kind:Int)) → xIa 2 vb (.int .i64 0) fun p=>xFa 0 p fun q=>xLd w' q K:=fun h h'=>iKind h h'
  refine iJnX (fun xs w'=>∃ t:Bool,xs = [.bool t] ∧ Ext w12 w' ∧ (t = true → f.kind = 2)) (fun J hJ=>?_) ?_
  ·refine kdf hb.sl (iEq (iCndP (fun hk2=>?_) (fun hk2=>?_)))
   ·obtain ⟨x,y,hxy⟩:=D4 (f:=f) (by omega)
    have hkk:f.kids = [x,y]:=by rw [hxy];rfl
    refine lft hb.sl hkk hbs hbg fun w16 x16=>iEqT (iCndP (fun _=>?_) (fun _=>?_))
    ·exact hJ _ _ ⟨true,rfl,x16,fun _=>by omega⟩
    ·refine rgt (SlK.ext hb.sl x16) hkk hbs hbg fun w18 x18=>iEqT ?_
     exact hJ _ _ ⟨_,rfl,x16.trans x18,fun _=>by omega⟩
   ·exact hJ _ _ ⟨false,rfl,Ext.refl _,fun e=>by cases e⟩
  rintro _ w14 ⟨t13,rfl,x14,ht13⟩
  intro _
  simp only [gx]
  have hb14:FmS w14 vb f:=SlK.ext hb.sl x14
  have hS14:=hS12.later x14
  have hD14:=hD12.trans (DCh.ext x14)
  have x1114:=x12.trans x14
  cases t13 with
  | true=>
   refine iCndT rfl ?_
   obtain ⟨x,y,hxy⟩:=D4 (f:=f) (ht13 rfl)
   have hkk:f.kids = [x,y]:=by rw [hxy];rfl
   refine lft hb14 hkk hbs hbg fun w20 x20=>iNeT ?_
   have y20:=x1114.trans x20
   refine iJnX (fun xs w'=>∃ q:Int,xs = [.int .i64 q] ∧ w' = w20) (fun J hJ=>iCndP (fun _=>hJ _ _ ⟨5,rfl,rfl⟩) (fun _=>hJ _ _ ⟨4,rfl,rfl⟩)) ?_
   rintro _ w22 ⟨q,rfl,rfl⟩
   intro _
   simp only [gx]
   refine pr0 fun vp w23 x23 hp hpcl=>?_
   have y23:=y20.trans x23
   have hD23:=hD11.trans (DCh.ext y23)
   refine iIaG (hGd hD23).sl rfl hkl ?_
   refine lP rfl hpcl tcell rfl rfl ?_
   refine psh (hst11.ext y23) (hS11.later y23) (szD hD23) (hGd hD23) hp (by decide) (by omega) fun r1 w25 k1 _ k3 k4=>?_
   have hD25:=hD23.trans k4
   refine iLenK k1.row.sl (iSub (by rw [sl];omega) ?_)
   refine pr1 fun vp2 w26 x26 hp2 hpc2=>?_
   have hD26:=hD25.trans (DCh.ext x26)
   refine fY rfl hpc2 tcell rfl ?_
   refine psh (num:=0) (k1.ext x26) (k3.later x26) (szD hD26) (hGd hD26) hp2 (by simp) (by rw [sl];omega) fun r2 w28 m1 _ m3 m4=>?_
   exact fin m1 (by rw [sl,sl];omega) (by rw [sl];omega) m3 (hD26.trans m4)
  | false=>
   refine iCndF rfl ?_
   refine iJnX (fun xs w'=>∃ t:Bool,xs = [.bool t] ∧ Vc.Src eS w0 vc b w' ∧ StO lo w' v1 R ∧ (∃ x,StO lo w' wr (R ++ [x])) ∧ (pCode goal = 0 → FmW w2.heap.size w' va (fT goal)) ∧ DCh w2 w' ∧ FmW w11.heap.size w' vb f ∧ (t = true → f.kind = 4)) (fun J hJ=>?_) ?_
   ·have hbW14:FmW w11.heap.size w14 vb f:=OwK.ext hb x14
    have stay:∀ {w':World} {t:Bool},Ext w14 w' → (t = true → f.kind = 4) → J [.bool t] w':=fun {w' t} x h=>hJ _ _ ⟨t,rfl,hS14.later x,hst11.ext (x1114.trans x),⟨xw,hwr11.ext (x1114.trans x)⟩,fun h=>OwK.ext (ha11 h) (x1114.trans x),hD14.trans (DCh.ext x),OwK.ext hbW14 x,h⟩
    refine kdf hb14 (iEq (iCndP (fun hk4=>?_) (fun hk4=>?_)))
    ·obtain ⟨x,y,hxy⟩:=xP (f:=f) (by omega)
     have hkk:f.kids = [x,y]:=by rw [hxy];rfl
     refine rgt hb14 hkk hbs hbg fun w32 x32=>iEqT (iCndP (fun _=>?_) (fun _=>stay x32 fun e=>by cases e))
     have hS32:=hS14.later x32
     refine iCall ((aG hc hS32 3).mono ?_)
     rintro _ w33 ⟨⟨q,rfl,_,_⟩,hS33,hc33⟩
     have hd33:=DCh.src hS32 hc33
     have y32:=x1114.trans x32
     refine iLt (hJ _ _ ⟨_,rfl,hS33,(hst11.ext y32).src hS32 hc33,⟨xw,(hwr11.ext y32).src hS32 hc33⟩,fun h=>OwK.src (OwK.ext (ha11 h) y32) hS32 (by decide) hc33,(hD14.trans (DCh.ext x32)).trans hd33,OwK.src (OwK.ext hbW14 x32) hS32 (by decide) hc33,fun _=>by omega⟩)
    ·exact stay (Ext.refl _) fun e=>by cases e
   clear hb hb14
   rintro _ w30 ⟨t29,rfl,hS30,hst30,⟨xw2,hwr30⟩,ha30,hD30,hb30,ht29⟩
   intro _
   simp only [gx]
   cases t29 with
   | true=>
    refine iCndT rfl ?_
    obtain ⟨x,y,hxy⟩:=xP (f:=f) (ht29 rfl)
    have hkk:f.kids = [x,y]:=by rw [hxy];rfl
    refine pr0 fun vp w34 x34 hp hpcl=>?_
    have hD34:=hD30.trans (DCh.ext x34)
    refine iIaG (hGd hD34).sl rfl hkl ?_
    refine lP rfl hpcl tcell rfl rfl ?_
    refine psh (hst30.ext x34) (hS30.later x34) (szD hD34) (hGd hD34) hp (by decide) (by omega) fun r1 w36 k1 _ k3 k4=>?_
    have hD36:=hD34.trans k4
    have hb36:FmS w36 vb f:=OwK.sl (OwK.dch (OwK.ext hb30 x34) k4 (by decide) (by decide))
    refine iLenK k1.row.sl (iSub (by rw [sl];omega) ?_)
    refine lft hb36 hkk hbs hbg fun w38 x38=>?_
    refine iSub (by omega) ?_
    rw [show (n:Int) - 1 = ((n - 1:Nat):Int) by omega]
    have hD38:=hD36.trans (DCh.ext x38)
    refine rcu (by omega) (k3.later x38) (k1.ext x38) (szD hD38) (by rw [sl];omega) (hGd hD38) hGl hGa (hkidA x (by rw [hkk];simp)).gdB fun r2 w39 R2 q1 q2 q3 q4 q5=>?_
    rw [sl] at q2
    have hD39:=hD38.trans q5
    refine iLenK q1.row.sl (iSub (by omega) ?_)
    refine pr2 fun vp2 w40 x40 hp2 hpc2=>?_
    have hD40:=hD39.trans (DCh.ext x40)
    refine fY rfl hpc2 tcell rfl ?_
    refine psh (num:=0) (q1.ext x40) (q4.later x40) (szD hD40) (hGd hD40) hp2 (by simp) (by omega) fun r3 w42 m1 _ m3 m4=>?_
    exact fin m1 (by rw [sl];omega) (by rw [sl];omega) m3 (hD40.trans m4)
   | false=>
    refine iCndF rfl ?_
    refine iJnX (fun xs w'=>∃ t:Bool,xs = [.bool t] ∧ Vc.Src eS w0 vc b w' ∧ StO lo w' v1 R ∧ (∃ x,StO lo w' wr (R ++ [x])) ∧ (pCode goal = 0 → FmW w2.heap.size w' va (fT goal)) ∧ DCh w2 w' ∧ FmW w11.heap.size w' vb f ∧ (t = true → f.kind = 3 ∧ G.length < 11 ∧ 1 < n)) (fun J hJ=>?_) ?_
    ·have stay:J [.bool false] w30:=hJ _ _ ⟨false,rfl,hS30,hst30,⟨xw2,hwr30⟩,ha30,hD30,hb30,fun e=>by cases e⟩
     refine kdf hb30.sl (iEq (iCndP (fun hk3=>?_) (fun _=>stay)))
     refine aM (hGd hD30).sl (iLt (iCndP (fun hg11=>?_) (fun _=>stay)))
     refine iLt (iCndP (fun hn2=>?_) (fun _=>stay))
     refine iCall ((aG hc hS30 3).mono ?_)
     rintro _ w45 ⟨⟨q,rfl,_,_⟩,hS45,hc45⟩
     exact iLt (hJ _ _ ⟨_,rfl,hS45,hst30.src hS30 hc45,⟨xw2,hwr30.src hS30 hc45⟩,fun h=>OwK.src (ha30 h) hS30 (by decide) hc45,hD30.trans (DCh.src hS30 hc45),OwK.src hb30 hS30 (by decide) hc45,fun _=>⟨by omega,by omega,by omega⟩⟩)
    rintro _ w44 ⟨t43,rfl,hS44,hst44,⟨xw3,hwr44⟩,ha44,hD44,hb44,ht43⟩
    intro _
    simp only [gx]
    cases t43 with
    | true=>
     refine iCndT rfl ?_
     obtain ⟨hk3,hg11,hn2⟩:=ht43 rfl
     obtain ⟨x,y,hxy⟩:=DF (f:=f) hk3
     have hkk:f.kids = [x,y]:=by rw [hxy];rfl
     have e4:=e4 hn2
     refine lft hb44.sl hkk hbs hbg fun w47 x47=>?_
     refine iBs1 rfl rfl fun c1 w48 _ x48 hB48=>?_
     have y48:=x47.trans x48
     refine wth (hGd (hD44.trans (DCh.ext y48))) hB48 fun g1 w49 x49 hg1=>?_
     have y49:=y48.trans x49
     refine rgt (SlK.ext hb44.sl y49) hkk hbs hbg fun w51 x51=>?_
     refine iBs1 rfl rfl fun c2 w52 _ x52 hB52=>?_
     have y52:=(y49.trans x51).trans x52
     refine wth (hGd (hD44.trans (DCh.ext y52))) hB52 fun g2 w53 x53 hg2=>?_
     have hg1:=hg1.ext ((x51.trans x52).trans x53)
     refine pr0 fun vp w54 x54 hp hpcl=>?_
     have y54:=(y52.trans x53).trans x54
     have hD54:=hD44.trans (DCh.ext y54)
     refine iIaG (hGd hD54).sl rfl hkl ?_
     refine lP rfl hpcl tcell rfl rfl ?_
     refine psh (hst44.ext y54) (hS44.later y54) (szD hD54) (hGd hD54) hp (by decide) (by omega) fun r1 w56 k1 _ k3 k4=>?_
     have hD56:=hD54.trans k4
     have hg1:=Ow.dch (hg1.ext x54) k4 (by decide) (by decide)
     have hg2:=Ow.dch (hg2.ext x54) k4 (by decide) (by decide)
     refine iLenK k1.row.sl (iSub (by rw [sl];omega) ?_)
     refine iSub (by omega) ?_
     rw [show (n:Int) - 2 = ((n - 2:Nat):Int) by omega]
     refine rcu (by omega) k3 k1 (szD hD56) (by rw [sl];omega) hg1 (by rw [List.length_append,List.length_singleton];omega) (gap (hkidA x (by rw [hkk];simp))) hgoal fun r2 w57 R2 q1 q2 q3 q4 q5=>?_
     rw [sl] at q2
     have hD57:=hD56.trans q5
     have hg2:=Ow.dch hg2 q5 (by decide) (by decide)
     refine iLenK q1.row.sl (iSub (by omega) (iSub (by omega) ?_))
     rw [show (n:Int) - 2 = ((n - 2:Nat):Int) by omega]
     refine rcu (by omega) q4 q1 (szD hD57) (by omega) hg2 (by rw [List.length_append,List.length_singleton];omega) (gap (hkidA y (by rw [hkk];simp))) hgoal fun r3 w58 R3 u1 u2 u3 u4 u5=>?_
     have hD58:=hD57.trans u5
     refine iLenK u1.row.sl (iSub (by omega) ?_)
     refine pr3 fun vp2 w59 x59 hp2 hpc2=>?_
     have hD59:=hD58.trans (DCh.ext x59)
     refine fY rfl hpc2 tcell rfl ?_
     refine psh (num:=0) (u1.ext x59) (u4.later x59) (szD hD59) (hGd hD59) hp2 (by simp) (by omega) fun r4 w61 m1 _ m3 m4=>?_
     exact fin m1 (by rw [sl];omega) (by rw [sl];omega) m3 (hD59.trans m4)
    | false=>
     refine iCndF rfl (iAdd (by omega) ?_)
     exact hKn (k + 1) _ ⟨hkl,hS44,hst44,⟨xw3,hwr44⟩,ha44,hD44⟩ (by omega)
 -- the formula itself
 have wrong:AnyQ w0 vc b lo (R.length + 4 * 2 ^ n) w2 wr w11:=fin hwr11 (by rw [sl];omega) (by rw [sl];omega) hS11 hD11
 by_cases hpc:pCode goal = 0
 rotate_left
 ·rw [ha0 hpc]
  exact iLenL (iEq (iCndT (by decide) wrong))
 have ha11:=ha11 hpc
 have hga:=hgoal.gdA hpc
 obtain ⟨-,hag,has,hab⟩:=hga.at
 have hkidA:∀ g ∈ (fT goal).kids,GdA g.body:=fun g hg=>hga.kid hg
 generalize hfe:fT goal = f at *
 have hfp:=f.size_pos
 refine iLenK ha11.sl (iEq (iCndF (decide_eq_false (by omega)) ?_))
 refine iKind ha11.sl ?_
 refine iEq (iCndP (fun hk2=>?_) (fun hk2=>?_))
 ·obtain ⟨x,y,hxy⟩:=D4 (f:=f) (by omega)
  have hkk:f.kids = [x,y]:=by rw [hxy];rfl
  refine lft ha11.sl hkk has hag fun w63 x63=>?_
  refine iSub (by omega) ?_
  rw [show (n:Int) - 1 = ((n - 1:Nat):Int) by omega]
  have hD63:=hD11.trans (DCh.ext x63)
  refine rcu (by omega) (hS11.later x63) (hst11.ext x63) (szD hD63) (by omega) (hGd hD63) hGl hGa (hkidA x (by rw [hkk];simp)).gdB fun r2 w64 R2 q1 q2 q3 q4 q5=>?_
  have hD64:=hD63.trans q5
  have ha64:FmS w64 va f:=OwK.sl (OwK.dch (OwK.ext ha11 x63) q5 (by decide) (by decide))
  refine iLenK q1.row.sl (iSub (by omega) ?_)
  refine rgt ha64 hkk has hag fun w66 x66=>?_
  refine iSub (by omega) ?_
  rw [show (n:Int) - 1 = ((n - 1:Nat):Int) by omega]
  have hD66:=hD64.trans (DCh.ext x66)
  refine rcu (by omega) (q4.later x66) (q1.ext x66) (szD hD66) (by omega) (hGd hD66) hGl hGa (hkidA y (by rw [hkk];simp)).gdB fun r3 w67 R3 u1 u2 u3 u4 u5=>?_
  have hD67:=hD66.trans u5
  refine iLenK u1.row.sl (iSub (by omega) ?_)
  refine pr2 fun vp2 w68 x68 hp2 hpc2=>?_
  have hD68:=hD67.trans (DCh.ext x68)
  refine fY rfl hpc2 tcell rfl ?_
  refine psh (num:=0) (u1.ext x68) (u4.later x68) (szD hD68) (hGd hD68) hp2 (by simp) (by omega) fun r4 w70 m1 _ m3 m4=>?_
  exact fin m1 (by rw [sl];omega) (by rw [sl];omega) m3 (hD68.trans m4)
 refine iEq (iCndP (fun hk3=>?_) (fun hk3=>?_))
 ·obtain ⟨x,y,hxy⟩:=DF (f:=f) (by omega)
  have hkk:f.kids = [x,y]:=by rw [hxy];rfl
  refine iCall ((dK ha11.sl hkk (by omega)).mono ?_)
  rintro vl w71 ⟨x71,hvl⟩
  have hS71:=hS11.later x71
  refine iCall ((aG hc hS71 2).mono ?_)
  rintro _ w72 ⟨⟨q,rfl,_,_⟩,hS72,hc72⟩
  have hd72:=DCh.src hS71 hc72
  have hst72:=(hst11.ext x71).src hS71 hc72
  have hvl72:=VF hvl hS71 hvi hc72
  have ha72:=OwK.src (OwK.ext ha11 x71) hS71 (by decide) hc72
  have hD72:=(hD11.trans (DCh.ext x71)).trans hd72
  refine iEq ?_
  refine iJnX (fun xs w'=>∃ (rl:Int) (u:Value) (g:Fm),xs = [.int .i64 rl,u] ∧ Ext w72 w' ∧ FmS w' u g ∧ g ∈ f.kids) (fun J hJ=>?_) ?_
  ·refine iCndP (fun _=>?_) (fun _=>?_)
   ·refine iCall ((c8 ha72.sl hkk (by omega)).mono ?_)
    rintro u w75 ⟨x75,hu⟩
    exact hJ _ _ ⟨7,u,y,rfl,x75,hu,by rw [hkk];simp⟩
   ·exact hJ _ _ ⟨6,vl,x,rfl,Ext.refl _,hvl72,by rw [hkk];simp⟩
  rintro _ w74 ⟨rl,u,g,rfl,x74,hu,hg⟩
  intro _
  simp only [gx]
  have hgs:=lY g hg
  refine iRet (bD hu (cE hag g hg) (by omega)) fun w76 x76=>?_
  refine iSub (by omega) ?_
  rw [show (n:Int) - 1 = ((n - 1:Nat):Int) by omega]
  have y76:=x74.trans x76
  have hD76:=hD72.trans (DCh.ext y76)
  refine rcu (by omega) (hS72.later y76) (hst72.ext y76) (szD hD76) (by omega) (hGd hD76) hGl hGa (hkidA g hg).gdB fun r2 w77 R2 q1 q2 q3 q4 q5=>?_
  have hD77:=hD76.trans q5
  refine iLenK q1.row.sl (iSub (by omega) ?_)
  refine pr1 fun vp2 w78 x78 hp2 hpc2=>?_
  have hD78:=hD77.trans (DCh.ext x78)
  refine fY rfl hpc2 tcell rfl ?_
  refine psh (num:=0) (q1.ext x78) (q4.later x78) (szD hD78) (hGd hD78) hp2 (by simp) (by omega) fun r4 w80 m1 _ m3 m4=>?_
  exact fin m1 (by rw [sl];omega) (by rw [sl];omega) m3 (hD78.trans m4)
 refine iEq (iCndP (fun hk4=>?_) (fun hk4=>wrong))
 obtain ⟨x,y,hxy⟩:=xP (f:=f) (by omega)
 have hkk:f.kids = [x,y]:=by rw [hxy];rfl
 refine aM (hGd hD11).sl (iEq (iCndP (fun h12=>wrong) (fun h12=>?_)))
 refine lft ha11.sl hkk has hag fun w82 x82=>?_
 refine iBs1 rfl rfl fun c1 w83 _ x83 hB83=>?_
 have y83:=x82.trans x83
 refine wth (hGd (hD11.trans (DCh.ext y83))) hB83 fun g1 w84 x84 hg1=>?_
 have y84:=y83.trans x84
 refine rgt (SlK.ext ha11.sl y84) hkk has hag fun w86 x86=>?_
 refine iSub (by omega) ?_
 rw [show (n:Int) - 1 = ((n - 1:Nat):Int) by omega]
 have y86:=y84.trans x86
 have hD86:=hD11.trans (DCh.ext y86)
 refine rcu (by omega) (hS11.later y86) (hst11.ext y86) (szD hD86) (by omega) (hg1.ext x86) (by rw [List.length_append,List.length_singleton];omega) (gap (hkidA x (by rw [hkk];simp))) (hkidA y (by rw [hkk];simp)).gdB fun r2 w87 R2 q1 q2 q3 q4 q5=>?_
 have hD87:=hD86.trans q5
 refine iLenK q1.row.sl (iSub (by omega) ?_)
 refine pr1 fun vp2 w88 x88 hp2 hpc2=>?_
 have hD88:=hD87.trans (DCh.ext x88)
 refine fY rfl hpc2 tcell rfl ?_
 refine psh (num:=0) (q1.ext x88) (q4.later x88) (szD hD88) (hGd hD88) hp2 (by simp) (by omega) fun r4 w90 m1 _ m3 m4=>?_
 exact fin m1 (by rw [sl];omega) (by rw [sl];omega) m3 (hD88.trans m4)
end Go.Proofs.YtkjoppimpmojfaaGreat

namespace Go.Vc
theorem OwK.openK {k lo n:Nat} {e:TypeId} {w:World} {v:Value} {xs:List Value} (h:OwK k lo e w v n xs) (hn:0 < n):∃ g cap cur,v = .slice (some ⟨g,0,none⟩) n cap ∧ lo ≤ g ∧ Blk e w g cur ∧ n ≤ cap ∧ cap ≤ 9223372036854775807 ∧ cur.length = cap * k ∧ cur.take (n * k) = xs:=by
 obtain ⟨_,⟨_,h0⟩ | ⟨g,cap,cur,hv,hg,hh,h1,h2,h3,h4⟩⟩:=h
 ·omega
 ·exact ⟨g,cap,cur.toList,hv,hg,by unfold Blk;rw [Array.toArray_toList];exact hh,h1,h2,by simpa using h3,h4⟩
theorem OwK.shutK {k lo n g cap:Nat} {e:TypeId} {w:World} {cur xs:List Value} (hg:lo ≤ g) (hB:Blk e w g cur) (h1:n ≤ cap) (h2:cap ≤ 9223372036854775807) (h3:cur.length = cap * k) (h4:cur.take (n * k) = xs) (hx:xs.length = n * k):OwK k lo e w (.slice (some ⟨g,0,none⟩) n cap) n xs:=
 ⟨hx,.inr ⟨g,cap,cur.toArray,rfl,hg,hB,h1,h2,by simpa using h3,by simpa using h4⟩⟩
theorem AH:∀ {R:List DV} {j f:Nat} {u:Value} {y:DV},j < R.length → f < 5 → y.cs = (gt R j).cs.set f u → (aO R).set (j * 5 + f) u = aO (R.set j y)
 | [],_,_,_,_,h,_,_=>by simp at h
 | x :: R,0,f,u,y,_,hf,hy=>by
  show (x.cs ++ aO R).set (0 * 5 + f) u = y.cs ++ aO R
  rw [Nat.zero_mul,Nat.zero_add,List.set_append_left _ _ (by simp [DV.cs];omega)]
  congr 1
  exact hy.symm
 | x :: R,j + 1,f,u,y,h,hf,hy=>by
  have:=AH (R:=R) (j:=j) (f:=f) (u:=u) (y:=y) (by simpa using h) hf hy
  show (x.cs ++ aO R).set ((j + 1) * 5 + f) u = x.cs ++ aO (R.set j y)
  rw [List.set_append_right _ _ (by show 5 ≤ (j + 1) * 5 + f;omega),← this]
  congr 2
  show (j + 1) * 5 + f - 5 = j * 5 + f
  omega
theorem iWrD {e:TypeId} {lo:Nat} {w:World} {v x:Value} {R:List DV} {y:DV} {z:Int} {j f:Nat} {k:IntKind} {K:World → Prop} (hs:OwK 5 lo e w v R.length (aO R)) (hz:z = (j:Int)) (hj:j < R.length) (hf:f < 5) (hx:aD x = true) (hy:y.cs = (gt R j).cs.set f x)
  (h:∀ w',OwK 5 lo e w' v (R.set j y).length (aO (R.set j y)) → Ch (fun c=>v.ownBlock = some c) w w' → K w'):xIa 5 v (.int k z) fun p=>xFa f p fun q=>xSt w q x K:=by
 subst hz
 obtain ⟨g,cap,cur,rfl,hg,hB,h1,h2,h3,h4⟩:=OwK.openK hs (by omega)
 refine ⟨_,_,_,_,_,rfl,rfl,by omega,by omega,?_⟩
 rw [Int.toNat_natCast,dB,Nat.zero_add]
 have hm:(j + 1) * 5 ≤ cap * 5:=Nat.mul_le_mul_right _ (by omega)
 refine iFa (iStU hB (by omega) hx fun w' hB' hu=>?_)
 refine h w' ?_ (hu.ch (S:=fun c=>_ = some c) rfl)
 rw [List.length_set,← AH hj hf hy]
 exact OwK.shutK hg hB' h1 h2 (by rw [List.length_set];exact h3) (by rw [← h4,List.take_set]) (by rw [List.length_set];exact JS R)
theorem iAddW {a b:Int} {K:Value → Prop} (h:∀ c,K (.int .i64 c)):xAdd .i64 (.int .i64 a) (.int .i64 b) K:=⟨_,_,rfl,rfl,h _⟩
theorem WA {P:Program} {w:World} {k:Nat} {t ty e:TypeId} {z:Value} {bytes g q:Nat} {ys:List Value} {K:Value → World → Prop} (ht:P.underlying t = some (.slice e)) (hi:(P.info? e).map (fun i=>(i.zero,i.size,i.bytes)) = some (some z,k,bytes)) (hz:z.cells.size = k)
  (hB:Blk e w q ys) (hyl:ys.length = k) (hb:1 * bytes ≤ 140737488355328)
  (h:∀ v' w',Ext w w' → OwK k w.heap.size e w' v' 1 ys → K v' w'):xOp P (Builtin.append_ #[t,t] ty #[.slice (some ⟨g,0,none⟩) 0 0,.slice (some ⟨q,0,none⟩) 1 1]) w K:=by
 obtain ⟨i,hi,h3'⟩:=Option.map_eq_some_iff.1 hi
 simp only [Prod.mk.injEq] at h3'
 obtain ⟨hz0,hsz,hby⟩:=h3'
 have hsrc:∀ j u,ys[j]? = some u → w.cell? ((⟨q,0,none⟩:Addr).add j) = some u:=fun j u hu=>by
  rw [dB,hB.cell,Nat.zero_add,hu]
 have hr:=run_append_grow (P:=P) w t ty e i z ht hi hz0 ⟨g,0,none⟩ 0 0 [] (by simp) (by simp) ⟨q,0,none⟩ 1 1 ys (by rw [hsz];omega) hsrc (by omega) (by omega) (by rw [hby];exact growslice_fits (by omega) hb)
 have hge:=grownCap_ge w (0 + 1) 0 e
 have hgm:=grownCap_le_maxLen w (0 + 1) 0 e (by decide)
 refine ⟨_,_,hr,h _ _ ((Ext.drew w).trans (Ext.alloc _ _)) ?_⟩
 refine ⟨by omega,.inr ⟨w.heap.size,_,_,rfl,Nat.le_refl _,heap_alloc_new w.drew _,hge,hgm,?_,?_⟩⟩
 ·simp only [Array.size_append,List.size_toArray,size_zeroCells,hz,hyl,List.length_nil]
  have:grownCap w (0 + 1) 0 e = 1 + (grownCap w (0 + 1) 0 e - (0 + 1)):=by omega
  conv=>rhs;rw [this,Nat.add_mul,Nat.one_mul]
  omega
 ·simp [hyl]
end Go.Vc
namespace Go.Proofs.YtkjoppimpmojfaaGreat
open Go.Vc
theorem L8 {x:DV} {vn:Value} {N:List Int} {w:World} (hp:SlI w x.vp x.d.prem) (ha:SlT w x.vl x.d.asm) (hn:SlI w vn N) (hl:x.d.prem.length ≤ 100000 ∧ x.d.asm.length ≤ 100000):
  Cal Tryz.prog B8 #[.agg x.cs.toArray,vn] w fun r w'=>Ext w w' ∧ ∃ y:DV,r = .agg y.cs.toArray ∧ Ow w.heap.size t_i64 w' y.vp (ints y.d.prem) ∧ TxW w.heap.size w' y.vl y.d.asm ∧ y.d.prem.length = x.d.prem.length ∧ y.d.asm = x.d.asm:=by
 apply NP;unfold BY
 have hNl:=hn.len
 refine iNew5 fun q1 w1 hq1 x1 hB1=>?_
 refine iNew5 fun q2 w2 hq2 x2 hB2=>?_
 have hB1:Blk aC w1 q1 [.int .i64 x.d.rule,x.vp,x.vl,sv x.d.con,.int .i64 x.d.num]:=hB1
 refine iBs0 fun u w3 hw3 x3 ho3=>?_
 have X3:=(x1.trans x2).trans x3
 refine iLp (fun s:Value × Nat=>[s.1,.int .i64 (s.2:Int)]) (fun s w'=>s.2 ≤ x.d.prem.length ∧ Ext w w' ∧ Blk aC w' q1 [.int .i64 x.d.rule,x.vp,x.vl,sv x.d.con,.int .i64 x.d.num] ∧ (∃ cs,cs.length = 5 ∧ Blk aC w' q2 cs) ∧ ∃ L:List Int,L.length = s.2 ∧ Ow w.heap.size t_i64 w' s.1 (ints L)) (fun s=>x.d.prem.length - s.2) (u,0) rfl ⟨Nat.zero_le _,X3,hB1.ext (x2.trans x3),⟨_,rfl,hB2.ext x3⟩,[],rfl,ho3.mono ((x1.trans x2).size)⟩ ?_
 rintro ⟨z,i⟩ w5 Kn ⟨hi,X5,hB5,⟨cs,hcs,hC5⟩,L,hL,ho⟩ hKn
 have hi:i ≤ x.d.prem.length:=hi
 have hL:L.length = i:=hL
 have ho:Ow w.heap.size t_i64 w5 z (ints L):=ho
 have pm:∀ {w':World} {K:Value → Prop},Blk aC w' q1 [.int .i64 x.d.rule,x.vp,x.vl,sv x.d.con,.int .i64 x.d.num] → K x.vp → xFa 1 (.pointer (some ⟨q1,0,none⟩)) fun p=>xLd w' p K:=fun hB h=>iFa (iLdB hB (i:=1) (v:=x.vp) rfl h)
 intro _
 simp only [gx]
 refine pm hB5 (iLenI (SlI.ext hp X5) (iLt (iCndP (fun hlt=>?_) (fun hlt=>?_))))
 ·have hil:i < x.d.prem.length:=by omega
  refine pm hB5 (iIaN (SlI.ext hp X5) hil fun p1 hp1=>iLd hp1 ?_)
  refine iLenI (SlI.ext hn X5) (iSub (by omega) ?_)
  refine iRet (kX _ _ _ w5) fun w6 x6=>iNot ?_
  have put:∀ {a:Int} {w':World},Ext w5 w' → xBs t_i64 (Value.cells (.int .i64 0)) 1 1 [(0,.int .i64 a)] w' fun y w1=>xOp Tryz.prog (Builtin.append_ #[MC,MC] MC #[z,y]) w1 fun v' w2=>xAdd .i64 (.int .i64 (i:Int)) (.int .i64 1) fun v14=>Kn [v',v14] w2:=fun {a w'} xx=>by
   refine sR n6 nR rfl (ho.ext xx) rfl (by rw [bA];omega) (by rw [bA];omega) (X5.trans xx).size fun z' w8 ho8 hg8 _=>?_
   have hch:=dG (S:=fun k=>z.ownBlock = some k) hg8 fun k hk=>hk
   refine iAdd (by omega) ?_
   refine hKn (z',i + 1) _ ⟨hil,(X5.trans xx).thenCh hch fun c hc=>(ho.blk c hc).1,(hB5.ext xx).ch hch fun hS=>(ho.ext xx).ne_blk (hB5.ext xx) (by decide) hS,⟨cs,hcs,(hC5.ext xx).ch hch fun hS=>(ho.ext xx).ne_blk (hC5.ext xx) (by decide) hS⟩,L ++ [a],by rw [List.length_append,hL];rfl,?_⟩ (by show x.d.prem.length - (i + 1) < x.d.prem.length - i;omega)
   show Ow _ _ _ z' (ints (L ++ [a]))
   rw [show ints (L ++ [a]) = ints L ++ [.int .i64 a] by simp [ints]]
   exact ho8
  refine iCnd (fun h=>?_) (fun h=>?_)
  ·refine pm (hB5.ext x6) (iIaN ((SlI.ext hp X5).ext x6) hil fun p1 hp1=>iLd hp1 ?_)
   exact put x6
  ·have hin:0 ≤ x.d.prem.getD i 0 ∧ x.d.prem.getD i 0 ≤ (N.length:Int) - 1:=by simpa using h
   refine pm (hB5.ext x6) (iIaN ((SlI.ext hp X5).ext x6) hil fun p1 hp1=>iLd hp1 ?_)
   refine iIaI ((SlI.ext hn X5).ext x6) hin.1 (by omega) fun p2 hp2=>iLd hp2 ?_
   exact put x6
 ·have hie:i = x.d.prem.length:=by omega
  refine iFa (iLdB hB5 (i:=0) (v:=.int .i64 x.d.rule) rfl ?_)
  refine iFa (iLdB hB5 (i:=2) (v:=x.vl) rfl ?_)
  refine iFa (iLdB hB5 (i:=3) (v:=sv x.d.con) rfl ?_)
  refine iFa (iLdB hB5 (i:=4) (v:=.int .i64 x.d.num) rfl ?_)
  intro w11 x11
  refine iCall ((i9 (Sl.ext (Sl.ext ha X5) x11) (by omega)).mono ?_)
  rintro u12 w12 ⟨x12,ho12⟩
  refine ⟨x12,?_⟩
  refine lP rfl ho.cell ho12.cell rfl rfl ?_
  intro w13 x13
  have x513:=(x11.trans x12).trans x13
  refine iStAB (hC5.ext x513) hcs rfl (fun v hv=>by
   simp only [List.mem_cons,List.not_mem_nil,or_false] at hv
   rcases hv with rfl | rfl | rfl | rfl | rfl
   ·rfl
   ·exact ho.cell
   ·exact ho12.cell
   ·rfl
   ·rfl) fun w14 hu14 hB14=>?_
  intro w15 x15
  refine iLdA (hB14.ext x15) rfl ?_
  have hch:=hu14.ch (S:=fun c=>c = q2) rfl
  have hq:w.heap.size ≤ q2:=by have:=x1.size;omega
  refine ⟨((X5.trans x513).thenCh hch fun c hc=>by rw [hc];exact hq).trans x15,⟨⟨x.d.rule,L,x.d.asm,x.d.con,x.d.num⟩,z,u12⟩,rfl,?_,?_,by rw [← hie];exact hL,rfl⟩
  ·refine Ow.ext (Ow.ch (ho.ext x513) hch fun c hc hS=>?_) x15
   subst hS
   exact (ho.ext x513).ne_blk (hC5.ext x513) (by decide) hc
  ·refine Ow.ext (Ow.ch ((ho12.ext x13).mono (X5.trans x11).size) hch fun c hc hS=>?_) x15
   subst hS
   exact (ho12.ext x13).ne_blk (hC5.ext x513) (by decide) hc
def BeD (lo:Nat) (w:World) (v:Value) (Q:List DV):Prop:=(Q = [] ∧ ∃ g,v = .slice (some ⟨g,0,none⟩) 0 0) ∨ OwDs lo w v Q
def TyR (lo:Nat) (w:World) (c:Nat):Prop:=lo ≤ c ∧ ∃ cs,Blk aC w c cs
theorem BeD.push {lo:Nat} {w:World} {v:Value} {Q:List DV} {y:DV} {z:Value} {K:Value → World → Prop} (hz:z = .agg #[.int .i64 0,.slice none 0 0,.slice none 0 0,.string ⟨#[]⟩,.int .i64 0]) (h:BeD lo w v Q) (hp:Ow lo t_i64 w y.vp (ints y.d.prem)) (ha:Ow lo aB w y.vl (strs y.d.asm))
  (np:∀ j,j < Q.length → ∀ c,(gt Q j).vp.ownBlock = some c → y.vp.ownBlock ≠ some c) (nl:∀ j,j < Q.length → ∀ c,(gt Q j).vl.ownBlock = some c → y.vl.ownBlock ≠ some c) (hQ:Q.length ≤ 1000000) (hlo:lo ≤ w.heap.size)
  (hK:∀ v' w',OwDs lo w' v' (Q ++ [y]) → Ch (TyR lo w) w w' → K v' w'):xBs aC (Value.cells z) 5 1 [(0,.agg y.cs.toArray)] w fun u w1=>xOp Tryz.prog (Builtin.append_ #[aZ,aZ] aZ #[v,u]) w1 K:=by
 subst hz
 refine iBs15 fun q w1 hq x1 hB=>?_
 have hyc:∀ u ∈ y.cs,aD u = true:=fun u hu=>by
  simp only [DV.cs,List.mem_cons,List.not_mem_nil,or_false] at hu
  rcases hu with rfl | rfl | rfl | rfl | rfl
  ·rfl
  ·exact hp.cell
  ·exact ha.cell
  ·rfl
  ·rfl
 have gl:∀ {i:Nat},i < Q.length → gt (Q ++ [y]) i = gt Q i:=fun hi=>by rw [gt_eq (by rw [List.length_append];omega),gt_eq hi,List.getElem_append_left hi]
 have ge:gt (Q ++ [y]) Q.length = y:=BO Q y
 have fin:∀ {v':Value} {w':World},OwK 5 lo aC w' v' (Q.length + 1) (aO Q ++ y.cs) → Ch (TyR lo w) w w' → (∀ j,j < Q.length → Ow lo t_i64 w' (gt Q j).vp (ints (gt Q j).d.prem)) → (∀ j,j < Q.length → Ow lo aB w' (gt Q j).vl (strs (gt Q j).d.asm)) →
   (∀ a b,a < Q.length → b < Q.length → a ≠ b → ∀ c,(gt Q a).vp.ownBlock = some c → (gt Q b).vp.ownBlock ≠ some c) → (∀ a b,a < Q.length → b < Q.length → a ≠ b → ∀ c,(gt Q a).vl.ownBlock = some c → (gt Q b).vl.ownBlock ≠ some c) → K v' w':=fun {v' w'} h1 hc h2 h3 h4 h5=>by
  have ty:∀ {c:Nat} {e:TypeId} {u:Value} {xs:List Value},Ow lo e w u xs → e ≠ aC → u.ownBlock = some c → ¬ TyR lo w c:=fun ho hne hc' hS=>by
   obtain ⟨_,cs,hS⟩:=hS
   exact ho.ne_blk hS hne hc'
  refine hK v' w' ⟨?_,fun j hj=>?_,fun j hj=>?_,fun a b h6 h7 hab c hc'=>?_,fun a b h6 h7 hab c hc'=>?_⟩ hc
  ·rw [List.length_append,List.length_singleton,uY,show aO [y] = y.cs by simp [aO]]
   exact h1
  ·rw [List.length_append,List.length_singleton] at hj
   by_cases e:j < Q.length
   ·rw [gl e];exact h2 j e
   ·rw [show j = Q.length by omega,ge];exact hp.ch hc fun c hc'=>ty hp (by decide) hc'
  ·rw [List.length_append,List.length_singleton] at hj
   by_cases e:j < Q.length
   ·rw [gl e];exact h3 j e
   ·rw [show j = Q.length by omega,ge];exact ha.ch hc fun c hc'=>ty ha (by decide) hc'
  ·rw [List.length_append,List.length_singleton] at h6 h7
   by_cases e:a < Q.length
   ·rw [gl e] at hc'
    by_cases e':b < Q.length
    ·rw [gl e'];exact h4 a b e e' hab c hc'
    ·rw [show b = Q.length by omega,ge];exact np a e c hc'
   ·rw [show a = Q.length by omega,ge] at hc'
    rw [gl (show b < Q.length by omega)]
    intro hb
    exact np b (by omega) c hb hc'
  ·rw [List.length_append,List.length_singleton] at h6 h7
   by_cases e:a < Q.length
   ·rw [gl e] at hc'
    by_cases e':b < Q.length
    ·rw [gl e'];exact h5 a b e e' hab c hc'
    ·rw [show b = Q.length by omega,ge];exact nl a e c hc'
   ·rw [show a = Q.length by omega,ge] at hc'
    rw [gl (show b < Q.length by omega)]
    intro hb
    exact nl b (by omega) c hb hc'
 rcases h with ⟨rfl,g,rfl⟩ | h
 ·refine WA f7 gD rfl hB rfl (by omega) fun v' w' x' ho=>?_
  exact fin (OwK.mono ho (Nat.le_trans hlo x1.size)) (x1.trans x').ch (fun j hj=>absurd hj (Nat.not_lt_zero j)) (fun j hj=>absurd hj (Nat.not_lt_zero j)) (fun a _ ha=>absurd ha (Nat.not_lt_zero a)) (fun a _ ha=>absurd ha (Nat.not_lt_zero a))
 ·have h1:=h.ext x1
  refine IK f7 gD rfl (by decide) h1.row hB rfl hyc (by omega) (by omega) (Nat.le_trans hlo x1.size) fun v' w' ho hk hc _=>?_
  have hd:∀ {e:TypeId} {u:Value} {xs:List Value},Ow lo e w1 u xs → e ≠ aC → Ow lo e w' u xs:=fun ho' hne=>ho'.ch hc fun c hc' hS=>by
   obtain ⟨cur,hh⟩:=OwK.ty h1.row hS
   exact ho'.ne_blk (show Blk aC w1 c cur.toList by unfold Blk;rw [hh]) hne hc'
  refine fin ho (Ch.trans x1.ch hc fun c hc'=>.inl ?_) (fun j hj=>hd (h1.prem j hj) (by decide)) (fun j hj=>hd (h1.asm j hj) (by decide)) h.dp h.dl
  obtain ⟨cur,hh⟩:=OwK.ty h.row hc'
  exact ⟨(OwK.blk h.row c hc').1,cur.toList,by unfold Blk;rw [hh]⟩
theorem iBsZ5 {w:World} {e:TypeId} {z0 z1 z2 z3 z4:Value} {K:Value → World → Prop} (h:∀ g w',Ext w w' → K (.slice (some ⟨g,0,none⟩) 0 0) w'):xBs e (Value.cells (.agg #[z0,z1,z2,z3,z4])) 5 0 [] w K:=by
 refine ⟨#[],?_,h _ _ (Ext.alloc w _)⟩
 simp [Instr.fill]
theorem uN {v:Value} {R:List DV} {w:World} (h:RdD w v R) (hR:R.length ≤ 100000) (hs:∀ x ∈ R,x.d.prem.length ≤ 100000 ∧ x.d.asm.length ≤ 100000) (hR0:0 < R.length) {g:Nat}:
  Cal Tryz.prog vN #[.slice (some ⟨g,0,none⟩) 0 0,v] w fun r w'=>Ext w w' ∧ ∃ Q,OwDs w.heap.size w' r Q ∧ Q.length = R.length ∧ ∀ j,j < R.length → (gt Q j).d.prem.length = (gt R j).d.prem.length ∧ (gt Q j).d.asm = (gt R j).d.asm:=by
 apply IX;unfold vJ
 refine iBs0 fun u w1 _ x1 ho1=>?_
 refine iLp (fun s:Value × Value × Nat=>[s.1,s.2.1,.int .i64 (s.2.2:Int)]) (fun s w'=>s.2.2 ≤ R.length ∧ Ext w w' ∧ ∃ (Q:List DV) (N:List Int),BeD w.heap.size w' s.1 Q ∧ Q.length = s.2.2 ∧ N.length = s.2.2 ∧ Ow w.heap.size t_i64 w' s.2.1 (ints N) ∧ (∀ j,j < Q.length → ∀ c,(gt Q j).vp.ownBlock = some c → s.2.1.ownBlock ≠ some c) ∧ ∀ j,j < Q.length → (gt Q j).d.prem.length = (gt R j).d.prem.length ∧ (gt Q j).d.asm = (gt R j).d.asm) (fun s=>R.length - s.2.2) (.slice (some ⟨g,0,none⟩) 0 0,u,0) rfl
  ⟨Nat.zero_le _,x1,[],[],.inl ⟨rfl,_,rfl⟩,rfl,rfl,ho1,fun j hj=>absurd hj (Nat.not_lt_zero j),fun j hj=>absurd hj (Nat.not_lt_zero j)⟩ ?_
 rintro ⟨o,n,i⟩ w3 Kn ⟨hi,x3,Q,N,hQ,hQl,hNl,hn,hsep,hsame⟩ hKn
 have hi:i ≤ R.length:=hi
 have hQl:Q.length = i:=hQl
 have hNl:N.length = i:=hNl
 have hn:Ow w.heap.size t_i64 w3 n (ints N):=hn
 have hQ:BeD w.heap.size w3 o Q:=hQ
 have hsep:∀ j,j < Q.length → ∀ c,(gt Q j).vp.ownBlock = some c → n.ownBlock ≠ some c:=hsep
 intro _
 simp only [gx]
 refine iLenK (h.ext x3).row (iLt (iCndP (fun hlt=>?_) (fun hlt=>?_)))
 ·have hil:i < R.length:=by omega
  have hm:gt R i ∈ R:=by rw [gt_eq hil];exact List.getElem_mem _
  have hlen:∀ {K:Value → Prop},K (.int .i64 (i:Int)) → xLenS o K:=fun hK=>by
   rcases hQ with ⟨rfl,g',rfl⟩ | hQ
   ·have:i = 0:=hQl.symm
    subst this
    exact ⟨_,_,_,rfl,hK⟩
   ·exact iLenK hQ.row.sl (by rw [hQl];exact hK)
  refine hlen ?_
  refine sR n6 nR rfl hn rfl (by rw [bA];omega) (by rw [bA];omega) x3.size fun n' w5 hn5 hg5 hat5=>?_
  have hch5:=dG (S:=fun k=>n.ownBlock = some k) hg5 fun k hk=>hk
  have x5:Ext w w5:=x3.thenCh hch5 fun c hc=>(hn.blk c hc).1
  have hQ5:BeD w.heap.size w5 o Q:=by
   rcases hQ with h0 | hQ
   ·exact .inl h0
   ·refine .inr ⟨OwK.ch hQ.row hch5 fun c hc hS=>?_,fun j hj=>(hQ.prem j hj).ch hch5 fun c hc hS=>hsep j hj c hc hS,fun j hj=>(hQ.asm j hj).ch hch5 fun c hc hS=>?_,hQ.dp,hQ.dl⟩
    ·obtain ⟨cur,hh⟩:=OwK.ty hQ.row hc
     exact hn.ne_blk (show Blk aC w3 c cur.toList by unfold Blk;rw [hh]) (by decide) hS
    ·obtain ⟨cur,hh⟩:=hn.ty hS
     exact (hQ.asm j hj).ne_blk (show Blk t_i64 w3 c cur.toList by unfold Blk;rw [hh]) (by decide) hc
  have bq:∀ j,j < Q.length → ∀ c,(gt Q j).vp.ownBlock = some c ∨ (gt Q j).vl.ownBlock = some c → c < w3.heap.size:=fun j hj c hc=>by
   rcases hQ with ⟨rfl,_⟩ | hQ
   ·exact absurd hj (Nat.not_lt_zero j)
   ·rcases hc with hc | hc
    ·exact ((hQ.prem j hj).blk c hc).2
    ·exact ((hQ.asm j hj).blk c hc).2
  have hsep5:∀ j,j < Q.length → ∀ c,(gt Q j).vp.ownBlock = some c → n'.ownBlock ≠ some c:=fun j hj c hc hc'=>by
   rcases hat5 with e | ⟨c',e,he⟩
   ·exact hsep j hj c hc (e ▸ hc')
   ·rw [e] at hc'
    cases hc'
    have:=bq j hj c (.inl hc)
    omega
  have hn5:Ow w.heap.size t_i64 w5 n' (ints (N ++ [(i:Int)])):=by
   rw [show ints (N ++ [(i:Int)]) = ints N ++ [.int .i64 (i:Int)] by simp [ints]]
   exact hn5
  refine iAtD (h.ext x5).row rfl hil ?_
  refine iCall ((L8 ((h.ext x5).prem _ hm) ((h.ext x5).asm _ hm) hn5.sl (hs _ hm)).mono ?_)
  rintro _ w6 ⟨x6,y,rfl,hyp,hyl,hy1,hy2⟩
  have hQ6:BeD w.heap.size w6 o Q:=by
   rcases hQ5 with h0 | hQ
   ·exact .inl h0
   ·exact .inr (hQ.ext x6)
  have h35:w3.heap.size ≤ w5.heap.size:=hch5.size
  have hn6:=hn5.ext x6
  refine BeD.push rfl hQ6 (hyp.mono x5.size) (hyl.mono x5.size) (fun j hj c hc hc'=>?_) (fun j hj c hc hc'=>?_) (by omega) (x5.trans x6).size fun o' w8 hQ8 hc8=>?_
  ·have:=bq j hj c (.inl hc)
   have:=(hyp.blk c hc').1
   omega
  ·have:=bq j hj c (.inr hc)
   have:=(hyl.blk c hc').1
   omega
  have gl:∀ {j:Nat},j < Q.length → gt (Q ++ [y]) j = gt Q j:=fun hj=>by rw [gt_eq (by rw [List.length_append];omega),gt_eq hj,List.getElem_append_left hj]
  have ge:gt (Q ++ [y]) Q.length = y:=BO Q y
  refine iAdd (by omega) ?_
  refine hKn (o',n',i + 1) _ ⟨hil,(x5.trans x6).thenCh hc8 fun c hc=>hc.1,Q ++ [y],N ++ [(i:Int)],.inr hQ8,by rw [List.length_append,hQl];rfl,by rw [List.length_append,hNl];rfl,hn6.ch hc8 fun c hc hS=>?_,fun j hj c hc=>?_,fun j hj=>?_⟩ (by show R.length - (i + 1) < R.length - i;omega)
  ·obtain ⟨_,cs,hS⟩:=hS
   exact hn6.ne_blk hS (by decide) hc
  ·rw [List.length_append,List.length_singleton] at hj
   by_cases e:j < Q.length
   ·rw [gl e] at hc;exact hsep5 j e c hc
   ·rw [show j = Q.length by omega,ge] at hc
    intro hc'
    have h1:=(hyp.blk c hc).1
    have h2:=(hn5.blk c hc').2
    omega
  ·rw [List.length_append,List.length_singleton] at hj
   by_cases e:j < Q.length
   ·rw [gl e];exact hsame j e
   ·rw [show j = Q.length by omega,ge,hQl];exact ⟨hy1,hy2⟩
 ·have hie:i = R.length:=by omega
  rcases hQ with ⟨rfl,_⟩ | hQ
  ·rw [List.length_nil] at hQl;omega
  ·exact ⟨x3,Q,hQ,by omega,fun j hj=>hsame j (by omega)⟩
end Go.Proofs.YtkjoppimpmojfaaGreat

namespace Go.Vc
theorem iFdD {w:World} {v x:Value} {R:List DV} {j f:Nat} {k:IntKind} {K:Value → Prop} (hs:SlK 5 w v R.length (aO R)) (hj:j < R.length) (hf:f < 5) (hx:(gt R j).cs[f]? = some x) (h:K x):xIa 5 v (.int k (j:Int)) fun p=>xFa f p fun q=>xLd w q K:=
 iFld5 hs hj hf (by rw [iQ hj f hf];exact hx) h
theorem iAtDq {e:TypeId} {lo:Nat} {w:World} {v:Value} {R:List DV} {j f:Nat} {k:IntKind} {A:Value → Prop} (hs:OwK 5 lo e w v R.length (aO R)) (hj:j < R.length) (hf:f < 5)
  (h:∀ q,(∀ (w':World) (x:Value) (K:Value → Prop),OwK 5 lo e w' v R.length (aO R) → (gt R j).cs[f]? = some x → K x → xLd w' q K) →
   (∀ (w':World) (x:Value) (y:DV) (K:World → Prop),OwK 5 lo e w' v R.length (aO R) → aD x = true → y.cs = (gt R j).cs.set f x → (∀ w'',OwK 5 lo e w'' v (R.set j y).length (aO (R.set j y)) → Ch (fun c=>v.ownBlock = some c) w' w'' → K w'') → xSt w' q x K) → A q):xIa 5 v (.int k (j:Int)) fun p=>xFa f p A:=by
 obtain ⟨g,cap,cur,rfl,hg,hB,h1,h2,h3,h4⟩:=OwK.openK hs (by omega)
 refine ⟨_,_,_,_,_,rfl,rfl,by omega,by omega,?_⟩
 rw [Int.toNat_natCast,dB,Nat.zero_add]
 have hm:(j + 1) * 5 ≤ R.length * 5:=Nat.mul_le_mul_right _ (by omega)
 refine iFa (h _ (fun w' x K ho hx hK=>?_) (fun w' x y K ho hx hy hK=>?_))
 ·obtain ⟨g',cap',cur',e1,hg',hB',k1,k2,k3,k4⟩:=OwK.openK ho (by omega)
  cases e1
  refine iLdB hB' (i:=j * 5 + f) (v:=x) ?_ hK
  rw [← hx,← iQ hj f hf,← k4,List.getElem?_take,if_pos (by omega)]
 ·obtain ⟨g',cap',cur',e1,hg',hB',k1,k2,k3,k4⟩:=OwK.openK ho (by omega)
  cases e1
  refine iStU hB' (by have:R.length * 5 ≤ cap * 5:=Nat.mul_le_mul_right _ h1;omega) hx fun w'' hB'' hu=>?_
  refine hK w'' ?_ (hu.ch (S:=fun c=>_ = some c) rfl)
  rw [List.length_set,← AH hj hf hy]
  exact OwK.shutK hg' hB'' k1 k2 (by rw [List.length_set];exact k3) (by rw [← k4,List.take_set]) (by rw [List.length_set];exact JS R)
theorem iBs4S {w:World} {e:TypeId} {a b c d:Str} {K:Value → World → Prop} (h:∀ bb w',Ext w w' → Blk e w' bb (strs [a,b,c,d]) → K (.slice (some ⟨bb,0,none⟩) 4 4) w'):
  xBs e (Value.cells (.string ⟨#[]⟩)) 1 4 [(0,sv a),(1,sv b),(2,sv c),(3,sv d)] w K:=by
 refine ⟨#[sv a,sv b,sv c,sv d],?_,h _ _ (Ext.alloc w _) (Blk.new w #[sv a,sv b,sv c,sv d] e)⟩
 simp [Instr.fill,sv,Value.cells,show Array.range 4 = #[0,1,2,3] from rfl]
end Go.Vc
namespace Go.Proofs.YtkjoppimpmojfaaGreat
open Go.Vc
theorem OwDs.sto {lo:Nat} {w:World} {v:Value} {R:List DV} (h:OwDs lo w v R) (hs:∀ j,j < R.length → (gt R j).d.prem.length ≤ 3 ∧ (gt R j).d.asm.length ≤ 12):StO lo w v R:=by
 refine ⟨h.row,fun x hx=>?_,fun x hx=>?_,fun x hx=>?_⟩
 ·obtain ⟨j,hj,rfl⟩:=List.getElem_of_mem hx
  rw [← gt_eq hj];exact (h.prem j hj).mono (Nat.zero_le _)
 ·obtain ⟨j,hj,rfl⟩:=List.getElem_of_mem hx
  rw [← gt_eq hj];exact (h.asm j hj).mono (Nat.zero_le _)
 ·obtain ⟨j,hj,rfl⟩:=List.getElem_of_mem hx
  rw [← gt_eq hj];exact hs j hj
theorem StO.set {lo:Nat} {w w':World} {v:Value} {R:List DV} {j:Nat} {y:DV} (h:StO lo w v R) (ho:OwK 5 lo aC w' v (R.set j y).length (aO (R.set j y))) (hc:Ch (fun c=>v.ownBlock = some c) w w') (hp:Ow 0 t_i64 w' y.vp (ints y.d.prem)) (ha:TxW 0 w' y.vl y.d.asm) (hs:y.d.prem.length ≤ 3 ∧ y.d.asm.length ≤ 12):StO lo w' v (R.set j y):=by
 have hd:=DCh.row h.row hc
 refine ⟨ho,fun x hx=>?_,fun x hx=>?_,fun x hx=>?_⟩
 ·rcases List.mem_or_eq_of_mem_set hx with hx | rfl
  ·exact Ow.dch (h.prem x hx) hd (by decide) (by decide)
  ·exact hp
 ·rcases List.mem_or_eq_of_mem_set hx with hx | rfl
  ·exact Ow.dch (h.asm x hx) hd (by decide) (by decide)
  ·exact ha
 ·rcases List.mem_or_eq_of_mem_set hx with hx | rfl
  ·exact h.small x hx
  ·exact hs
theorem FI {v:Value} {R:List DV} {t:Str} {w:World} {lo:Nat} (h:StO lo w v R) (hR:R.length ≤ 100000) (hR0:0 < R.length):
  Cal Tryz.prog sT #[v,sv t] w fun r w'=>Ext w w' ∧ ∃ (u:Value) (e:Int),r = .tuple #[u,.int .i64 e] ∧ (e = 0 → ∃ Q,StO w.heap.size w' u Q ∧ Q.length = R.length):=by
 have hrd:=h.rd
 apply GU;unfold sZ
 refine iBs1 rfl (OwK.cell h.row) fun b1 w1 hb1 x1 hB1=>?_
 refine iRet (oD (Sl.ofBlk (n:=1) hB1 rfl (by decide)) (hrd.ext x1) fun x hx=>by have:=(h.small x hx).1;omega) fun w2 x2=>?_
 have X2:=x1.trans x2
 refine iNe (iCndP (fun hne=>⟨X2,_,_,rfl,fun e=>absurd e hne⟩) (fun _=>?_))
 refine iCall ((cO t w2).mono ?_)
 rintro _ w3 ⟨x3,va,rfl,_,_⟩
 have X3:=X2.trans x3
 refine iE20 (iE21 (iNot (iCnd (fun _=>⟨X3,_,_,rfl,fun e=>by cases e⟩) (fun _=>?_))))
 refine iBsZ5 fun g w4 x4=>?_
 have X4:=X3.trans x4
 refine iCall ((uN (hrd.ext X4) hR (fun x hx=>by have:=h.small x hx;omega) hR0).mono ?_)
 rintro u w5 ⟨x5,Q,hQ,hQl,hQs⟩
 have X5:=X4.trans x5
 have hSt:StO w.heap.size w5 u Q:=StO.mono (hQ.sto fun j hj=>by
  have hj':j < R.length:=by omega
  have:=hQs j hj'
  have hm:gt R j ∈ R:=by rw [gt_eq hj'];exact List.getElem_mem _
  have:=h.small _ hm
  rw [(hQs j hj').2]
  omega) X4.size
 clear hQs hQ
 refine iLp (fun i:Nat=>[.int .i64 (i:Int)]) (fun i w'=>i ≤ R.length ∧ Ext w w' ∧ ∃ Q,StO w.heap.size w' u Q ∧ Q.length = R.length) (fun i=>R.length - i) 0 rfl ⟨Nat.zero_le _,X5,Q,hSt,hQl⟩ ?_
 clear hSt hQl Q
 rintro i w7 Kn ⟨hi,X7,Q,hQ,hQl⟩ hKn
 intro _
 simp only [gx]
 refine iLenK hQ.row.sl (iLt (iCndP (fun hlt=>?_) (fun hlt=>⟨X7,_,_,rfl,fun _=>⟨Q,hQ,hQl⟩⟩)))
 have hil:i < Q.length:=by omega
 have hm:gt Q i ∈ Q:=by rw [gt_eq hil];exact List.getElem_mem _
 have hsm:=hQ.small _ hm
 refine iFdD hQ.row.sl hil (by decide) (x:=(gt Q i).vl) rfl ?_
 refine aM (hQ.asm _ hm).sl (iEq (iCndP (fun _=>⟨X7,_,_,rfl,fun e=>by cases e⟩) (fun hne=>?_)))
 refine iBs1 rfl rfl fun b8 w8 hb8 x8 hB8=>?_
 have hQ8:=hQ.ext x8
 refine iFdD hQ8.row.sl hil (by decide) (x:=(gt Q i).vl) rfl ?_
 have ho8:Ow w7.heap.size aB w8 (.slice (some ⟨b8,0,none⟩) 1 1) [sv t]:=Ow.ofBlk (n:=1) hB8 (by omega) rfl (by decide)
 refine iApp bS b6 rfl ho8 (hQ8.asm _ hm).sl (fun y hy=>by
  obtain ⟨z,_,rfl⟩:=List.mem_map.1 hy
  rfl) (by simp only [List.length_singleton,aI];omega) (by simp only [List.length_singleton,aI];omega) x8.size fun n9 w9 ho9 hg9=>?_
 have x79:Ext w7 w9:=x8.grown hg9 fun c hc=>(ho8.blk c hc).1
 have hQ9:=hQ.ext x79
 refine iWrD (y:=⟨⟨(gt Q i).d.rule,(gt Q i).d.prem,t :: (gt Q i).d.asm,(gt Q i).d.con,(gt Q i).d.num⟩,(gt Q i).vp,n9⟩) hQ9.row rfl hil (by decide) ho9.cell rfl fun w10 ho10 hc10=>?_
 have hd10:=DCh.row hQ9.row hc10
 have p9:=hQ9.prem _ hm
 have hQ10:StO w.heap.size w10 u (Q.set i _):=StO.set hQ9 ho10 hc10 (Ow.dch p9 hd10 (by decide) (by decide)) (Ow.dch (Ow.mono ho9 (Nat.zero_le _)) hd10 (by decide) (by decide)) ⟨hsm.1,by show (gt Q i).d.asm.length + 1 ≤ 12;omega⟩
 have X10:Ext w w10:=(X7.trans x79).thenCh hc10 fun c hc=>(OwK.blk hQ9.row c hc).1
 have hl10:(Q.set i ⟨⟨(gt Q i).d.rule,(gt Q i).d.prem,t :: (gt Q i).d.asm,(gt Q i).d.con,(gt Q i).d.num⟩,(gt Q i).vp,n9⟩).length = R.length:=by rw [List.length_set];exact hQl
 revert hQ10 hl10
 generalize Q.set i _ = P
 intro hP hPl
 clear hQ hQ8 hQ9 ho8 ho9 hm hsm hne
 have hil:i < P.length:=by omega
 have hm:gt P i ∈ P:=by rw [gt_eq hil];exact List.getElem_mem _
 refine iFdD hP.row.sl hil (by decide) (x:=.int .i64 (gt P i).d.rule) rfl ?_
 refine iEq (iCndP (fun _=>?_) (fun _=>?_))
 ·refine iFdD hP.row.sl hil (by decide) (x:=.int .i64 (gt P i).d.num) rfl ?_
  refine iAddW fun c=>?_
  refine iWrD (y:=⟨⟨(gt P i).d.rule,(gt P i).d.prem,(gt P i).d.asm,(gt P i).d.con,c⟩,(gt P i).vp,(gt P i).vl⟩) hP.row rfl hil (by decide) rfl rfl fun w11 ho11 hc11=>?_
  have hd11:=DCh.row hP.row hc11
  have p1:=hP.prem _ hm
  have p2:=hP.asm _ hm
  have p3:=hP.small _ hm
  refine iAdd (by omega) ?_
  refine hKn (i + 1) _ ⟨by omega,X10.thenCh hc11 fun c hc=>(OwK.blk hP.row c hc).1,_,StO.set hP ho11 hc11 (Ow.dch p1 hd11 (by decide) (by decide)) (Ow.dch p2 hd11 (by decide) (by decide)) p3,by rw [List.length_set];exact hPl⟩ (by omega)
 ·refine iAdd (by omega) ?_
  exact hKn (i + 1) _ ⟨by omega,X10,P,hP,hPl⟩ (by omega)
theorem I0 {w0:World} {vc:Value} {bs:List Nat} (hc:SlB w0 vc bs) {b:Nat} {w:World} (hS:Vc.Src eS w0 vc b w) (hw0:w0.heap.size ≤ w.heap.size):
  Cal Tryz.prog yO #[.pointer (some ⟨b,0,none⟩)] w fun r w'=>(∃ R,StO w.heap.size w' r R ∧ R.length ≤ 1000 ∧ 1 ≤ R.length) ∧ Vc.Src eS w0 vc b w' ∧ DCh w w':=by
 have hvi:=hc.noInt
 apply LD;unfold yN
 refine iCall ((GJ hc hS).mono ?_)
 rintro _ w1 ⟨⟨goal,rfl,hgoal⟩,hS1,hc1⟩
 have hD1:=DCh.src hS hc1
 refine iBs05 fun v17 w2 x2 ho2=>?_
 refine iBs0 fun v18 w3 _ x3 ho3=>?_
 have x23:=x2.trans x3
 have hD3:=hD1.trans (DCh.ext x23)
 refine iCall ((ND hc 6 (R:=[]) (G:=[]) (lo:=w.heap.size) (by decide) (hS1.later x23) ((StO.nil _ (OwK.mono ho2 hc1.size)).ext x3) hw0 (Nat.le_trans hc1.size x23.size) (by decide) (ho3.mono (Nat.zero_le _)) (by decide) (fun t ht=>by cases ht) hgoal.gdB).mono ?_)
 rintro v20 w4 ⟨⟨R,hst,hRl,hR1⟩,hS4,hD4⟩
 simp only [List.length_nil] at hRl
 have hRl:R.length ≤ 255:=by omega
 have hD4:=hD3.trans hD4
 refine iCall ((aG hc hS4 4).mono ?_)
 rintro _ w5 ⟨⟨q,rfl,_,_⟩,hS5,hc5⟩
 have hst5:=hst.src hS4 hc5
 have hD5:=hD4.trans (DCh.src hS4 hc5)
 clear hst hS4 hD4 hc5 hD3 hD1 hc1 ho2 ho3 hS1
 obtain ⟨hpc,hgg,hgs,hgb⟩:=hgoal.at
 have sl:∀ (Q:List DV) (x:DV),(Q ++ [x]).length = Q.length + 1:=fun Q x=>by rw [List.length_append,List.length_singleton]
 have pr:∀ {w':World} {k:Nat} {f g:Fm} {vf vg:Value} {K:Value → World → Prop},(k = 2 ∨ k = 3 ∨ k = 4) → FmS w' vf f → FmS w' vg g → f.size ≤ 100 → g.size ≤ 100 → f.good → g.good → (∀ t w'',Ext w' w'' → K (sv t) w'') → callV Tryz.prog (.func (.func mL) #[] #[]) [.int .i64 (k:Int),vf,vg] w' fun x w1=>callV Tryz.prog (.func (.func d6) #[] #[]) [x] w1 K:=fun {w' k f g vf vg K} hk hf hg s1 s2 g1 g2 h=>by
  refine iCall ((dM (yL hk f g) (aU k f g) hf hg (by rw [aU];omega)).mono ?_)
  rintro r w'' ⟨x,hr⟩
  exact iRet (bD hr.sl (bC k g1 g2) (by rw [aU];omega)) fun w3 x3=>h _ w3 (x.trans x3)
 have psh:∀ {w':World} {v vp vl:Value} {Q:List DV} {rule num:Int} {ps:List Int} {L:List Str} {c:Str} {K:Value → World → Prop},StO w.heap.size w' v Q → Vc.Src eS w0 vc b w' → DCh w w' → TxW 0 w' vl L → Ow 0 t_i64 w' vp (ints ps) → ps.length ≤ 3 → L.length ≤ 12 → Q.length ≤ 1000000 → (∀ r w'',StO w.heap.size w'' r (Q ++ [⟨⟨rule,ps,L,c,num⟩,vp,vl⟩]) → Vc.Src eS w0 vc b w'' → DCh w w'' → DCh w' w'' → K r w'') → xBs aC (Value.cells (.agg #[.int .i64 0,.slice none 0 0,.slice none 0 0,.string ⟨#[]⟩,.int .i64 0])) 5 1 [(0,.agg #[.int .i64 rule,vp,vl,sv c,.int .i64 num])] w' fun u w1=>xOp Tryz.prog (Builtin.append_ #[aZ,aZ] aZ #[v,u]) w1 K:=fun {w' v vp vl Q rule num ps L c K} h1 h2 h3 h4 h5 h6 h6' h7 hK=>
  StO.push (x:=⟨⟨rule,ps,L,c,num⟩,vp,vl⟩) rfl h1 h2 h5 h4 ⟨h6,h6'⟩ h7 hw0 h3.size fun r w'' k1 _ k3 k4=>hK r w'' k1 k3 (h3.trans k4) k4
 have tx0:∀ {w':World} {K:Value → World → Prop},(∀ vp w'',Ext w' w'' → TxW 0 w'' vp [] → aD vp = true → K vp w'') → xBs aB (Value.cells (.string ⟨#[]⟩)) 1 0 [] w' K:=fun h=>iBs0 fun vp w'' _ x ho=>h vp w'' x (ho.mono (Nat.zero_le _)) ho.cell
 have tx1:∀ {w':World} {a:Str} {K:Value → World → Prop},(∀ vp w'',Ext w' w'' → TxW 0 w'' vp [a] → aD vp = true → K vp w'') → xBs aB (Value.cells (.string ⟨#[]⟩)) 1 1 [(0,sv a)] w' K:=fun h=>iBs1 rfl rfl fun c w'' _ x hB=>h _ w'' x (Ow.ofBlk (n:=1) hB (Nat.zero_le _) rfl (by decide)) rfl
 have pr0:∀ {w':World} {K:Value → World → Prop},(∀ vp w'',Ext w' w'' → Ow 0 t_i64 w'' vp (ints []) → aD vp = true → K vp w'') → xBs t_i64 (Value.cells (.int .i64 0)) 1 0 [] w' K:=fun h=>iBs0 fun vp w'' _ x ho=>h vp w'' x (ho.mono (Nat.zero_le _)) ho.cell
 have pr1:∀ {w':World} {a:Int} {K:Value → World → Prop},(∀ vp w'',Ext w' w'' → Ow 0 t_i64 w'' vp (ints [a]) → aD vp = true → K vp w'') → xBs t_i64 (Value.cells (.int .i64 0)) 1 1 [(0,.int .i64 a)] w' K:=fun h=>iBs1 rfl rfl fun c w'' _ x hB=>h _ w'' x (Ow.ofBlk (n:=1) hB (Nat.zero_le _) rfl (by decide)) rfl
 have pr2:∀ {w':World} {a d:Int} {K:Value → World → Prop},(∀ vp w'',Ext w' w'' → Ow 0 t_i64 w'' vp (ints [a,d]) → aD vp = true → K vp w'') → xBs t_i64 (Value.cells (.int .i64 0)) 1 2 [(0,.int .i64 a),(1,.int .i64 d)] w' K:=fun h=>iBs2 rfl rfl rfl fun c w'' _ x hB=>h _ w'' x (Ow.ofBlk (n:=2) hB (Nat.zero_le _) rfl (by decide)) rfl
 have fm:∀ {w':World} {K:Value → World → Prop},(∀ va w'',Ext w' w'' → FmW 0 w'' va (fT goal) → K va w'') → callV Tryz.prog (.func (.func f9) #[] #[]) [sv goal] w' fun x w1=>xEx x 0 fun y=>xEx x 1 fun _=>K y w1:=fun {w' K} h=>by
  refine iCall ((cO goal w').mono ?_)
  rintro _ w'' ⟨x,va,rfl,hv,_⟩
  exact iE20 (iE21 (h va w'' x (OwK.mono (hv hpc) (Nat.zero_le _))))
 have stay:∀ {w':World},Ext w5 w' → (∃ R',StO w.heap.size w' v20 R' ∧ R'.length ≤ 1000 ∧ 1 ≤ R'.length) ∧ Vc.Src eS w0 vc b w' ∧ DCh w w':=fun x=>⟨⟨R,hst5.ext x,by omega,hR1⟩,hS5.later x,hD5.trans (DCh.ext x)⟩
 have hfp:=(fT goal).size_pos
 refine iEq (iCndP (fun _=>?_) (fun _=>?_))
 ·refine iLenK hst5.row.sl (iSub (by omega) ?_)
  refine fm fun va w6 x6 ha=>?_
  refine iLenK ha.sl (iLt (iCndP (fun _=>?_) (fun _=>stay x6)))
  refine pr (k:=2) (.inl rfl) ha.sl ha.sl (by omega) (by omega) hgg hgg fun t w8 x8=>?_
  refine pr2 fun vp w9 x9 hp9 hpc9=>?_
  refine tx0 fun vl w10 x10 hl10 hlc10=>?_
  have y10:=((x6.trans x8).trans x9).trans x10
  refine fY rfl hpc9 hlc10 rfl ?_
  refine psh (num:=0) (hst5.ext y10) (hS5.later y10) (hD5.trans (DCh.ext y10)) hl10 (hp9.ext x10) (by simp) (by simp) (by omega) fun r1 w12 h1 k1 d1 e1=>?_
  refine iAdd (by omega) ?_
  refine pr1 fun vp2 w13 x13 hp13 hpc13=>?_
  refine tx0 fun vl2 w14 x14 hl14 hlc14=>?_
  have y14:=x13.trans x14
  refine fY rfl hpc13 hlc14 rfl ?_
  refine psh (num:=0) (h1.ext y14) (k1.later y14) (d1.trans (DCh.ext y14)) hl14 (hp13.ext x14) (by simp) (by simp) (by rw [sl];omega) fun r2 w16 h2 k2 d2 _=>?_
  exact ⟨⟨_,h2,by rw [sl,sl];omega,by rw [sl];omega⟩,k2,d2⟩
 refine iEq (iCndP (fun _=>?_) (fun _=>?_))
 ·refine iLenK hst5.row.sl (iSub (by omega) ?_)
  refine fm fun va w6 x6 ha=>?_
  refine iLenK ha.sl (iLt (iCndP (fun _=>?_) (fun _=>stay x6)))
  refine pr0 fun vp w18 x18 hp18 hpc18=>?_
  refine tx1 fun vl w19 x19 hl19 hlc19=>?_
  have y19:=(x6.trans x18).trans x19
  refine fY rfl hpc18 hlc19 rfl ?_
  refine psh (num:=0) (hst5.ext y19) (hS5.later y19) (hD5.trans (DCh.ext y19)) hl19 (hp18.ext x19) (by simp) (by simp) (by omega) fun r1 w21 h1 k1 d1 e1=>?_
  refine iAdd (by omega) ?_
  refine pr1 fun vp2 w22 x22 hp22 hpc22=>?_
  refine tx0 fun vl2 w23 x23 hl23 hlc23=>?_
  have ha23:FmS w23 va (fT goal):=(OwK.ext (OwK.dch (OwK.ext ha (x18.trans x19)) e1 (by decide) (by decide)) (x22.trans x23)).sl
  refine pr (k:=4) (.inr (.inr rfl)) ha23 ha23 (by omega) (by omega) hgg hgg fun t w25 x25=>?_
  have y25:=(x22.trans x23).trans x25
  refine fY rfl hpc22 hlc23 rfl ?_
  refine psh (num:=0) (h1.ext y25) (k1.later y25) (d1.trans (DCh.ext y25)) (hl23.ext x25) (hp22.ext (x23.trans x25)) (by simp) (by simp) (by rw [sl];omega) fun r2 w27 h2 k2 d2 _=>?_
  refine iAdd (by omega) ?_
  refine pr2 fun vp3 w28 x28 hp28 hpc28=>?_
  refine tx0 fun vl3 w29 x29 hl29 hlc29=>?_
  have y29:=x28.trans x29
  refine fY rfl hpc28 hlc29 rfl ?_
  refine psh (num:=0) (h2.ext y29) (k2.later y29) (d2.trans (DCh.ext y29)) hl29 (hp28.ext x29) (by simp) (by simp) (by rw [sl,sl];omega) fun r3 w31 h3 k3 d3 _=>?_
  exact ⟨⟨_,h3,by rw [sl,sl,sl];omega,by rw [sl];omega⟩,k3,d3⟩
 refine iEq (iCndP (fun _=>?_) (fun _=>stay (Ext.refl _)))
 refine iCall ((FI hst5 (by omega) (by omega)).mono ?_)
 rintro _ w32 ⟨x32,u,e,rfl,hu⟩
 refine iE20 (iE21 (iEq (iCndP (fun he=>?_) (fun _=>stay x32))))
 obtain ⟨Q,hQ,hQl⟩:=hu he
 exact ⟨⟨Q,StO.mono hQ hD5.size,by omega,by omega⟩,hS5.later x32,hD5.trans (DCh.ext x32)⟩
theorem JW {w0:World} {vc:Value} {bs:List Nat} (hc:SlB w0 vc bs) {b:Nat} {w:World} (hS:Vc.Src eS w0 vc b w) (hw0:w0.heap.size ≤ w.heap.size):
  Cal Tryz.prog rD #[.pointer (some ⟨b,0,none⟩)] w fun r w'=>(∃ R,RdD w' r R ∧ ∀ x ∈ R,x.d.prem.length ≤ 4) ∧ Vc.Src eS w0 vc b w':=by
 apply MP;unfold CF
 refine iBsZ5 fun g w1 x1=>?_
 refine iCall ((I0 hc (hS.later x1) (Nat.le_trans hw0 x1.size)).mono ?_)
 rintro v7 w2 ⟨⟨R0,hst,hRl,hR1⟩,hS2,hD2⟩
 have hD2:=(DCh.ext x1).trans hD2
 refine iCall ((uN hst.rd (by omega) (fun x hx=>by have:=hst.small x hx;omega) hR1).mono ?_)
 rintro v8 w3 ⟨x3,R,hR,hRl',hsame⟩
 have hsm:∀ j,j < R.length → (gt R j).d.prem.length ≤ 3 ∧ (gt R j).d.asm.length ≤ 12:=fun j hj=>by
  have hj':j < R0.length:=by omega
  have hm:gt R0 j ∈ R0:=by rw [gt_eq hj'];exact List.getElem_mem _
  have:=hst.small _ hm
  rw [(hsame j hj').1,(hsame j hj').2]
  exact this
 have hRl:R.length ≤ 1000:=by omega
 have hS3:=hS2.later x3
 have hD3:=hD2.trans (DCh.ext x3)
 have lo0:w0.heap.size ≤ w2.heap.size:=Nat.le_trans hw0 hD2.size
 -- drawing leaves the steps
 have nx:∀ {w' w'':World},OwDs w2.heap.size w' v8 R → Vc.Src eS w0 vc b w' → Ch (fun c=>c = b) w' w'' → OwDs w2.heap.size w'' v8 R:=fun {w' w''} h hS' hc'=>by
  have hd:=DCh.src hS' hc'
  exact ⟨OwK.src h.row hS' (by decide) hc',fun j hj=>Ow.dch (h.prem j hj) hd (by decide) (by decide),fun j hj=>Ow.dch (h.asm j hj) hd (by decide) (by decide),h.dp,h.dl⟩
 have pm:∀ {j:Nat},j < R.length → (gt R j).d.prem.length ≤ 4:=fun hj=>by have:=hsm _ hj;omega
 have pmA:∀ x ∈ R,x.d.prem.length ≤ 4:=fun x hx=>by
  obtain ⟨i,hi,rfl⟩:=List.getElem_of_mem hx
  have:=hsm i hi
  rw [gt_eq hi] at this;omega
 refine iJnX (fun xs w'=>(∃ t:Bool,xs = [.bool t]) ∧ OwDs w2.heap.size w' v8 R ∧ Vc.Src eS w0 vc b w' ∧ DCh w w') (fun J hJ=>?_) ?_
 ·refine iCall ((aG hc hS3 4).mono ?_)
  rintro _ w6 ⟨⟨q,rfl,_,_⟩,hS6,hc6⟩
  have hR6:=nx hR hS3 hc6
  have hD6:=hD3.trans (DCh.src hS3 hc6)
  refine iLt (iCndP (fun _=>hJ _ _ ⟨⟨_,rfl⟩,hR6,hS6,hD6⟩) (fun _=>?_))
  refine iLenK hR6.row.sl (iEq ?_)
  exact hJ _ _ ⟨⟨_,rfl⟩,hR6,hS6,hD6⟩
 clear hR hS3 hD3
 rintro _ w5 ⟨⟨t,rfl⟩,hR5,hS5,hD5⟩
 intro _
 simp only [gx]
 refine iCnd (fun _=>⟨⟨R,hR5.rd,pmA⟩,hS5⟩) (fun _=>?_)
 refine iLenK hR5.row.sl ?_
 refine iCall ((aG hc hS5 R.length).mono ?_)
 rintro _ w7 ⟨⟨k,rfl,hk,_⟩,hS7,hc7⟩
 have hk:k < R.length:=by have:=hk (by omega);omega
 have hR7:=nx hR5 hS5 hc7
 refine iCall ((aG hc hS7 6).mono ?_)
 rintro _ w8 ⟨⟨q,rfl,_,_⟩,hS8,hc8⟩
 have hR8:=nx hR7 hS7 hc8
 have srcR:∀ {w' w'':World},OwK 5 w2.heap.size aC w' v8 R.length (aO R) → Vc.Src eS w0 vc b w' → Ch (fun c=>v8.ownBlock = some c) w' w'' → Vc.Src eS w0 vc b w'':=fun h1 h2 h3=>h2.ch h3 (fun e=>OwK.ne_src h1 h2 (by decide) e) fun c e=>Nat.le_trans lo0 (OwK.blk h1 c e).1
 have fin:∀ {w'':World} {y:DV},Vc.Src eS w0 vc b w'' → OwK 5 w2.heap.size aC w'' v8 (R.set k y).length (aO (R.set k y)) → (∀ i,i < R.length → i ≠ k → SlI w'' (gt R i).vp (gt R i).d.prem) → (∀ i,i < R.length → i ≠ k → SlT w'' (gt R i).vl (gt R i).d.asm) → SlI w'' y.vp y.d.prem → SlT w'' y.vl y.d.asm → y.d.prem.length ≤ 4 → (∃ R',RdD w'' v8 R' ∧ ∀ x ∈ R',x.d.prem.length ≤ 4) ∧ Vc.Src eS w0 vc b w'':=fun {w'' y} h1 h2 h3 h4 h5 h6 h7=>by
  have at_:∀ x ∈ R.set k y,x = y ∨ ∃ i,i < R.length ∧ i ≠ k ∧ x = gt R i:=fun x hx=>by
   obtain ⟨i,hi,rfl⟩:=List.getElem_of_mem hx
   rw [List.length_set] at hi
   rw [List.getElem_set]
   by_cases e:k = i
   ·rw [if_pos e];exact .inl rfl
   ·rw [if_neg e];exact .inr ⟨i,hi,fun e'=>e e'.symm,(gt_eq hi).symm⟩
  refine ⟨⟨_,⟨h2.sl,fun x hx=>?_,fun x hx=>?_⟩,fun x hx=>?_⟩,h1⟩
  ·rcases at_ x hx with rfl | ⟨i,hi,hne,rfl⟩
   ·exact h5
   ·exact h3 i hi hne
  ·rcases at_ x hx with rfl | ⟨i,hi,hne,rfl⟩
   ·exact h6
   ·exact h4 i hi hne
  ·rcases at_ x hx with rfl | ⟨i,hi,hne,rfl⟩
   ·exact h7
   ·exact pm hi
 have off:∀ {w' w'':World} {u:Value} {lo:Nat} {e:TypeId} {xs:List Value},OwK 5 w2.heap.size aC w' v8 R.length (aO R) → Ch (fun c=>v8.ownBlock = some c) w' w'' → Ow lo e w' u xs → e ≠ aC → Ow lo e w'' u xs:=fun h1 h2 h3 hne=>h3.ch h2 fun c hc' hS=>by
  obtain ⟨cur,hh⟩:=OwK.ty h1 hS
  exact h3.ne_blk (show Blk aC _ c cur.toList by unfold Blk;rw [hh]) hne hc'
 have fin1:∀ {w' w'':World} {y:DV},OwDs w2.heap.size w' v8 R → Vc.Src eS w0 vc b w' → OwK 5 w2.heap.size aC w'' v8 (R.set k y).length (aO (R.set k y)) → Ch (fun c=>v8.ownBlock = some c) w' w'' → Ow 0 t_i64 w' y.vp (ints y.d.prem) → TxW 0 w' y.vl y.d.asm → y.d.prem.length ≤ 4 → (∃ R',RdD w'' v8 R' ∧ ∀ x ∈ R',x.d.prem.length ≤ 4) ∧ Vc.Src eS w0 vc b w'':=fun {w' w'' y} h1 h2 h3 h4 h5 h6 h7=>
  fin (srcR h1.row h2 h4) h3 (fun i hi _=>(off h1.row h4 (h1.prem i hi) (by decide)).sl) (fun i hi _=>(off h1.row h4 (h1.asm i hi) (by decide)).sl) (off h1.row h4 h5 (by decide)).sl (off h1.row h4 h6 (by decide)).sl h7
 have hpk:=pm hk
 have hsk:=hsm k hk
 have pk:∀ {w':World},OwDs w2.heap.size w' v8 R → Ow 0 t_i64 w' (gt R k).vp (ints (gt R k).d.prem):=fun h=>(h.prem k hk).mono (Nat.zero_le _)
 have ak:∀ {w':World},OwDs w2.heap.size w' v8 R → TxW 0 w' (gt R k).vl (gt R k).d.asm:=fun h=>(h.asm k hk).mono (Nat.zero_le _)
 refine iEq (iCndP (fun _=>?_) (fun _=>?_))
 ·refine iCall ((aG hc hS8 12).mono ?_)
  rintro _ w9 ⟨⟨n,rfl,_,_⟩,hS9,hc9⟩
  have hR9:=nx hR8 hS8 hc9
  refine iWrD (y:=⟨⟨(n:Int),(gt R k).d.prem,(gt R k).d.asm,(gt R k).d.con,(gt R k).d.num⟩,(gt R k).vp,(gt R k).vl⟩) hR9.row rfl hk (by decide) rfl rfl fun w10 ho10 hc10=>?_
  exact fin1 hR9 hS9 ho10 hc10 (pk hR9) (ak hR9) hpk
 refine iEq (iCndP (fun _=>?_) (fun _=>?_))
 ·refine iCall ((aG hc hS8 3).mono ?_)
  rintro _ w9 ⟨⟨n,rfl,hn,_⟩,hS9,hc9⟩
  have hn:=hn (by decide)
  have hR9:=nx hR8 hS8 hc9
  refine iSub (by omega) ?_
  refine iWrD (y:=⟨⟨(gt R k).d.rule,(gt R k).d.prem,(gt R k).d.asm,(gt R k).d.con,(n:Int) - 1⟩,(gt R k).vp,(gt R k).vl⟩) hR9.row rfl hk (by decide) rfl rfl fun w10 ho10 hc10=>?_
  exact fin1 hR9 hS9 ho10 hc10 (pk hR9) (ak hR9) hpk
 refine iEq (iCndP (fun _=>?_) (fun _=>?_))
 ·refine iBs4S (a:=[112]) (b:=[91,93,112]) (c:=[]) (d:=[40,112,41]) fun c13 w13 x13 hB13=>?_
  have hR13:=hR8.ext x13
  refine iCall ((aG hc (hS8.later x13) 4).mono ?_)
  rintro _ w14 ⟨⟨n,rfl,hn,_⟩,hS14,hc14⟩
  have hn:n < 4:=by have:=hn (by decide);omega
  have hR14:=nx hR13 (hS8.later x13) hc14
  have hs13:Ow 0 aB w13 (.slice (some ⟨c13,0,none⟩) 4 4) (strs [[112],[91,93,112],[],[40,112,41]]):=Ow.ofBlk (n:=4) hB13 (Nat.zero_le _) rfl (by decide)
  have hs14:=Ow.dch hs13 (DCh.src (hS8.later x13) hc14) (by decide) (by decide)
  refine iIaG hs14.sl rfl (show n < 4 from hn) ?_
  refine iWrD (y:=⟨⟨(gt R k).d.rule,(gt R k).d.prem,(gt R k).d.asm,gt [[112],[91,93,112],[],[40,112,41]] n,(gt R k).d.num⟩,(gt R k).vp,(gt R k).vl⟩) hR14.row rfl hk (by decide) rfl rfl fun w15 ho15 hc15=>?_
  exact fin1 hR14 hS14 ho15 hc15 (pk hR14) (ak hR14) hpk
 refine iEq (iCndP (fun _=>?_) (fun _=>?_))
 ·refine iFdD hR8.row.sl hk (by decide) (x:=(gt R k).vl) rfl ?_
  refine iBs1 rfl rfl fun c16 w16 hc16 x16 hB16=>?_
  refine iCall ((fU (B:=[[112]]) (((hR8.asm k hk).ext x16).sl) (Sl.ofBlk (n:=1) hB16 rfl (by decide)) (by omega) (by simp)).mono ?_)
  rintro u w17 ⟨x17,hu⟩
  have y17:=x16.trans x17
  have hR17:=hR8.ext y17
  refine iWrD (y:=⟨⟨(gt R k).d.rule,(gt R k).d.prem,(gt R k).d.asm ++ [[112]],(gt R k).d.con,(gt R k).d.num⟩,(gt R k).vp,u⟩) hR17.row rfl hk (by decide) hu.cell rfl fun w18 ho18 hc18=>?_
  exact fin1 hR17 (hS8.later y17) ho18 hc18 (pk hR17) (hu.mono (Nat.zero_le _)) hpk
 refine iEq (iCndP (fun _=>?_) (fun _=>?_))
 ·refine ⟨fun c=>c = b,?_⟩
  refine iAtDq hR8.row hk (by decide) fun q1 rd1 _=>?_
  refine rd1 w8 (gt R k).vp _ hR8.row rfl ?_
  refine ⟨fun w20 h20=>rd1 w20 (gt R k).vp _ (nx hR8 hS8 h20).row rfl rfl,fun w21 x21=>?_⟩
  have hR21:=hR8.ext x21
  have hS21:=hS8.later x21
  refine iCall ((aG hc hS21 3).mono ?_)
  rintro _ w22 ⟨⟨n,rfl,_,_⟩,hS22,hc22⟩
  have hR22:=nx hR21 hS21 hc22
  refine ⟨hc22,fun w23 x23=>?_⟩
  refine iBs1 rfl rfl fun c24 w24 hc24 x24 hB24=>?_
  refine ⟨x24.ch,fun w25 x25=>?_⟩
  have y25:=(x23.trans x24).trans x25
  have hR25:=hR22.ext y25
  have hS25:=hS22.later y25
  have hp25:=hR25.prem k hk
  refine iApp n6 nR rfl hp25 (Sl.ofBlk (n:=1) (hB24.ext x25) rfl (by decide)) (fun u hu=>by rw [List.mem_singleton.1 hu];rfl) (by simp only [bA,List.length_singleton];omega) (by simp only [bA,List.length_singleton];omega) (by obtain ⟨_,_,_,_,hg,hB,_⟩:=OwK.openK hR25.row (by omega);have:=hB.lt;omega) fun v80 w26 ho26 hg26=>?_
  have hch26:=dG (S:=fun c=>(gt R k).vp.ownBlock = some c) hg26 fun c hc=>hc
  have hrow26:=OwK.ch hR25.row hch26 fun c hc hS=>by
   obtain ⟨cur,hh⟩:=OwK.ty hR25.row hc
   exact hp25.ne_blk (show Blk aC w25 c cur.toList by unfold Blk;rw [hh]) (by decide) hS
  have hS26:Vc.Src eS w0 vc b w26:=hS25.ch hch26 (fun e=>hS25.neOw hp25 (by decide) e) fun c e=>Nat.le_trans lo0 (hp25.blk c e).1
  refine iAtDq hrow26 hk (by decide) fun q2 _ wr2=>?_
  intro w27 x27
  refine wr2 w27 v80 ⟨⟨(gt R k).d.rule,(gt R k).d.prem ++ [(n:Int)],(gt R k).d.asm,(gt R k).d.con,(gt R k).d.num⟩,v80,(gt R k).vl⟩ _ (OwK.ext hrow26 x27) ho26.cell rfl fun w28 ho28 hc28=>?_
  intro w29 x29
  have hrow27:=OwK.ext hrow26 x27
  refine fin ((srcR hrow27 (hS26.later x27) hc28).later x29) (OwK.ext ho28 x29) (fun i hi hne=>?_) (fun i hi hne=>?_) ?_ ?_ ?_
  ·refine ((off hrow27 hc28 (((hR25.prem i hi).ch hch26 fun c hc hS=>?_).ext x27) (by decide)).ext x29).sl
   exact hR25.dp i k hi hk hne c hc hS
  ·refine ((off hrow27 hc28 (((hR25.asm i hi).ch hch26 fun c hc hS=>?_).ext x27) (by decide)).ext x29).sl
   obtain ⟨cur,hh⟩:=hp25.ty hS
   exact (hR25.asm i hi).ne_blk (show Blk t_i64 w25 c cur.toList by unfold Blk;rw [hh]) (by decide) hc
  ·have:Ow w2.heap.size t_i64 w26 v80 (ints ((gt R k).d.prem ++ [(n:Int)])):=by
    rw [show ints ((gt R k).d.prem ++ [(n:Int)]) = ints (gt R k).d.prem ++ [.int .i64 (n:Int)] by simp [ints]]
    exact ho26
   exact ((off hrow27 hc28 (this.ext x27) (by decide)).ext x29).sl
  ·refine ((off hrow27 hc28 (((hR25.asm k hk).ch hch26 fun c hc hS=>?_).ext x27) (by decide)).ext x29).sl
   obtain ⟨cur,hh⟩:=hp25.ty hS
   exact (hR25.asm k hk).ne_blk (show Blk t_i64 w25 c cur.toList by unfold Blk;rw [hh]) (by decide) hc
  ·show ((gt R k).d.prem ++ [(n:Int)]).length ≤ 4
   rw [List.length_append,List.length_singleton];omega
 ·refine M8 hR8.row.sl (show k ≤ R.length by omega) fun r hr=>?_
  rw [IB] at hr
  have hrd:=hR8.rd
  refine ⟨⟨R.take k,⟨?_,fun x hx=>hrd.prem x (List.mem_of_mem_take hx),fun x hx=>hrd.asm x (List.mem_of_mem_take hx)⟩,fun x hx=>pmA x (List.mem_of_mem_take hx)⟩,hS8⟩
  rw [List.length_take,Nat.min_eq_left (by omega)]
  exact hr
end Go.Proofs.YtkjoppimpmojfaaGreat

namespace Go.Vc
def iterE (g:Nat → Option Nat):Nat → Nat → Option Nat
 | 0,e=>some e
 | k + 1,e=>(g e).bind (iterE g k)
def endE (L:List RT):Nat → Nat → Option Nat
 | 0,_=>none
 | f + 1,i=>if L.length ≤ i then none else iterE (endE L f) (arT (gt L i).kind.toNat) (i + 1)
theorem LA {L:List RT} {g:Nat → Option Nat}:∀ {ks:List Tm} {e:Nat} {rest:List RT},(∀ k ∈ ks,∀ e' r,L.drop e' = k.raw ++ r → g e' = some (e' + k.raw.length)) → L.drop e = ks.flatMap Tm.raw ++ rest → iterE g ks.length e = some (e + (ks.flatMap Tm.raw).length)
 | [],e,rest,_,_=>rfl
 | k :: ks,e,rest,hg,h=>by
  rw [List.flatMap_cons,List.append_assoc] at h
  rw [List.length_cons,iterE,hg k (List.mem_cons_self ..) e _ h,Option.bind_some]
  have h2:L.drop (e + k.raw.length) = ks.flatMap Tm.raw ++ rest:=by rw [← List.drop_drop,h,List.drop_left]
  rw [LA (fun k' hk'=>hg k' (List.mem_cons_of_mem _ hk')) h2,List.flatMap_cons,List.length_append]
  congr 1;omega
theorem VJ {L M:List RT} {x:RT} {i:Nat} (h:L.drop i = x :: M):i < L.length ∧ gt L i = x:=by
 have hi:i < L.length:=by
  have:=congrArg List.length h
  rw [List.length_drop,List.length_cons] at this
  omega
 refine ⟨hi,?_⟩
 rw [List.drop_eq_getElem_cons hi] at h
 rw [gt_eq hi]
 exact (List.cons.inj h).1
theorem OR {L:List RT}:∀ (f:Nat) (t:Tm) (i:Nat) (rest:List RT),t.raw.length ≤ f → L.drop i = t.raw ++ rest → endE L f i = some (i + t.raw.length)
 | 0,t,_,_,hf,_=>by have:=t.raw_pos;omega
 | f + 1,t,i,rest,hf,h=>by
  rw [t.raw_kids,List.cons_append] at h
  obtain ⟨hi,hx⟩:=VJ h
  have h2:L.drop (i + 1) = t.kids.flatMap Tm.raw ++ rest:=by rw [← List.drop_drop,h];rfl
  rw [endE,if_neg (by omega),hx]
  show iterE (endE L f) (arT t.hd.kind) (i + 1) = _
  rw [t.ar,LA (fun k hk e' r he=>OR f k e' r (by have:=Tm.kid_lt hk;omega) he) h2]
  have:=congrArg List.length t.raw_kids
  rw [List.length_cons] at this
  congr 1;omega
def okR (n:RT):Bool:=
 if n.kind = 0 then decide (0 ≤ n.num ∧ n.num ≤ 99) && decide (n.typ = [])
 else if n.kind = 1 ∨ n.kind = 6 ∨ n.kind = 7 ∨ n.kind = 9 then decide (n.num = 0) && plT n.typ
 else if n.kind = 2 ∨ n.kind = 3 ∨ n.kind = 4 ∨ n.kind = 5 ∨ n.kind = 8 then decide (n.num = 0) && decide (n.typ = [])
 else false
def okY (n:TN):Prop:=((n.kind = 1 ∨ n.kind = 6 ∨ n.kind = 7 ∨ n.kind = 9) → plT n.typ = true) ∧ n.num ≤ 99
theorem mkTm {n:RT} {ts:List Tm} (hn:okR n = true) (hl:ts.length = arT n.kind.toNat):∃ t:Tm,rawN t.hd = n ∧ t.kids = ts ∧ okY t.hd:=by
 obtain ⟨k,m,y⟩:=n
 unfold okR at hn
 simp only at hn hl
 by_cases h0:k = 0
 ·rw [if_pos h0,Bool.and_eq_true,decide_eq_true_eq,decide_eq_true_eq] at hn
  subst h0
  obtain ⟨⟨h1,h2⟩,rfl⟩:=hn
  have:ts = []:=List.length_eq_zero_iff.1 hl
  refine ⟨.var m.toNat,?_,this.symm,(fun h=>by simp [Tm.hd] at h),by show m.toNat ≤ 99;omega⟩
  show (⟨((0:Nat):Int),((m.toNat:Nat):Int),[]⟩:RT) = ⟨0,m,[]⟩
  rw [Int.toNat_of_nonneg h1];rfl
 rw [if_neg h0] at hn
 by_cases h1:k = 1 ∨ k = 6 ∨ k = 7 ∨ k = 9
 ·rw [if_pos h1,Bool.and_eq_true,decide_eq_true_eq] at hn
  obtain ⟨rfl,hy⟩:=hn
  have one:arT k.toNat = 1:=by rcases h1 with rfl | rfl | rfl | rfl <;> rfl
  rw [one] at hl
  obtain ⟨a,rfl⟩:=List.length_eq_one_iff.1 hl
  rcases h1 with rfl | rfl | rfl | rfl
  ·exact ⟨.lam y a,rfl,rfl,fun _=>hy,Nat.zero_le _⟩
  ·exact ⟨.left y a,rfl,rfl,fun _=>hy,Nat.zero_le _⟩
  ·exact ⟨.right y a,rfl,rfl,fun _=>hy,Nat.zero_le _⟩
  ·exact ⟨.abort y a,rfl,rfl,fun _=>hy,Nat.zero_le _⟩
 rw [if_neg h1] at hn
 by_cases h2:k = 2 ∨ k = 3 ∨ k = 4 ∨ k = 5 ∨ k = 8
 ·rw [if_pos h2,Bool.and_eq_true,decide_eq_true_eq,decide_eq_true_eq] at hn
  obtain ⟨rfl,rfl⟩:=hn
  rcases h2 with rfl | rfl | rfl | rfl | rfl
  ·match ts,hl with
   | [a,b],_=>exact ⟨.app a b,rfl,rfl,(fun h=>by simp [Tm.hd] at h),Nat.zero_le _⟩
  ·match ts,hl with
   | [a,b],_=>exact ⟨.pair a b,rfl,rfl,(fun h=>by simp [Tm.hd] at h),Nat.zero_le _⟩
  ·match ts,hl with
   | [a],_=>exact ⟨.fst a,rfl,rfl,(fun h=>by simp [Tm.hd] at h),Nat.zero_le _⟩
  ·match ts,hl with
   | [a],_=>exact ⟨.snd a,rfl,rfl,(fun h=>by simp [Tm.hd] at h),Nat.zero_le _⟩
  ·match ts,hl with
   | [a,b,c],_=>exact ⟨.case a b c,rfl,rfl,(fun h=>by simp [Tm.hd] at h),Nat.zero_le _⟩
 ·rw [if_neg h2] at hn;cases hn
theorem Q7 {L:List RT} (hL:∀ n ∈ L,okR n = true):∀ (f i e:Nat),endE L f i = some e → ∃ t:Tm,L.drop i = t.raw ++ L.drop e ∧ e ≤ L.length ∧ ∀ n ∈ t.nodes,okY n
 | 0,_,_,h=>by cases h
 | f + 1,i,e,h=>by
  rw [endE] at h
  split at h
  ·cases h
  rename_i hi
  have key:∀ (k e0 e:Nat),e0 ≤ L.length → iterE (endE L f) k e0 = some e → ∃ ts:List Tm,ts.length = k ∧ L.drop e0 = ts.flatMap Tm.raw ++ L.drop e ∧ e ≤ L.length ∧ ∀ t ∈ ts,∀ n ∈ t.nodes,okY n:=by
   intro k
   induction k with
   | zero=>
    intro e0 e h0 h
    cases h
    exact ⟨[],rfl,rfl,h0,fun t ht=>(by cases ht)⟩
   | succ k ih=>
    intro e0 e h0 h
    rw [iterE] at h
    cases h1:endE L f e0 with
    | none=>rw [h1] at h;cases h
    | some e1=>
     rw [h1,Option.bind_some] at h
     obtain ⟨t,ht,hl,hy⟩:=Q7 hL f e0 e1 h1
     obtain ⟨ts,h2,h3,h4,h5⟩:=ih e1 e hl h
     refine ⟨t :: ts,by rw [List.length_cons,h2],by rw [List.flatMap_cons,List.append_assoc,← h3,ht],h4,fun u hu=>?_⟩
     rcases List.mem_cons.1 hu with rfl | hu
     ·exact hy
     ·exact h5 u hu
  have hil:i < L.length:=by omega
  obtain ⟨ts,h1,h2,h3,h4⟩:=key _ _ _ (by omega) h
  obtain ⟨t,ht1,ht2,ht3⟩:=mkTm (n:=gt L i) (ts:=ts) (hL _ (by rw [gt_eq hil];exact List.getElem_mem _)) h1
  refine ⟨t,?_,h3,fun n hn=>?_⟩
  ·rw [t.raw_kids,ht1,ht2,List.cons_append,← h2,gt_eq hil]
   exact List.drop_eq_getElem_cons hil
  ·rw [t.nodes_kids,ht2] at hn
   rcases List.mem_cons.1 hn with rfl | hn
   ·exact ht3
   ·obtain ⟨u,hu,hn⟩:=List.mem_flatMap.1 hn
    exact h4 u hu n hn
theorem VR {L:List RT} {f:Nat} (hL:∀ n ∈ L,okR n = true) (h:endE L f 0 = some L.length):∃ t:Tm,L = t.raw ∧ ∀ n ∈ t.nodes,okY n:=by
 obtain ⟨t,h1,h2,h3⟩:=Q7 hL f 0 L.length h
 refine ⟨t,?_,h3⟩
 rw [List.drop_length,List.append_nil] at h1
 exact h1
end Go.Vc

namespace Go.Proofs.YtkjoppimpmojfaaGreat
open Go.Vc
theorem j5:∀ (m:Nat) {t:Tm} {G:List Str} {r:Str} {vG vt:Value} {w:World},t.raw.length ≤ m → Has G t r → G.length + t.dp ≤ 12 → (∀ x ∈ G,plT x = true) → t.raw.length ≤ 60 → numLe 99 t → SlT w vG G → RdT w vt t.raw → Ret Tryz.prog EI #[vG,vt] w (.tuple #[sv r,.bool true])
 | 0,t,_,_,_,_,_,hm,_,_,_,_,_,_,_=>by have:=t.raw_pos;omega
 | m + 1,t,G,r,vG,vt,w,hm,hh,hd,hG,h60,hn,hs,ht=>by
  apply OX;unfold EW
  have hpos:=t.raw_pos
  have hnum:=hn.hd
  have kd:∀ {w':World} {K:Value → Prop},Ext w w' → K (.int .i64 (t.hd.kind:Int)) → xIa 3 vt (.int .i64 0) fun p=>xFa 0 p fun q=>xLd w' q K:=fun {w' K} x h=>
   iFdT (j:=0) (f:=0) (SlK.ext ht x) rfl hpos (by decide) (by rw [t.raw0];rfl) h
  have nm:∀ {w':World} {K:Value → Prop},Ext w w' → K (.int .i64 (t.hd.num:Int)) → xIa 3 vt (.int .i64 0) fun p=>xFa 1 p fun q=>xLd w' q K:=fun {w' K} x h=>
   iFdT (j:=0) (f:=1) (SlK.ext ht x) rfl hpos (by decide) (by rw [t.raw0];rfl) h
  have ty:∀ {w':World} {K:Value → Prop},Ext w w' → K (sv t.hd.typ) → xIa 3 vt (.int .i64 0) fun p=>xFa 2 p fun q=>xLd w' q K:=fun {w' K} x h=>
   iFdT (j:=0) (f:=2) (SlK.ext ht x) rfl hpos (by decide) (by rw [t.raw0];rfl) h
  refine kd (Ext.refl _) (iEq (iCndP (fun h0=>?_) (fun h0=>?_)))
  ·obtain ⟨hv1,hv2⟩:=VK hh (by omega)
   refine nm (Ext.refl _) (iRetQ (fun w' x'=>mJ (Sl.ext hs x')) (iLe ?_))
   intro w1 x1
   refine iCndF (decide_eq_false (by omega)) (nm x1 ?_)
   refine iIaG (Sl.ext hs x1) rfl hv1 ?_
   rw [hv2]
   exact ⟨rfl,x1⟩
  have h0:¬ t.hd.kind = 0:=by omega
  refine iCall ((O3 ht (by omega)).mono ?_)
  rintro p w2 ⟨x2,vs,hp,hkw⟩
  refine kd x2 (iEq (iCndP (fun h8=>?_) (fun h8=>?_)))
  ·obtain ⟨a,b,b',c,q,et,hq,ha,hb,hb'⟩:=U3 hh (by omega)
   subst et
   have hkw:=hkw.ext x2
   have hdd:G.length + max a.dp (1 + max b.dp b'.dp) ≤ 12:=hd
   have kl:=fun {k:Tm} (hk:k ∈ (Tm.case a b b').kids)=>Tm.kid_lt hk
   have ma:a ∈ (Tm.case a b b').kids:=List.mem_cons_self ..
   have mb:b ∈ (Tm.case a b b').kids:=List.mem_cons_of_mem _ (List.mem_cons_self ..)
   have mb':b' ∈ (Tm.case a b b').kids:=List.mem_cons_of_mem _ (List.mem_cons_of_mem _ (List.mem_cons_self ..))
   have la:=kl ma
   have lb:=kl mb
   have lb':=kl mb'
   have hpc:=LU ha hG
   have hpq:=bV hpc hq
   have hs2:=Sl.ext hs x2
   refine iRet (v:=.tuple #[sv r,.bool true]) ?_ fun w3 x3=>iE20 (iE21 ⟨rfl,x2.trans x3⟩)
   apply HP;unfold uO
   refine iKid (j:=0) hp.sl hkw rfl (by decide:0 < 3) fun u0 hu0=>?_
   have hu0:RdT w2 u0 a.raw:=hu0
   refine iRet (j5 m (by omega) ha (by omega) hG (by omega) (hn.kid ma) hs2 hu0) fun w3 x3=>iE20 (iE21 ?_)
   refine iJnB false w3 (fun J hJ=>?_) (fun w4 x4=>?_)
   ·refine iNot (iCndF rfl (aM (Sl.ext hs2 x3) (iEq ?_)))
    rw [decide_eq_false (by omega)]
    exact hJ _ (Ext.refl _)
   intro _
   simp only [gx]
   have x24:=x3.trans x4
   refine iCndF rfl ?_
   refine iCall ((bT (k:=3) hpc w4).mono ?_)
   rintro _ w5 ⟨x5,e,rfl,he⟩
   obtain ⟨hkd,-⟩:=mA hq
   obtain ⟨q',hq',hkb⟩:=fL (.inr (.inl rfl)) hkd
   rw [hq] at hq';cases hq'
   rw [hkb] at he
   rw [decide_eq_true hkd]
   have x25:=x24.trans x5
   have hs5:=Sl.ext hs2 x25
   refine iE20 (iE21 (iNot (iCndF rfl ?_)))
   refine iIaG (L:=[q.1,q.2]) (j:=0) he.sl rfl (by simp) ?_
   refine iKid (j:=1) (hp.ext x25).sl (hkw.ext x25) rfl (by decide:1 < 3) fun u1 hu1=>?_
   have hu1:RdT w5 u1 b.raw:=hu1
   intro w6 x6
   refine iCall ((gN (t:=q.1) (Sl.ext hs5 x6) (by omega)).mono ?_)
   rintro g1 w7 ⟨x7,hg1⟩
   refine ⟨x7,?_⟩
   have plq:∀ {y:Str},plT y = true → ∀ x ∈ G ++ [y],plT x = true:=fun hy x hx=>by
    rcases List.mem_append.1 hx with hx | hx
    ·exact hG x hx
    ·rw [List.mem_singleton.1 hx];exact hy
   refine iRetQ (fun w' x'=>j5 m (by omega) hb (by rw [List.length_append,List.length_singleton];omega) (plq hpq.1) (by omega) (hn.kid mb) (hg1.ext x').sl (SlK.ext hu1 ((x6.trans x7).trans x'))) ?_
   refine iE20 (iE21 ?_)
   intro w8 x8
   have x58:=(x6.trans x7).trans x8
   refine iIaG (L:=[q.1,q.2]) (j:=1) (he.ext x58).sl rfl (by simp) ?_
   refine iKid (j:=2) (hp.ext (x25.trans x58)).sl (hkw.ext (x25.trans x58)) rfl (by decide:2 < 3) fun u2 hu2=>?_
   have hu2:RdT w8 u2 b'.raw:=hu2
   intro w9 x9
   refine iCall ((gN (t:=q.2) (Sl.ext hs5 (x58.trans x9)) (by omega)).mono ?_)
   rintro g2 w10 ⟨x10,hg2⟩
   refine ⟨x10,?_⟩
   refine iRetQ (fun w' x'=>j5 m (by omega) hb' (by rw [List.length_append,List.length_singleton];omega) (plq hpq.2) (by omega) (hn.kid mb') (hg2.ext x').sl (SlK.ext hu2 ((x9.trans x10).trans x'))) ?_
   refine iE20 (iE21 ?_)
   intro w11 x11
   refine iJnX (fun xs w'=>xs = [sv r,.bool true] ∧ w' = w11) (fun J hJ=>?_) ?_
   ·refine iCndT rfl (iCndT rfl (iEqT ?_))
    rw [decide_eq_true rfl]
    exact hJ _ _ ⟨rfl,rfl⟩
   ·rintro _ w12 ⟨rfl,rfl⟩
    exact fun _=>⟨rfl,(((x25.trans x58).trans x9).trans x10).trans x11⟩
  have h8:¬ t.hd.kind = 8:=by omega
  obtain ⟨tys,hl,hk,hN,hpl,hdp⟩:=S2 hh h0 h8 hG
  refine kd x2 (iEq ?_)
  refine iJnX (fun xs w'=>∃ u,xs = [u] ∧ Ext w2 w' ∧ SlT w' u (if t.hd.kind = 1 then G ++ [t.hd.typ] else G)) (fun J hJ=>?_) ?_
  ·refine iCndP (fun h1=>?_) (fun h1=>?_)
   ·rw [if_pos (show t.hd.kind = 1 by omega)] at hJ
    refine ty x2 ?_
    refine iCall ((gN (t:=t.hd.typ) (Sl.ext hs x2) (by omega)).mono ?_)
    rintro g w6 ⟨x6,hg⟩
    exact hJ _ _ ⟨g,rfl,x6,hg.sl⟩
   ·rw [if_neg (show ¬ t.hd.kind = 1 by omega)] at hJ
    exact hJ _ _ ⟨vG,rfl,Ext.refl _,Sl.ext hs x2⟩
  rintro _ w5 ⟨g,rfl,x5,hg⟩
  intro _
  simp only [gx]
  have hG':∀ x ∈ (if t.hd.kind = 1 then G ++ [t.hd.typ] else G),plT x = true:=fun x hx=>by
   by_cases h1:t.hd.kind = 1
   ·rw [if_pos h1] at hx
    rcases List.mem_append.1 hx with hx | hx
    ·exact hG x hx
    ·rw [List.mem_singleton.1 hx];exact hpl h1
   ·rw [if_neg h1] at hx
    exact hG x hx
  have hlen:∀ k ∈ t.kids,(if t.hd.kind = 1 then G ++ [t.hd.typ] else G).length + k.dp ≤ 12:=fun k hk'=>by
   have:=hdp k hk'
   by_cases h1:t.hd.kind = 1
   ·rw [if_pos h1] at this ⊢
    rw [List.length_append,List.length_singleton];omega
   ·rw [if_neg h1] at this ⊢
    omega
  have hk0:0 < t.kids.length:=by
   cases t with
   | var _=>exact absurd rfl h0
   | _=>exact Nat.zero_lt_succ _
  generalize hGe:(if t.hd.kind = 1 then G ++ [t.hd.typ] else G) = G' at *
  have hl12:G'.length ≤ 12:=by
   have:=hlen (gt t.kids 0) (by rw [gt_eq hk0];exact List.getElem_mem _)
   omega
  refine aM hg (iLt (iCndF (decide_eq_false (by omega)) ?_))
  have hk3:=t.kids_len
  have X5:=x2.trans x5
  have hp5:=hp.ext x5
  refine iLenS hp5.sl ?_
  rw [hkw.1]
  refine iLp (fun s:Value × Nat=>[s.1,.int .i64 (s.2:Int)]) (fun s w'=>s.2 ≤ t.kids.length ∧ Ext w5 w' ∧ Ow w5.heap.size aB w' s.1 (strs (tys.take s.2))) (fun s=>t.kids.length - s.2) (.slice none 0 0,0) rfl ⟨Nat.zero_le _,Ext.refl _,Ow.nil _ _ _⟩ ?_
  rintro ⟨z,j⟩ w8 Kn ⟨hj,x8,hz⟩ hKn
  have hj:j ≤ t.kids.length:=hj
  have hz:Ow w5.heap.size aB w8 z (strs (tys.take j)):=hz
  intro _
  simp only [gx]
  refine iLt (iCndP (fun hlt=>?_) (fun hlt=>?_))
  ·have hlt:j < t.kids.length:=by omega
   have hkm:gt t.kids j ∈ t.kids:=by rw [gt_eq hlt];exact List.getElem_mem _
   have hkl:=Tm.kid_lt hkm
   refine iKid (j:=j) (hp5.ext x8).sl (hkw.ext (X5.trans x8)) rfl hlt fun u hu=>?_
   refine iRet (j5 m (by omega) (hk j hlt) (hlen _ hkm) hG' (by omega) (hn.kid hkm) (Sl.ext hg x8) hu) fun w9 x9=>iE20 (iE21 (iNot (iCndF rfl ?_)))
   have hzl:(strs (tys.take j)).length = j:=by rw [aI,List.length_take];omega
   refine sR bS b6 rfl (hz.ext x9) rfl (by omega) (by omega) (x8.trans x9).size fun z' w11 hz11 hg11 _=>?_
   refine iAdd (by omega) ?_
   refine hKn (z',j + 1) _ ⟨hlt,(x8.trans x9).grown hg11 fun c hc=>(hz.blk c hc).1,?_⟩ (by show t.kids.length - (j + 1) < t.kids.length - j;omega)
   show Ow _ _ _ z' (strs (tys.take (j + 1)))
   rw [List.take_succ_eq_append_getElem (by omega),← gt_eq (by omega),← s4]
   exact hz11
  ·have:j = t.kids.length:=by omega
   rw [this,← hl,List.take_length] at hz
   refine iLdK (j:=0) (cs:=(rawN t.hd).cs.toArray) (SlK.ext ht (X5.trans x8)) rfl hpos rfl (fun f hf=>by rw [gI hpos f hf,t.raw0];simp) ?_
   refine iRet (JL hN hz.sl) fun w12 x12=>iE20 (iE21 ?_)
   exact ⟨rfl,(X5.trans x8).trans x12⟩
theorem FSz {t:Tm} {G:List Str} {r:Str} {vG vt:Value} {w:World} (hh:Has G t r) (hd:G.length + t.dp ≤ 12) (hG:∀ x ∈ G,plT x = true) (h60:t.raw.length ≤ 60) (hn:numLe 99 t) (hs:SlT w vG G) (ht:RdT w vt t.raw):Ret Tryz.prog tT #[vG,vt] w (.tuple #[sv r,.int .i64 0]):=by
 apply HT;unfold t6
 refine iJnB false w (fun J hJ=>?_) (fun w2 x2=>?_)
 ·refine iRet (NL ht h60 hn (TI hh)) fun w3 x3=>iNot (iCndF rfl ?_)
  refine iRet (l1 (Sl.ext hs x3)) fun w4 x4=>iNot ?_
  rw [show (decide (G.length ≤ 12) && G.all plT) = true by rw [decide_eq_true (by omega),Bool.true_and,List.all_eq_true];exact hG]
  exact hJ _ (x3.trans x4)
 ·intro _
  simp only [gx]
  refine iCndF rfl (iRet (j5 _ (Nat.le_refl _) hh hd hG h60 hn (Sl.ext hs x2) (SlK.ext ht x2)) fun w5 x5=>iE20 (iE21 (iNot (iCndF rfl ⟨by first | trivial | rfl,x2.trans x5⟩))))
end Go.Proofs.YtkjoppimpmojfaaGreat

namespace Go.Vc
def parI (k:Int):Int:=if 0 ≤ k ∧ k ≤ 9 then (arT k.toNat:Int) else -1
theorem VE {n:RT} (h:okR n = true):0 ≤ n.kind ∧ n.kind ≤ 9:=by
 unfold okR at h
 split at h
 ·omega
 split at h
 ·omega
 split at h
 ·omega
 ·cases h
def encE:Option Nat → Int
 | some e=>(e:Int)
 | none=>-1
theorem RR {L:List RT}:∀ (f i e:Nat),endE L f i = some e → i < e ∧ e ≤ L.length
 | 0,_,_,h=>by cases h
 | f + 1,i,e,h=>by
  rw [endE] at h
  split at h
  ·cases h
  rename_i hi
  have key:∀ (k e0 e:Nat),e0 ≤ L.length → iterE (endE L f) k e0 = some e → e0 ≤ e ∧ e ≤ L.length:=by
   intro k
   induction k with
   | zero=>intro e0 e h0 h;cases h;exact ⟨Nat.le_refl _,h0⟩
   | succ k ih=>
    intro e0 e h0 h
    rw [iterE] at h
    cases h1:endE L f e0 with
    | none=>rw [h1] at h;cases h
    | some e1=>
     rw [h1,Option.bind_some] at h
     have h2:=RR f e0 e1 h1
     have h3:=ih e1 e h2.2 h
     omega
  have:=key _ _ _ (by omega) h
  omega
def PtT (e:TypeId) (w:World) (v:Value) (L:List RT):Prop:=∃ v0 L0,OwT e 0 w v0 L0 ∧ ∀ w',RdT w' v0 L0 → RdT w' v L
theorem PtT.rd {e:TypeId} {w:World} {v:Value} {L:List RT} (h:PtT e w v L):RdT w v L:=let ⟨_,_,h1,h2⟩:=h;h2 w h1.sl
theorem iSlKP {w:World} {k:Nat} {v:Value} {n i j:Nat} {xs:List Value} {ki kj:IntKind} {K:Value → Prop} (hs:SlK k w v n xs) (hi:i ≤ j) (hj:j ≤ n) (h:∀ r,aD r = true → (∀ w',SlK k w' v n xs → SlK k w' r (j - i) ((xs.drop (i * k)).take ((j - i) * k))) → K r):xSl k v (some (.int ki (i:Int))) (some (.int kj (j:Int))) K:=by
 obtain ⟨h0,a,c,rfl,h2,h3,h4⟩:=hs
 have hik:i * k ≤ j * k:=Nat.mul_le_mul_right _ hi
 have hjk:j * k ≤ n * k:=Nat.mul_le_mul_right _ hj
 refine ⟨_,_,_,i,j,rfl,⟨kj,rfl⟩,⟨ki,rfl⟩,hi,by omega,h _ rfl ?_⟩
 rintro w' ⟨_,a',c',e',_,_,h4'⟩
 cases e'
 refine ⟨?_,_,_,rfl,by omega,by omega,?_⟩
 ·rw [List.length_take,List.length_drop,Nat.sub_mul];omega
 ·rcases h4' with rfl | ⟨b,o,rfl,hc⟩
  ·exact .inl (by omega)
  ·by_cases hz:j - i = 0
   ·exact .inl hz
   ·refine .inr ⟨b,o + i * k,by rw [if_neg (by omega),Option.map_some,dB],fun m hm=>?_⟩
    rw [Nat.sub_mul] at hm ⊢
    rw [Nat.add_assoc,hc _ (by omega),List.getElem?_take,if_pos hm,List.getElem?_drop]
theorem iSlPT {w:World} {v:Value} {L:List RT} {i j:Nat} {ki kj:IntKind} {K:Value → Prop} (hs:RdT w v L) (hi:i ≤ j) (hj:j ≤ L.length) (h:∀ r,(∀ w',RdT w' v L → RdT w' r ((L.drop i).take (j - i))) → K r):xSl 3 v (some (.int ki (i:Int))) (some (.int kj (j:Int))) K:=
 iSlKP hs hi hj fun r _ hr=>h r fun w' h'=>by
  have hl:((L.drop i).take (j - i)).length = j - i:=by rw [List.length_take,List.length_drop];omega
  have:=hr w' h'
  unfold RdT
  rw [hl,← II,← zX]
  exact this
end Go.Vc
namespace Go.Proofs.YtkjoppimpmojfaaGreat
open Go.Vc
theorem hY (k:Int) (w:World):Ret Tryz.prog yV #[.int .i64 k] w (.int .i64 (parI k)):=by
 apply LO;unfold xT
 by_cases h:0 ≤ k ∧ k ≤ 9
 ·rcases (show k = 0 ∨ k = 1 ∨ k = 2 ∨ k = 3 ∨ k = 4 ∨ k = 5 ∨ k = 6 ∨ k = 7 ∨ k = 8 ∨ k = 9 by omega) with h | h | h | h | h | h | h | h | h | h <;> subst h <;> repeat first | exact ⟨by first | trivial | rfl,Ext.refl _⟩ | (refine iEq ?_) | (refine iCndT (by decide) ?_) | (refine iCndF (by decide) ?_) | (refine iJn ?_) | (intro _;try simp only [gx])
 ·rw [show parI k = -1 from if_neg h]
  repeat first | exact ⟨by first | trivial | rfl,Ext.refl _⟩ | (refine iEq ?_) | (refine iCndF (decide_eq_false (by omega)) ?_) | (refine iJn ?_) | (intro _;try simp only [gx])
theorem IT (k:Int) (w:World):Ret Tryz.prog pF #[.int .i64 k] w (.bool (decide (k = 1 ∨ k = 6 ∨ k = 7 ∨ k = 9))):=by
 apply LN;unfold xO
 refine iJnB (decide (k = 1 ∨ k = 6 ∨ k = 7 ∨ k = 9)) w (fun J hJ=>?_) (fun w2 x2=>fun _=>⟨by first | trivial | rfl,x2⟩)
 refine iEq (iCndP (fun h=>?_) (fun h1=>iEq (iCndP (fun h=>?_) (fun h2=>iEq (iCndP (fun h=>?_) (fun h3=>iEq ?_))))))
 ·rw [decide_eq_true (by omega)] at hJ;exact hJ _ (Ext.refl _)
 ·rw [decide_eq_true (by omega)] at hJ;exact hJ _ (Ext.refl _)
 ·rw [decide_eq_true (by omega)] at hJ;exact hJ _ (Ext.refl _)
 ·rw [show decide (k = 9) = decide (k = 1 ∨ k = 6 ∨ k = 7 ∨ k = 9) from decide_eq_decide.2 (by omega)]
  exact hJ _ (Ext.refl _)
theorem LH (n:RT) (w:World):Ret Tryz.prog C2 #[.agg n.cs.toArray] w (.bool (okR n)):=by
 apply M7;unfold CC
 refine iNew3 fun q w1 hq x1 hB=>?_
 have hB:Blk aA w1 q [.int .i64 n.kind,.int .i64 n.num,sv n.typ]:=hB
 have f0:∀ {w':World} {K:Value → Prop},Ext w1 w' → K (.int .i64 n.kind) → xFa 0 (.pointer (some ⟨q,0,none⟩)) fun p=>xLd w' p K:=fun x h=>iFa (iLdB (hB.ext x) (i:=0) (v:=.int .i64 n.kind) rfl h)
 have f1:∀ {w':World} {K:Value → Prop},Ext w1 w' → K (.int .i64 n.num) → xFa 1 (.pointer (some ⟨q,0,none⟩)) fun p=>xLd w' p K:=fun x h=>iFa (iLdB (hB.ext x) (i:=1) (v:=.int .i64 n.num) rfl h)
 have f2:∀ {w':World} {K:Value → Prop},Ext w1 w' → K (sv n.typ) → xFa 2 (.pointer (some ⟨q,0,none⟩)) fun p=>xLd w' p K:=fun x h=>iFa (iLdB (hB.ext x) (i:=2) (v:=sv n.typ) rfl h)
 have rest:∀ {w3:World},Ext w1 w3 → (0 ≤ n.kind ∧ n.kind ≤ 9) → (n.kind ≠ 0 → n.num = 0) → (0 ≤ n.num ∧ n.num ≤ 99) → xFa 0 (.pointer (some ⟨q,0,none⟩)) fun v25=>xLd w3 v25 fun v26=>callV Tryz.prog (.func (.func pF) #[] #[]) [v26] w3 fun v27 w7=>xNot v27 fun v28=>cnd v28 (xFa 2 (.pointer (some ⟨q,0,none⟩)) fun v29=>xLd w7 v29 fun v30=>xStr .eql v30 (.string ⟨#[]⟩) fun v31=>(v31 = .bool (okR n) ∧ Ext w w7)) (xFa 2 (.pointer (some ⟨q,0,none⟩)) fun v33=>xLd w7 v33 fun v34=>callV Tryz.prog (.func (.func f9) #[] #[]) [v34] w7 fun v35 w8=>xEx v35 0 fun _=>xEx v35 1 fun v37=>(v37 = .bool (okR n) ∧ Ext w w8)):=fun {w3} x3 hk hn h99=>by
  refine f0 x3 (iRet (IT n.kind w3) fun w7 x7=>iNot (iCnd (fun h=>?_) (fun h=>?_)))
  ·have h:¬ (n.kind = 1 ∨ n.kind = 6 ∨ n.kind = 7 ∨ n.kind = 9):=by simpa using h
   refine f2 (x3.trans x7) (iEqT (b:=[]) ⟨?_,(x1.trans x3).trans x7⟩)
   congr 1
   unfold okR
   by_cases h0:n.kind = 0
   ·rw [if_pos h0,decide_eq_true (show 0 ≤ n.num ∧ n.num ≤ 99 from h99),Bool.true_and]
   ·rw [if_neg h0,if_neg h,if_pos (by omega),decide_eq_true (hn h0),Bool.true_and]
  ·have h:n.kind = 1 ∨ n.kind = 6 ∨ n.kind = 7 ∨ n.kind = 9:=of_decide_eq_true (by rw [Bool.not_eq_false'] at h;exact h)
   refine f2 (x3.trans x7) ?_
   refine iCall ((cO n.typ w7).mono ?_)
   rintro _ w8 ⟨x8,u,rfl,-⟩
   refine iE20 (iE21 ⟨?_,((x1.trans x3).trans x7).trans x8⟩)
   congr 1
   unfold okR
   rw [if_neg (by omega),if_pos h,decide_eq_true (hn (by omega)),Bool.true_and]
 have no:∀ {w3:World},Ext w1 w3 → okR n = false → (Value.bool false = .bool (okR n) ∧ Ext w w3):=fun x h=>⟨by rw [h],x1.trans x⟩
 by_cases hk:0 ≤ n.kind ∧ n.kind ≤ 9
 rotate_left
 ·have e:okR n = false:=by
   unfold okR
   rw [if_neg (by omega),if_neg (by omega),if_neg (by omega)]
  refine iJnB true w1 (fun J hJ=>?_) (fun w3 x3=>fun _=>iCndT rfl (no x3 e))
  refine f0 (Ext.refl _) (iRet (hY n.kind w1) fun w4 x4=>?_)
  rw [show parI n.kind = -1 from if_neg hk]
  exact iLt (iCndT (by decide) (hJ _ x4))
 have hp:0 ≤ parI n.kind:=by rw [show parI n.kind = (arT n.kind.toNat:Int) from if_pos hk];omega
 by_cases hz:n.kind ≠ 0 ∧ n.num ≠ 0
 ·have e:okR n = false:=by
   unfold okR
   rw [if_neg hz.1,decide_eq_false hz.2,Bool.false_and,Bool.false_and]
   repeat' split
   all_goals rfl
  refine iJnB true w1 (fun J hJ=>?_) (fun w3 x3=>fun _=>iCndT rfl (no x3 e))
  refine f0 (Ext.refl _) (iRet (hY n.kind w1) fun w4 x4=>?_)
  refine iLt (iCndF (decide_eq_false (by omega)) ?_)
  refine f0 x4 (iNe (iCndT (decide_eq_true hz.1) (f1 x4 (iNe (iCndT (decide_eq_true hz.2) (hJ _ x4))))))
 refine iJnB (!decide (0 ≤ n.num ∧ n.num ≤ 99)) w1 (fun J hJ=>?_) (fun w3 x3=>fun _=>?_)
 ·refine f0 (Ext.refl _) (iRet (hY n.kind w1) fun w4 x4=>?_)
  refine iLt (iCndF (decide_eq_false (by omega)) ?_)
  refine f0 x4 (iNe (iCndP (fun h1=>?_) (fun h1=>?_)))
  ·refine f1 x4 (iNe (iCndF (decide_eq_false (by omega)) (f1 x4 (iRet (kX _ _ _ w4) fun w5 x5=>iNot (hJ _ (x4.trans x5))))))
  ·exact f1 x4 (iRet (kX _ _ _ w4) fun w5 x5=>iNot (hJ _ (x4.trans x5)))
 ·refine iCnd (fun h=>no x3 ?_) (fun h=>rest x3 hk (fun h0=>?_) ?_)
  ·have h:¬ (0 ≤ n.num ∧ n.num ≤ 99):=of_decide_eq_false (by rw [Bool.not_eq_true'] at h;exact h)
   unfold okR
   by_cases h0:n.kind = 0
   ·rw [if_pos h0,decide_eq_false h,Bool.false_and]
   ·rw [if_neg h0,decide_eq_false (by omega),Bool.false_and,Bool.false_and]
    repeat' split
    all_goals rfl
  ·exact Classical.byContradiction fun h2=>hz ⟨h0,h2⟩
  ·simpa using h
theorem rS {L:List RT} (hL:∀ n ∈ L,okR n = true) (hlen:L.length ≤ 1000000) {v:Value}:∀ (f:Nat) {i:Nat} {w:World},RdT w v L → L.length ≤ f + i → i ≤ 1000000 → Ret Tryz.prog tH #[v,.int .i64 (i:Int)] w (.int .i64 (encE (endE L (f + 1) i)))
 | f,i,w,hs,hf,hi=>by
  apply PG;unfold E1
  refine iLenK hs (iLe (iCndP (fun h=>?_) (fun h=>?_)))
  ·rw [endE,if_pos (by omega)]
   exact ⟨rfl,Ext.refl _⟩
  have hil:i < L.length:=by omega
  rw [endE,if_neg (by omega)]
  refine iAdd (by omega) ?_
  refine iFdT (f:=0) (x:=.int .i64 (gt L i).kind) hs rfl hil (by decide) rfl ?_
  refine iRet (hY (gt L i).kind w) fun w1 x1=>?_
  rw [show parI (gt L i).kind = (arT (gt L i).kind.toNat:Int) from if_pos (VE (hL _ (by rw [gt_eq hil];exact List.getElem_mem _)))]
  have har:=SV (gt L i).kind.toNat
  have hg:∀ {e e':Nat},endE L f e = some e' → e < e' ∧ e' ≤ L.length:=fun h=>RR f _ _ h
  refine iLp (fun s:Option Nat × Nat=>[.int .i64 (encE s.1),.int .i64 (s.2:Int)]) (fun s w'=>Ext w w' ∧ s.2 ≤ 3 ∧ (∀ e,s.1 = some e → i + 1 ≤ e ∧ e ≤ L.length) ∧ s.1.bind (iterE (endE L f) s.2) = iterE (endE L f) (arT (gt L i).kind.toNat) (i + 1)) (fun s=>s.2) (some (i + 1),arT (gt L i).kind.toNat) (by show [Value.int .i64 ((i:Int) + 1),_] = [.int .i64 (((i + 1:Nat)):Int),_];rw [Int.natCast_add];rfl)
   ⟨x1,har,fun e he=>by cases he;omega,rfl⟩ ?_
  rintro ⟨o,k⟩ w3 Kn ⟨x3,hk3,ho,hit⟩ hKn
  have hk3:k ≤ 3:=hk3
  have ho:∀ e,o = some e → i + 1 ≤ e ∧ e ≤ L.length:=ho
  have hit:o.bind (iterE (endE L f) k) = iterE (endE L f) (arT (gt L i).kind.toNat) (i + 1):=hit
  intro _
  simp only [gx]
  refine iJnX (fun xs w'=>xs = [.bool (decide (0 < k) && o.isSome)] ∧ w' = w3) (fun J hJ=>?_) ?_
  ·refine iLt (iCndP (fun h=>?_) (fun h=>?_))
   ·rw [decide_eq_true (show 0 < k by omega),Bool.true_and] at hJ
    refine iLe ?_
    cases o with
    | none=>exact hJ _ _ ⟨rfl,rfl⟩
    | some e=>
     rw [decide_eq_true (show (0:Int) ≤ encE (some e) from Int.natCast_nonneg e)]
     exact hJ _ _ ⟨rfl,rfl⟩
   ·rw [decide_eq_false (show ¬ 0 < k by omega),Bool.false_and] at hJ
    exact hJ _ _ ⟨rfl,rfl⟩
  rintro _ w5 ⟨rfl,rfl⟩
  intro _
  simp only [gx]
  refine iCnd (fun h=>?_) (fun h=>?_)
  ·rw [Bool.and_eq_true,decide_eq_true_eq] at h
   obtain ⟨hk0,hos⟩:=h
   cases o with
   | none=>cases hos
   | some e=>
    obtain ⟨k,rfl⟩:∃ k',k = k' + 1:=⟨k - 1,by omega⟩
    have he:=ho e rfl
    have hf1:1 ≤ f:=by omega
    obtain ⟨f,rfl⟩:∃ f',f = f' + 1:=⟨f - 1,by omega⟩
    refine iRet (rS hL hlen f (i:=e) (SlK.ext hs x3) (by omega) (by omega)) fun w6 x6=>?_
    refine iSub (by omega) ?_
    rw [show ((k + 1:Nat):Int) - 1 = (k:Int) by omega]
    refine hKn (endE L (f + 1) e,k) _ ⟨x3.trans x6,by omega,fun e' he'=>?_,?_⟩ (Nat.lt_succ_self k)
    ·have:=hg he';omega
    ·rw [← hit,Option.bind_some,iterE]
  ·refine ⟨?_,x3⟩
   rw [← hit]
   cases o with
   | none=>rfl
   | some e=>
    have:k = 0:=by
     have:¬ 0 < k:=fun hk=>by simp [hk] at h
     omega
    subst this
    rfl
theorem PA {L:List RT} {v:Value} {w:World} (hs:RdT w v L) (hlen:L.length ≤ 1000000):Cal Tryz.prog FQ #[v] w fun r w'=>Ext w w' ∧ ∃ b:Bool,r = .bool b ∧ (b = true → L.length ≤ 60 ∧ (∀ n ∈ L,okR n = true) ∧ ∃ t:Tm,L = t.raw):=by
 apply QK;unfold GW
 refine iJnX (fun xs w'=>∃ b:Bool,xs = [.bool b] ∧ w' = w ∧ (b = false → L.length ≤ 60)) (fun J hJ=>?_) ?_
 ·refine iLenK hs (iEq (iCndP (fun _=>hJ _ _ ⟨true,rfl,rfl,fun e=>by cases e⟩) (fun _=>iLenK hs (iLt ?_))))
  exact hJ _ _ ⟨_,rfl,rfl,fun e=>by have:=of_decide_eq_false e;omega⟩
 rintro _ w2 ⟨b,rfl,rfl,hb⟩
 intro _
 simp only [gx]
 refine iCnd (fun _=>⟨Ext.refl _,false,rfl,fun e=>by cases e⟩) (fun hb'=>?_)
 have h60:=hb hb'
 refine iLp (fun i:Nat=>[.int .i64 (i:Int)]) (fun i w'=>i ≤ L.length ∧ Ext w2 w' ∧ ∀ j,j < i → okR (gt L j) = true) (fun i=>L.length - i) 0 rfl ⟨Nat.zero_le _,Ext.refl _,fun j hj=>absurd hj (Nat.not_lt_zero j)⟩ ?_
 rintro i w4 Kn ⟨hi,x4,hok⟩ hKn
 intro _
 simp only [gx]
 refine iLenK (SlK.ext hs x4) (iLt (iCndP (fun hlt=>?_) (fun hlt=>?_)))
 ·have hil:i < L.length:=by omega
  refine iLdK (j:=i) (cs:=(gt L i).cs.toArray) (SlK.ext hs x4) rfl hil rfl (fun f hf=>by rw [gI hil f hf];simp) ?_
  refine iRet (LH (gt L i) w4) fun w5 x5=>iNot (iCnd (fun _=>⟨x4.trans x5,false,rfl,fun e=>by cases e⟩) (fun h=>?_))
  refine iAdd (by omega) ?_
  refine hKn (i + 1) _ ⟨hil,x4.trans x5,fun j hj=>?_⟩ (by omega)
  by_cases e:j = i
  ·subst e;simpa using h
  ·exact hok j (by omega)
 ·have hall:∀ n ∈ L,okR n = true:=fun n hn=>by
   obtain ⟨j,hj,rfl⟩:=List.getElem_of_mem hn
   rw [← gt_eq hj];exact hok j (by omega)
  refine iRet (rS hall hlen L.length (i:=0) (SlK.ext hs x4) (by omega) (by omega)) fun w6 x6=>?_
  refine iLenK (SlK.ext hs (x4.trans x6)) (iEq ⟨x4.trans x6,_,rfl,fun h=>⟨h60,hall,?_⟩⟩)
  have h:=of_decide_eq_true h
  suffices h2:endE L (L.length + 1) 0 = some L.length by
   obtain ⟨t,ht,_⟩:=VR hall h2
   exact ⟨t,ht⟩
  cases he:endE L (L.length + 1) 0 with
  | none=>rw [he] at h;have h:(-1:Int) = (L.length:Int):=h;omega
  | some e=>rw [he] at h;have h:(e:Int) = (L.length:Int):=h;congr 1;omega
theorem qA {t:Tm} (hok:∀ n ∈ t.raw,okR n = true) (hlen:t.raw.length ≤ 100000) {k:Nat} (hk:k < t.kids.length) {v:Value} {w:World} (hs:RdT w v t.raw):Cal Tryz.prog rA #[v,.int .i64 (k:Int)] w fun r w'=>Ext w w' ∧ ∀ w'',RdT w'' v t.raw → RdT w'' r (gt t.kids k).raw:=by
 apply MO;unfold BR
 have hk3:=t.kids_len
 have ed:∀ {w':World} {j:Nat},j < t.kids.length → Ext w w' → Ret Tryz.prog tH #[v,.int .i64 ((1 + ((t.kids.take j).flatMap Tm.raw).length:Nat):Int)] w' (.int .i64 ((1 + ((t.kids.take (j + 1)).flatMap Tm.raw).length:Nat):Int)):=fun {w' j} hj x=>by
  have h1:=vE t j
  have h2:=OR (L:=t.raw) (t.raw.length + 1) (gt t.kids j) (1 + ((t.kids.take j).flatMap Tm.raw).length) _ (by have:=Tm.kid_lt (t:=t) (k:=gt t.kids j) (by rw [gt_eq hj];exact List.getElem_mem _);omega) (Tm.drop_kids hj)
  have h3:=rS hok (by omega) t.raw.length (i:=1 + ((t.kids.take j).flatMap Tm.raw).length) (SlK.ext hs x) (by omega) (by omega)
  rw [h2] at h3
  rw [DL hj,← Nat.add_assoc]
  exact h3
 refine iLp (fun j:Nat=>[.int .i64 ((k - j:Nat):Int),.int .i64 ((1 + ((t.kids.take j).flatMap Tm.raw).length:Nat):Int)]) (fun j w'=>j ≤ k ∧ Ext w w') (fun j=>k - j) 0 (by simp) ⟨Nat.zero_le _,Ext.refl _⟩ ?_
 rintro j w2 Kn ⟨hj,x2⟩ hKn
 intro _
 simp only [gx]
 refine iLt (iCndP (fun h=>?_) (fun h=>?_))
 ·refine iRet (ed (by omega) x2) fun w3 x3=>iSub (by omega) ?_
  rw [show ((k - j:Nat):Int) - 1 = ((k - (j + 1):Nat):Int) by omega]
  exact hKn (j + 1) _ ⟨by omega,x2.trans x3⟩ (by omega)
 ·have:j = k:=by omega
  subst this
  refine iRet (ed hk x2) fun w4 x4=>?_
  have hle:=vE t (j + 1)
  rw [DL hk] at hle ⊢
  refine iSlPT (i:=1 + ((t.kids.take j).flatMap Tm.raw).length) (j:=1 + (((t.kids.take j).flatMap Tm.raw).length + (gt t.kids j).raw.length)) (SlK.ext hs (x2.trans x4)) (by omega) hle fun r hr=>⟨x2.trans x4,fun w'' h''=>?_⟩
  have:=hr w'' h''
  rw [Tm.drop_kids hk,show 1 + (((t.kids.take j).flatMap Tm.raw).length + (gt t.kids j).raw.length) - (1 + ((t.kids.take j).flatMap Tm.raw).length) = (gt t.kids j).raw.length by omega,List.take_left] at this
  exact this
end Go.Proofs.YtkjoppimpmojfaaGreat

namespace Go.Vc
def joinR (k:Nat) (a b:Str):Str:=if 40 < (mkK k (fT a) (fT b)).size then [] else (mkK k (fT a) (fT b)).body
def tyR:Tm → List Str → Str
 | .var n,G=>if G.length ≤ n then [] else gt G n
 | .lam ty b,G=>if (if 12 ≤ G.length then [] else tyR b (G ++ [ty])) = [] then [] else joinR 4 ty (if 12 ≤ G.length then [] else tyR b (G ++ [ty]))
 | .app f x,G=>if tyR f G = [] then [] else if tyR x G = [] then [] else match parK (tyR f G) 4 with | some p=>if p.1 = tyR x G then p.2 else [] | none=>[]
 | .pair a b,G=>if tyR a G = [] then [] else if tyR b G = [] then [] else joinR 2 (tyR a G) (tyR b G)
 | .fst a,G=>if tyR a G = [] then [] else match parK (tyR a G) 2 with | some p=>p.1 | none=>[]
 | .snd a,G=>if tyR a G = [] then [] else match parK (tyR a G) 2 with | some p=>p.2 | none=>[]
 | .left ty a,G=>if tyR a G = [] then [] else joinR 3 (tyR a G) ty
 | .right ty a,G=>if tyR a G = [] then [] else joinR 3 ty (tyR a G)
 | .abort ty a,G=>if tyR a G = [] then [] else if tyR a G = [70] then ty else []
 | .case a b c,G=>if tyR a G = [] then [] else match parK (tyR a G) 3 with
  | some p=>if (if 12 ≤ G.length then [] else tyR b (G ++ [p.1])) = (if 12 ≤ G.length then [] else tyR c (G ++ [p.2])) then (if 12 ≤ G.length then [] else tyR b (G ++ [p.1])) else []
  | none=>[]
def PE (s:Str):Prop:=s = [] ∨ plT s = true
theorem PE.pl {s:Str} (h:PE s) (hn:¬ s = []):plT s = true:=h.resolve_left hn
theorem S1 {k:Nat} {a b:Fm} (ha:a.plain = true) (hb:b.plain = true):(mkK k a b).plain = true:=by
 unfold mkK
 repeat' split
 all_goals simp [Fm.plain,ha,hb]
theorem DM {k:Nat} {a b:Str} (ha:plT a = true) (hb:plT b = true):PE (joinR k a b):=by
 obtain ⟨-,ga,pa,-,-⟩:=dY ha
 obtain ⟨-,gb,pb,-,-⟩:=dY hb
 unfold joinR
 split
 ·exact .inl rfl
 ·rename_i h
  have hl:=vZ (mkK k (fT a) (fT b))
  exact .inr (P2 (bC k ga gb) (S1 pa pb) (by omega) (by omega))
theorem vH {t:Tm} (hok:∀ n ∈ t.raw,okR n = true) (hk:t.hd.kind = 1 ∨ t.hd.kind = 6 ∨ t.hd.kind = 7 ∨ t.hd.kind = 9):plT t.hd.typ = true:=by
 have h:=hok (rawN t.hd) (by rw [t.raw_kids];exact List.mem_cons_self ..)
 unfold okR at h
 rw [if_neg (show ¬ (rawN t.hd).kind = 0 by show ¬ (t.hd.kind:Int) = 0;omega),if_pos (show (rawN t.hd).kind = 1 ∨ (rawN t.hd).kind = 6 ∨ (rawN t.hd).kind = 7 ∨ (rawN t.hd).kind = 9 by show (t.hd.kind:Int) = 1 ∨ (t.hd.kind:Int) = 6 ∨ (t.hd.kind:Int) = 7 ∨ (t.hd.kind:Int) = 9;omega),Bool.and_eq_true] at h
 exact h.2
theorem eL {t k:Tm} (hok:∀ n ∈ t.raw,okR n = true) (hk:k ∈ t.kids):∀ n ∈ k.raw,okR n = true:=fun n hn=>hok n (by
 rw [t.raw_kids]
 exact List.mem_cons_of_mem _ (List.mem_flatMap.2 ⟨k,hk,hn⟩))
theorem rI {G:List Str} {s:Str} (hG:∀ x ∈ G,PE x) (hs:PE s):∀ x ∈ G ++ [s],PE x:=fun x hx=>by
 rcases List.mem_append.1 hx with hx | hx
 ·exact hG x hx
 ·rw [List.mem_singleton.1 hx];exact hs
theorem i5:∀ (t:Tm) (G:List Str),(∀ n ∈ t.raw,okR n = true) → (∀ x ∈ G,PE x) → PE (tyR t G)
 | .var n,G,_,hG=>by
  rw [tyR]
  split
  ·exact .inl rfl
  ·rename_i h
   exact hG _ (by rw [gt_eq (by omega)];exact List.getElem_mem _)
 | .lam ty b,G,hok,hG=>by
  have hty:plT ty = true:=vH (t:=.lam ty b) hok (.inl rfl)
  have hb:=i5 b (G ++ [ty]) (eL hok (List.mem_cons_self ..)) (rI hG (.inr hty))
  rw [tyR]
  by_cases h12:12 ≤ G.length
  ·rw [if_pos h12,if_pos rfl];exact .inl rfl
  rw [if_neg h12]
  by_cases h:tyR b (G ++ [ty]) = []
  ·rw [if_pos h];exact .inl rfl
  ·rw [if_neg h];exact DM hty (hb.pl h)
 | .app f x,G,hok,hG=>by
  have hf:=i5 f G (eL hok (List.mem_cons_self ..)) hG
  rw [tyR]
  split
  ·exact .inl rfl
  rename_i h
  split
  ·exact .inl rfl
  split
  ·rename_i p hp
   split
   ·exact .inr (bV (hf.pl h) hp).2
   ·exact .inl rfl
  ·exact .inl rfl
 | .pair a b,G,hok,hG=>by
  have ha:=i5 a G (eL hok (List.mem_cons_self ..)) hG
  have hb:=i5 b G (eL hok (List.mem_cons_of_mem _ (List.mem_cons_self ..))) hG
  rw [tyR]
  split
  ·exact .inl rfl
  rename_i h
  split
  ·exact .inl rfl
  rename_i h'
  exact DM (ha.pl h) (hb.pl h')
 | .fst a,G,hok,hG=>by
  have ha:=i5 a G (eL hok (List.mem_cons_self ..)) hG
  rw [tyR]
  split
  ·exact .inl rfl
  rename_i h
  split
  ·rename_i p hp;exact .inr (bV (ha.pl h) hp).1
  ·exact .inl rfl
 | .snd a,G,hok,hG=>by
  have ha:=i5 a G (eL hok (List.mem_cons_self ..)) hG
  rw [tyR]
  split
  ·exact .inl rfl
  rename_i h
  split
  ·rename_i p hp;exact .inr (bV (ha.pl h) hp).2
  ·exact .inl rfl
 | .left ty a,G,hok,hG=>by
  have ha:=i5 a G (eL hok (List.mem_cons_self ..)) hG
  have hty:plT ty = true:=vH (t:=.left ty a) hok (.inr (.inl rfl))
  rw [tyR]
  split
  ·exact .inl rfl
  rename_i h
  exact DM (ha.pl h) hty
 | .right ty a,G,hok,hG=>by
  have ha:=i5 a G (eL hok (List.mem_cons_self ..)) hG
  have hty:plT ty = true:=vH (t:=.right ty a) hok (.inr (.inr (.inl rfl)))
  rw [tyR]
  split
  ·exact .inl rfl
  rename_i h
  exact DM hty (ha.pl h)
 | .abort ty a,G,hok,hG=>by
  have hty:plT ty = true:=vH (t:=.abort ty a) hok (.inr (.inr (.inr rfl)))
  rw [tyR]
  split
  ·exact .inl rfl
  split
  ·exact .inr hty
  ·exact .inl rfl
 | .case a b c,G,hok,hG=>by
  have ha:=i5 a G (eL hok (List.mem_cons_self ..)) hG
  rw [tyR]
  split
  ·exact .inl rfl
  rename_i h
  split
  ·rename_i p hp
   have hb:=i5 b (G ++ [p.1]) (eL hok (List.mem_cons_of_mem _ (List.mem_cons_self ..))) (rI hG (.inr (bV (ha.pl h) hp).1))
   by_cases h12:12 ≤ G.length
   ·rw [if_pos h12,if_pos h12,if_pos rfl];exact .inl rfl
   rw [if_neg h12,if_neg h12]
   by_cases e:tyR b (G ++ [p.1]) = tyR c (G ++ [p.2])
   ·rw [if_pos e];exact hb
   ·rw [if_neg e];exact .inl rfl
  ·exact .inl rfl
end Go.Vc
namespace Go.Proofs.YtkjoppimpmojfaaGreat
open Go.Vc
theorem jS {k:Nat} (hk:k = 2 ∨ k = 3 ∨ k = 4) {a b:Str} (ha:plT a = true) (hb:plT b = true) (w:World):Ret Tryz.prog wB #[.int .i64 (k:Int),sv a,sv b] w (sv (joinR k a b)):=by
 obtain ⟨-,ga,-,-,ca⟩:=dY ha
 obtain ⟨-,gb,-,-,cb⟩:=dY hb
 have sa:=(bL ca).1
 have sb:=(bL cb).1
 have sa:(fT a).size ≤ 40:=sa
 have sb:(fT b).size ≤ 40:=sb
 apply I4;unfold wJ
 refine iCall ((pW a w).mono ?_)
 rintro _ w1 ⟨x1,va,rfl,h1⟩
 have h1:FmW w.heap.size w1 va (fT a):=h1 ca
 refine iE20 (iE21 ?_)
 refine iCall ((pW b w1).mono ?_)
 rintro _ w2 ⟨x2,vb,rfl,h2⟩
 have h2:FmW w1.heap.size w2 vb (fT b):=h2 cb
 refine iE20 (iE21 ?_)
 refine iCall ((dM (yL hk _ _) (aU k _ _) (SlK.ext h1.sl x2) h2.sl (by rw [aU];omega)).mono ?_)
 rintro vc w3 ⟨x3,h3⟩
 have X3:=(x1.trans x2).trans x3
 refine iLenK h3.sl (iLt (iCndP (fun h=>?_) (fun h=>?_)))
 ·refine ⟨?_,X3⟩
  unfold joinR
  rw [if_pos (by omega)]
 ·refine iRet (bD h3.sl (bC k ga gb) (by omega)) fun w4 x4=>⟨?_,X3.trans x4⟩
  unfold joinR
  rw [if_neg (by omega)]
theorem i2:∀ (m:Nat) {t:Tm} {G:List Str} {v0 v1:Value} {w:World},t.raw.length ≤ m → (∀ n ∈ t.raw,okR n = true) → t.raw.length ≤ 1000 → (∀ x ∈ G,PE x) → G.length ≤ 100000 → SlT w v0 G → RdT w v1 t.raw → Ret Tryz.prog rM #[v0,v1] w (sv (tyR t G))
 | 0,t,_,_,_,_,hm,_,_,_,_,_,_=>by have:=t.raw_pos;omega
 | m + 1,t,G,v0,v1,w,hm,hok,hl,hG,hGl,hs,ht=>by
  have und:∀ {k:Tm} {s:Str} {r:Value} {w':World},k ∈ t.kids → PE s → Ext w w' → RdT w' r k.raw → Ret Tryz.prog zG #[v0,sv s,r] w' (sv (if 12 ≤ G.length then [] else tyR k (G ++ [s]))):=fun {k s r w'} hk hps x hr=>by
   have hkl:=Tm.kid_lt hk
   apply LF;unfold zR
   refine aM (Sl.ext hs x) (iLe (iCndP (fun h=>?_) (fun h=>?_)))
   ·rw [if_pos (by omega)];exact ⟨rfl,Ext.refl _⟩
   ·rw [if_neg (by omega)]
    refine iBs1 rfl rfl fun c w1 _ x1 hB=>?_
    refine iCall ((fU (B:=[s]) (Sl.ext hs (x.trans x1)) (Sl.ofBlk (n:=1) hB rfl (by decide)) (by omega) (by simp)).mono ?_)
    rintro u w2 ⟨x2,hu⟩
    refine iRet (i2 m (by omega) (eL hok hk) (by omega) (rI hG hps) (by rw [List.length_append,List.length_singleton];omega) hu.sl (SlK.ext hr (x1.trans x2))) fun w3 x3=>⟨rfl,(x1.trans x2).trans x3⟩
  have prt:∀ {j:Nat} {w':World} {K:Value → World → Prop},j < t.kids.length → Ext w w' → (∀ r w'',Ext w' w'' → RdT w'' r (gt t.kids j).raw → K r w'') → callV Tryz.prog (.func (.func rA) #[] #[]) [v1,.int .i64 (j:Int)] w' K:=fun {j w' K} hj x hK=>by
   refine iCall ((qA hok (by omega) hj (SlK.ext ht x)).mono ?_)
   rintro r w'' ⟨x'',hr⟩
   exact hK r w'' x'' (hr w'' (SlK.ext ht (x.trans x'')))
  have mem:∀ {j:Nat},j < t.kids.length → gt t.kids j ∈ t.kids:=fun hj=>by rw [gt_eq hj];exact List.getElem_mem _
  have sub:∀ {j:Nat} {w':World} {r:Value},j < t.kids.length → Ext w w' → RdT w' r (gt t.kids j).raw → Ret Tryz.prog rM #[v0,r] w' (sv (tyR (gt t.kids j) G)):=fun hj x hr=>
   i2 m (by have:=Tm.kid_lt (mem hj);omega) (eL hok (mem hj)) (by have:=Tm.kid_lt (mem hj);omega) hG hGl (Sl.ext hs x) hr
  have spe:∀ {j:Nat},j < t.kids.length → PE (tyR (gt t.kids j) G):=fun hj=>i5 _ _ (eL hok (mem hj)) hG
  have hty:=fun h=>vH hok h
  apply MM;unfold CW
  refine iLdK (j:=0) (cs:=(rawN t.hd).cs.toArray) ht rfl t.raw_pos rfl (fun f hf=>by rw [gI t.raw_pos f hf,t.raw0];simp) ?_
  refine iNew3 fun q w1 hq x1 hB1=>?_
  refine iStAB hB1 rfl rfl (fun v hv=>by
   simp only [rawN,RT.cs,List.mem_cons,List.not_mem_nil,or_false] at hv
   rcases hv with rfl | rfl | rfl <;> rfl) fun w2 hu2 hB2=>?_
  have hB2:Blk aA w2 q [.int .i64 (t.hd.kind:Int),.int .i64 (t.hd.num:Int),sv t.hd.typ]:=hB2
  have x2:Ext w w2:=x1.upd hu2 (by omega)
  have f0:∀ {w':World} {K:Value → Prop},Ext w2 w' → K (.int .i64 (t.hd.kind:Int)) → xFa 0 (.pointer (some ⟨q,0,none⟩)) fun p=>xLd w' p K:=fun x h=>iFa (iLdB (hB2.ext x) (i:=0) (v:=.int .i64 (t.hd.kind:Int)) rfl h)
  have f1:∀ {w':World} {K:Value → Prop},Ext w2 w' → K (.int .i64 (t.hd.num:Int)) → xFa 1 (.pointer (some ⟨q,0,none⟩)) fun p=>xLd w' p K:=fun x h=>iFa (iLdB (hB2.ext x) (i:=1) (v:=.int .i64 (t.hd.num:Int)) rfl h)
  have f2:∀ {w':World} {K:Value → Prop},Ext w2 w' → K (sv t.hd.typ) → xFa 2 (.pointer (some ⟨q,0,none⟩)) fun p=>xLd w' p K:=fun x h=>iFa (iLdB (hB2.ext x) (i:=2) (v:=sv t.hd.typ) rfl h)
  refine f0 (Ext.refl _) (iEq (iCndP (fun h0=>?_) (fun h0=>?_)))
  ·obtain ⟨n,rfl⟩:∃ n,t = .var n:=by
    cases t with
    | var n=>exact ⟨n,rfl⟩
    | _=>cases h0
   refine f1 (Ext.refl _) (aM (Sl.ext hs x2) (iLe (iCndP (fun h=>?_) (fun h=>?_))))
   ·have h:(G.length:Int) ≤ ((n:Nat):Int):=h
    refine ⟨?_,x2⟩
    rw [tyR,if_pos (by omega)]
   ·have h:¬ (G.length:Int) ≤ ((n:Nat):Int):=h
    refine f1 (Ext.refl _) (iIaG (j:=n) (Sl.ext hs x2) rfl (by omega) ⟨?_,x2⟩)
    rw [tyR,if_neg (by omega)]
  refine f0 (Ext.refl _) (iEq (iCndP (fun h1=>?_) (fun h1=>?_)))
  ·obtain ⟨ty,b,rfl⟩:∃ ty b,t = .lam ty b:=by
    cases t with
    | lam ty b=>exact ⟨ty,b,rfl⟩
    | _=>cases h1
   have hty:plT ty = true:=hty (.inl rfl)
   refine f2 (Ext.refl _) ?_
   refine iSlTF (i:=1) (SlK.ext ht x2) (by have:=(Tm.lam ty b).raw_pos;omega) fun r hr=>?_
   rw [(Tm.lam ty b).raw_kids] at hr
   have hr:RdT w2 r b.raw:=by
    have e:[b].flatMap Tm.raw = b.raw:=by simp
    have hr:RdT w2 r ([b].flatMap Tm.raw):=hr
    rw [e] at hr;exact hr
   refine iRetQ (fun w' x'=>und (k:=b) (s:=ty) (List.mem_cons_self ..) (.inr hty) (x2.trans x') (SlK.ext hr x')) ?_
   intro w3 x3
   refine iEqT (b:=[]) (iCndP (fun h=>?_) (fun h=>?_))
   ·refine ⟨?_,x2.trans x3⟩
    rw [tyR,if_pos h]
   ·refine f2 x3 ?_
    have hb:=i5 b (G ++ [ty]) (eL hok (List.mem_cons_self ..)) (rI hG (.inr hty))
    refine iRet (jS (k:=4) (.inr (.inr rfl)) hty (by
     by_cases h12:12 ≤ G.length
     ·rw [if_pos h12] at h;exact absurd rfl h
     ·rw [if_neg h12] at h ⊢;exact hb.pl h) w3) fun w4 x4=>⟨?_,(x2.trans x3).trans x4⟩
    rw [tyR,if_neg h]
  have hk0:0 < t.kids.length:=by
   cases t with
   | var _=>exact absurd rfl h0
   | _=>exact Nat.zero_lt_succ _
  refine prt (j:=0) hk0 x2 fun r0 w5 x5 hr0=>?_
  have X5:=x2.trans x5
  refine iRet (sub hk0 X5 hr0) fun w6 x6=>?_
  have X6:=X5.trans x6
  have x26:=x5.trans x6
  have hpe0:=spe hk0
  refine iEqT (b:=[]) (iCndP (fun hz=>?_) (fun hnz=>?_))
  ·refine ⟨?_,X6⟩
   cases t with
   | var _=>exact absurd rfl h0
   | lam _ _=>exact absurd rfl h1
   | app f x=>have hz:tyR f G = []:=hz;rw [tyR,if_pos hz]
   | pair a b=>have hz:tyR a G = []:=hz;rw [tyR,if_pos hz]
   | fst a=>have hz:tyR a G = []:=hz;rw [tyR,if_pos hz]
   | snd a=>have hz:tyR a G = []:=hz;rw [tyR,if_pos hz]
   | left _ a=>have hz:tyR a G = []:=hz;rw [tyR,if_pos hz]
   | right _ a=>have hz:tyR a G = []:=hz;rw [tyR,if_pos hz]
   | abort _ a=>have hz:tyR a G = []:=hz;rw [tyR,if_pos hz]
   | case a _ _=>have hz:tyR a G = []:=hz;rw [tyR,if_pos hz]
  have hp0:=hpe0.pl hnz
  cases t with
  | var _=>exact absurd rfl h0
  | lam _ _=>exact absurd rfl h1
  | app f x=>
   have hp0:plT (tyR f G) = true:=hp0
   have hnz:¬ tyR f G = []:=hnz
   have f0:∀ {w':World} {K:Value → Prop},Ext w2 w' → K (.int .i64 2) → xFa 0 (.pointer (some ⟨q,0,none⟩)) fun p=>xLd w' p K:=f0
   refine f0 x26 ?_
   repeat first | (refine iEq ?_) | (refine iCndT (by decide) ?_) | (refine iCndF (by decide) ?_) | (refine iJn ?_) | (intro _;try simp only [gx])
   refine prt (j:=1) (by simp [Tm.kids]) X6 fun r1 w9 x9 hr1=>?_
   refine iRet (sub (j:=1) (by simp [Tm.kids]) (X6.trans x9) hr1) fun w10 x10=>?_
   have X10:=(X6.trans x9).trans x10
   refine iEqT (b:=[]) (iCndP (fun hz=>?_) (fun hnz1=>?_))
   ·have hz:tyR x G = []:=hz
    refine ⟨?_,X10⟩
    rw [tyR,if_neg hnz,if_pos hz]
   have hnz1:¬ tyR x G = []:=hnz1
   refine f0 ((x26.trans x9).trans x10) ?_
   repeat first | (refine iEq ?_) | (refine iCndT (by decide) ?_) | (refine iCndF (by decide) ?_)
   refine iRet (eZ hp0 (k:=4) (.inr (.inr rfl)) w10) fun w12 x12=>?_
   unfold parV
   cases hpk:parK (tyR f G) 4 with
   | none=>
    refine iE30 (iE31 (iE32 (iJn (iNot (iCndT rfl ?_)))))
    intro _
    refine iCndT rfl ⟨?_,X10.trans x12⟩
    rw [tyR,if_neg hnz,if_neg hnz1,hpk]
   | some p=>
    refine iE30 (iE31 (iE32 (iJn (iNot (iCndF rfl (iNeT ?_))))))
    intro _
    simp only [gx]
    refine iCndP (fun hne=>⟨?_,X10.trans x12⟩) (fun heq=>⟨?_,X10.trans x12⟩)
    ·have hne:¬ p.1 = tyR x G:=hne
     rw [tyR,if_neg hnz,if_neg hnz1,hpk]
     show _ = sv (if p.1 = tyR x G then p.2 else [])
     rw [if_neg hne]
    ·have heq:p.1 = tyR x G:=Classical.byContradiction heq
     rw [tyR,if_neg hnz,if_neg hnz1,hpk]
     show _ = sv (if p.1 = tyR x G then p.2 else [])
     rw [if_pos heq]
  | pair a b=>
   have hp0:plT (tyR a G) = true:=hp0
   have hnz:¬ tyR a G = []:=hnz
   have f0:∀ {w':World} {K:Value → Prop},Ext w2 w' → K (.int .i64 3) → xFa 0 (.pointer (some ⟨q,0,none⟩)) fun p=>xLd w' p K:=f0
   refine f0 x26 ?_
   repeat first | (refine iEq ?_) | (refine iCndT (by decide) ?_) | (refine iCndF (by decide) ?_) | (refine iJn ?_) | (intro _;try simp only [gx])
   refine prt (j:=1) (by simp [Tm.kids]) X6 fun r1 w9 x9 hr1=>?_
   refine iRet (sub (j:=1) (by simp [Tm.kids]) (X6.trans x9) hr1) fun w10 x10=>?_
   have X10:=(X6.trans x9).trans x10
   have hpe1:PE (tyR b G):=spe (j:=1) (by simp [Tm.kids])
   refine iEqT (b:=[]) (iCndP (fun hz=>?_) (fun hnz1=>?_))
   ·have hz:tyR b G = []:=hz
    refine ⟨?_,X10⟩
    rw [tyR,if_neg hnz,if_pos hz]
   have hnz1:¬ tyR b G = []:=hnz1
   refine f0 ((x26.trans x9).trans x10) ?_
   repeat first | (refine iEq ?_) | (refine iCndT (by decide) ?_) | (refine iCndF (by decide) ?_)
   refine iRet (jS (k:=2) (.inl rfl) hp0 (hpe1.pl hnz1) w10) fun w11 x11=>⟨?_,X10.trans x11⟩
   rw [tyR,if_neg hnz,if_neg hnz1]
  | fst a=>
   have hp0:plT (tyR a G) = true:=hp0
   have hnz:¬ tyR a G = []:=hnz
   have f0:∀ {w':World} {K:Value → Prop},Ext w2 w' → K (.int .i64 4) → xFa 0 (.pointer (some ⟨q,0,none⟩)) fun p=>xLd w' p K:=f0
   refine f0 x26 ?_
   repeat first | (refine iEq ?_) | (refine iCndT (by decide) ?_) | (refine iCndF (by decide) ?_) | (refine iJn ?_) | (intro _;try simp only [gx])
   refine iRet (eZ hp0 (k:=2) (.inl rfl) w6) fun w12 x12=>?_
   unfold parV
   cases hpk:parK (tyR a G) 2 with
   | none=>
    refine iE30 (iE31 (iE32 (iNot (iCndT rfl ⟨?_,X6.trans x12⟩))))
    rw [tyR,if_neg hnz,hpk]
   | some p=>
    refine iE30 (iE31 (iE32 (iNot (iCndF rfl (f0 (x26.trans x12) (iEq (iCndT (by decide) ⟨?_,X6.trans x12⟩)))))))
    rw [tyR,if_neg hnz,hpk]
  | snd a=>
   have hp0:plT (tyR a G) = true:=hp0
   have hnz:¬ tyR a G = []:=hnz
   have f0:∀ {w':World} {K:Value → Prop},Ext w2 w' → K (.int .i64 5) → xFa 0 (.pointer (some ⟨q,0,none⟩)) fun p=>xLd w' p K:=f0
   refine f0 x26 ?_
   repeat first | (refine iEq ?_) | (refine iCndT (by decide) ?_) | (refine iCndF (by decide) ?_) | (refine iJn ?_) | (intro _;try simp only [gx])
   refine iRet (eZ hp0 (k:=2) (.inl rfl) w6) fun w12 x12=>?_
   unfold parV
   cases hpk:parK (tyR a G) 2 with
   | none=>
    refine iE30 (iE31 (iE32 (iNot (iCndT rfl ⟨?_,X6.trans x12⟩))))
    rw [tyR,if_neg hnz,hpk]
   | some p=>
    refine iE30 (iE31 (iE32 (iNot (iCndF rfl (f0 (x26.trans x12) (iEq (iCndF (by decide) ⟨?_,X6.trans x12⟩)))))))
    rw [tyR,if_neg hnz,hpk]
  | left ty a=>
   have hp0:plT (tyR a G) = true:=hp0
   have hnz:¬ tyR a G = []:=hnz
   have f0:∀ {w':World} {K:Value → Prop},Ext w2 w' → K (.int .i64 6) → xFa 0 (.pointer (some ⟨q,0,none⟩)) fun p=>xLd w' p K:=f0
   refine f0 x26 ?_
   repeat first | (refine iEq ?_) | (refine iCndT (by decide) ?_) | (refine iCndF (by decide) ?_) | (refine iJn ?_) | (intro _;try simp only [gx])
   refine f2 x26 (iRet (jS (k:=3) (.inr (.inl rfl)) hp0 (hty (.inr (.inl rfl))) w6) fun w11 x11=>⟨?_,X6.trans x11⟩)
   rw [tyR,if_neg hnz];rfl
  | right ty a=>
   have hp0:plT (tyR a G) = true:=hp0
   have hnz:¬ tyR a G = []:=hnz
   have f0:∀ {w':World} {K:Value → Prop},Ext w2 w' → K (.int .i64 7) → xFa 0 (.pointer (some ⟨q,0,none⟩)) fun p=>xLd w' p K:=f0
   refine f0 x26 ?_
   repeat first | (refine iEq ?_) | (refine iCndT (by decide) ?_) | (refine iCndF (by decide) ?_) | (refine iJn ?_) | (intro _;try simp only [gx])
   refine f2 x26 (iRet (jS (k:=3) (.inr (.inl rfl)) (hty (.inr (.inr (.inl rfl)))) hp0 w6) fun w11 x11=>⟨?_,X6.trans x11⟩)
   rw [tyR,if_neg hnz];rfl
  | abort ty a=>
   have hnz:¬ tyR a G = []:=hnz
   have f0:∀ {w':World} {K:Value → Prop},Ext w2 w' → K (.int .i64 9) → xFa 0 (.pointer (some ⟨q,0,none⟩)) fun p=>xLd w' p K:=f0
   refine f0 x26 ?_
   repeat first | (refine iEq ?_) | (refine iCndT (by decide) ?_) | (refine iCndF (by decide) ?_) | (refine iJn ?_) | (intro _;try simp only [gx])
   refine iNeT (b:=[70]) (iCndP (fun hne=>⟨?_,X6⟩) (fun heq=>?_))
   ·have hne:¬ tyR a G = [70]:=hne
    rw [tyR,if_neg hnz,if_neg hne]
   ·have heq:tyR a G = [70]:=Classical.byContradiction heq
    refine f2 x26 ⟨?_,X6⟩
    rw [tyR,if_neg hnz,if_pos heq];rfl
  | case a b c=>
   have hp0:plT (tyR a G) = true:=hp0
   have hnz:¬ tyR a G = []:=hnz
   have f0:∀ {w':World} {K:Value → Prop},Ext w2 w' → K (.int .i64 8) → xFa 0 (.pointer (some ⟨q,0,none⟩)) fun p=>xLd w' p K:=f0
   refine f0 x26 ?_
   repeat first | (refine iEq ?_) | (refine iCndT (by decide) ?_) | (refine iCndF (by decide) ?_) | (refine iJn ?_) | (intro _;try simp only [gx])
   refine iRet (eZ hp0 (k:=3) (.inr (.inl rfl)) w6) fun w12 x12=>?_
   have X12:=X6.trans x12
   unfold parV
   cases hpk:parK (tyR a G) 3 with
   | none=>
    refine iE30 (iE31 (iE32 (iNot (iCndT rfl ⟨?_,X12⟩))))
    rw [tyR,if_neg hnz,hpk]
   | some p=>
    have hpl:=bV hp0 hpk
    refine iE30 (iE31 (iE32 (iNot (iCndF rfl ?_))))
    refine prt (j:=1) (by simp [Tm.kids]) X12 fun r1 w13 x13 hr1=>?_
    have X13:=X12.trans x13
    refine iRet (und (k:=b) (s:=p.1) (mem (j:=1) (by simp [Tm.kids])) (.inr hpl.1) X13 hr1) fun w14 x14=>?_
    have X14:=X13.trans x14
    refine prt (j:=2) (by simp [Tm.kids]) X14 fun r2 w15 x15 hr2=>?_
    have X15:=X14.trans x15
    refine iRet (und (k:=c) (s:=p.2) (mem (j:=2) (by simp [Tm.kids])) (.inr hpl.2) X15 hr2) fun w16 x16=>?_
    have X16:=X15.trans x16
    refine iNeT (iCndP (fun hne=>⟨?_,X16⟩) (fun heq=>⟨?_,X16⟩))
    ·rw [tyR,if_neg hnz,hpk]
     show _ = sv (if _ then _ else [])
     rw [if_neg hne]
    ·rw [tyR,if_neg hnz,hpk]
     show _ = sv (if _ then _ else [])
     rw [if_pos (Classical.byContradiction heq)]
end Go.Proofs.YtkjoppimpmojfaaGreat

namespace Go.Vc
def gz (s:Str):Nat:=if plT s = true then (fT s).size else 1
theorem gz_at (s:Str):1 ≤ gz s ∧ gz s ≤ 40:=by
 unfold gz
 split
 ·rename_i h
  have h1:=(bL (dY h).2.2.2.2).1
  have h1:(fT s).size ≤ 40:=h1
  have:=(fT s).size_pos
  omega
 ·omega
theorem V2 {s:Str} {g:Fm} (h:plT s = true) (hk:g ∈ (fT s).kids):gz g.body = g.size:=by
 obtain ⟨-,h1,-,-,-⟩:=dY h
 unfold gz
 rw [if_pos (MZ h hk),gL (cE h1 g hk)]
def bz (d:Int) (s:Str):Nat:=2 * (gz s * 8 ^ d.toNat)
theorem bz_le {d:Int} {s:Str} (hd:d ≤ 4):bz d s ≤ 400000:=by
 have h1:8 ^ d.toNat ≤ 8 ^ 4:=Nat.pow_le_pow_right (by decide) (by omega)
 have h2:=Nat.mul_le_mul (gz_at s).2 h1
 unfold bz
 have:(8:Nat) ^ 4 = 4096:=by decide
 omega
theorem SS (d:Int) (s:Str):2 ≤ bz d s:=by
 have h1:1 ≤ 8 ^ d.toNat:=Nat.one_le_pow _ _ (by decide)
 have h2:=Nat.mul_le_mul (gz_at s).1 h1
 unfold bz
 omega
theorem WD {d:Int} {s s1 s2:Str} (h:gz s = 1 + gz s1 + gz s2):1 + (bz (d - 1) s1 + bz (d - 1) s2) ≤ bz d s:=by
 have h1:(8:Nat) ^ (d - 1).toNat ≤ 8 ^ d.toNat:=Nat.pow_le_pow_right (by decide) (by omega)
 have h0:1 ≤ (8:Nat) ^ d.toNat:=Nat.one_le_pow _ _ (by decide)
 have a1:=Nat.mul_le_mul_left (gz s1) h1
 have a2:=Nat.mul_le_mul_left (gz s2) h1
 unfold bz
 rw [h,Nat.add_mul,Nat.add_mul,Nat.one_mul]
 omega
theorem PZ {d:Int} {s s1:Str} (h:gz s1 + 1 ≤ gz s):1 + bz (d - 1) s1 ≤ bz d s:=by
 have h1:(8:Nat) ^ (d - 1).toNat ≤ 8 ^ d.toNat:=Nat.pow_le_pow_right (by decide) (by omega)
 have h0:1 ≤ (8:Nat) ^ d.toNat:=Nat.one_le_pow _ _ (by decide)
 have a1:=Nat.mul_le_mul_left (gz s1) h1
 have a2:=Nat.mul_le_mul_right ((8:Nat) ^ d.toNat) h
 rw [Nat.add_mul,Nat.one_mul] at a2
 unfold bz
 omega
theorem UB {d:Int} {s o:Str} (hd:0 < d) (ho:gz o ≤ 3):2 + (bz (d - 1) o + bz (d - 1) s + bz (d - 1) s) ≤ bz d s ∧ bz 0 o ≤ bz (d - 1) o:=by
 have e:d.toNat = (d - 1).toNat + 1:=by omega
 have h0:1 ≤ (8:Nat) ^ (d - 1).toNat:=Nat.one_le_pow _ _ (by decide)
 have a1:=Nat.mul_le_mul_right ((8:Nat) ^ (d - 1).toNat) ho
 have a2:=Nat.mul_le_mul_right ((8:Nat) ^ (d - 1).toNat) (gz_at s).1
 have a3:=Nat.mul_le_mul_left (gz o) h0
 have e2:gz s * 8 ^ d.toNat = gz s * 8 ^ (d - 1).toNat * 8:=by rw [e,Nat.pow_succ,Nat.mul_assoc]
 unfold bz
 rw [e2]
 constructor
 ·omega
 ·show 2 * (gz o * 1) ≤ _
  omega
theorem iBs8S {w:World} {e:TypeId} {a b c d f g h i:Str} {K:Value → World → Prop} (hK:∀ bb w',Ext w w' → Blk e w' bb (strs [a,b,c,d,f,g,h,i]) → K (.slice (some ⟨bb,0,none⟩) 8 8) w'):
  xBs e (Value.cells (.string ⟨#[]⟩)) 1 8 [(0,sv a),(1,sv b),(2,sv c),(3,sv d),(4,sv f),(5,sv g),(6,sv h),(7,sv i)] w K:=by
 refine ⟨#[sv a,sv b,sv c,sv d,sv f,sv g,sv h,sv i],?_,hK _ _ (Ext.alloc w _) (Blk.new w #[sv a,sv b,sv c,sv d,sv f,sv g,sv h,sv i] e)⟩
 simp [Instr.fill,sv,Value.cells,show Array.range 8 = #[0,1,2,3,4,5,6,7] from rfl]
theorem iBs6I {w:World} {e:TypeId} {a b c d f g:Int} {K:Value → World → Prop} (hK:∀ bb w',bb = w.heap.size → Ext w w' → Blk e w' bb (ints [a,b,c,d,f,g]) → K (.slice (some ⟨bb,0,none⟩) 6 6) w'):
  xBs e (Value.cells (.int .i64 0)) 1 6 [(0,.int .i64 a),(1,.int .i64 b),(2,.int .i64 c),(3,.int .i64 d),(4,.int .i64 f),(5,.int .i64 g)] w K:=by
 refine ⟨#[.int .i64 a,.int .i64 b,.int .i64 c,.int .i64 d,.int .i64 f,.int .i64 g],?_,hK _ _ rfl (Ext.alloc w _) (Blk.new w #[.int .i64 a,.int .i64 b,.int .i64 c,.int .i64 d,.int .i64 f,.int .i64 g] e)⟩
 simp [Instr.fill,Value.cells,show Array.range 6 = #[0,1,2,3,4,5] from rfl]
theorem UQ {K:Value → Prop} (h:K (.agg #[.int .i64 0,.int .i64 0,sv []])):aK #[.int .i64 0,.int .i64 0,.string ⟨#[]⟩] #[(0,1),(1,1),(2,1)] [] K:=
 j4 (cs:=#[.int .i64 0,.int .i64 0,sv []]) (by simp [Instr.fill]) h
end Go.Vc
namespace Go.Proofs.YtkjoppimpmojfaaGreat
open Go.Vc
theorem AL (n:Int) (w:World):Cal Tryz.prog tE #[.int .i64 n] w fun r w'=>Ext w w' ∧ OwT aA w.heap.size w' r [⟨0,n,[]⟩]:=by
 apply O2;unfold EP
 refine PQ (iBsT fun q w1 hq x1 hB=>⟨x1,vC (n:=⟨0,n,[]⟩) hB (by omega)⟩)
theorem IL {v:Value} {L:List Str} {t:Str} {w:World} (hs:SlT w v L):Cal Tryz.prog xY #[v,sv t] w fun r w'=>Ext w w' ∧ ∃ k:Nat,r = .int .i64 (k:Int):=by
 apply L7;unfold yW
 have hl:=Sl.len hs
 rw [aI] at hl
 refine iLp (fun i:Nat=>[.int .i64 (i:Int)]) (fun i w'=>i ≤ L.length ∧ Ext w w') (fun i=>L.length - i) 0 rfl ⟨Nat.zero_le _,Ext.refl _⟩ ?_
 rintro i w2 Kn ⟨hi,x2⟩ hKn
 intro _
 simp only [gx]
 refine aM (Sl.ext hs x2) (iLt (iCndP (fun hlt=>?_) (fun hlt=>⟨x2,0,rfl⟩)))
 refine iIaG (j:=i) (Sl.ext hs x2) rfl (by omega) (iEqT (iCndP (fun _=>⟨x2,i,rfl⟩) (fun _=>iAdd (by omega) ?_)))
 exact hKn (i + 1) _ ⟨by omega,x2⟩ (by omega)
theorem pP {kind:Int} {text:Str} {v2:Value} {vs:List Value} {P:List (List RT)} {w:World} (hs:Sl w v2 vs) (hl:vs.length = P.length) (hp:∀ j,j < P.length → ∃ u,vs[j]? = some u ∧ RdT w u (gt P j)) (hP:P.length ≤ 3) (hP1:∀ j,j < P.length → (gt P j).length ≤ 1000000):
  Cal Tryz.prog j9 #[.int .i64 kind,sv text,v2] w fun r w'=>Ext w w' ∧ OwT aA w.heap.size w' r (⟨kind,0,text⟩ :: P.flatten):=by
 apply MK;unfold BG
 refine QG rfl rfl (iBsT fun q w1 hq x1 hB=>?_)
 have ho:OwT aA w.heap.size w1 (.slice (some ⟨q,0,none⟩) 1 1) [⟨kind,0,text⟩]:=vC (n:=⟨kind,0,text⟩) hB (by omega)
 refine iLp (fun s:Value × Nat=>[s.1,.int .i64 (s.2:Int)]) (fun s w'=>s.2 ≤ P.length ∧ Ext w w' ∧ OwT aA w.heap.size w' s.1 (⟨kind,0,text⟩ :: (P.take s.2).flatten) ∧ (P.take s.2).flatten.length ≤ s.2 * 1000000) (fun s=>P.length - s.2) (.slice (some ⟨q,0,none⟩) 1 1,0) rfl ⟨Nat.zero_le _,x1,ho,by simp⟩ ?_
 rintro ⟨z,i⟩ w3 Kn ⟨hi,x3,hz,hzl⟩ hKn
 have hi:i ≤ P.length:=hi
 have hz:OwT aA w.heap.size w3 z (⟨kind,0,text⟩ :: (P.take i).flatten):=hz
 have hzl:(P.take i).flatten.length ≤ i * 1000000:=hzl
 intro _
 simp only [gx]
 refine iLenS (Sl.ext hs x3) (iLt (iCndP (fun hlt=>?_) (fun hlt=>?_)))
 ·have hil:i < P.length:=by omega
  obtain ⟨u,h1,h2⟩:=hp i hil
  have hb:=hP1 i hil
  refine iIa (j:=(i:Int)) (Sl.ext hs x3) (by omega) (by omega) fun p hcell=>?_
  rw [Int.toNat_natCast,h1] at hcell
  refine iLd hcell ?_
  refine iAppT gZ gW rfl hz (SlK.ext h2 x3) (by rw [List.length_cons];omega) (by rw [List.length_cons];omega) x3.size fun v' w4 ho4 hg4=>?_
  refine iAdd (by omega) ?_
  have e:(P.take (i + 1)).flatten = (P.take i).flatten ++ gt P i:=by rw [List.take_succ_eq_append_getElem hil,List.flatten_append,gt_eq hil];simp
  refine hKn (v',i + 1) _ ⟨hil,x3.grown hg4 fun c hc=>(OwK.blk hz c hc).1,?_,?_⟩ (by show P.length - (i + 1) < P.length - i;omega)
  ·show OwT _ _ _ v' (_ :: (P.take (i + 1)).flatten)
   rw [e];exact ho4
  ·show (P.take (i + 1)).flatten.length ≤ (i + 1) * 1000000
   rw [e,List.length_append];omega
 ·have:i = P.length:=by omega
  rw [this,List.take_length] at hz
  exact ⟨x3,hz⟩
theorem D8 {w0:World} {vc:Value} {bs:List Nat} (hc:SlB w0 vc bs) {b:Nat}:∀ (m:Nat) {d:Int} {G:List Str} {goal:Str} {v1:Value} {w:World},d ≤ 4 → m ≤ 500 → (m:Int) - 1000 ≤ d → d.toNat * 41 + gz goal ≤ m → Vc.Src eS w0 vc b w → TxW 0 w v1 G → G.length ≤ 12 →
  Drw Tryz.prog vY #[.pointer (some ⟨b,0,none⟩),v1,sv goal,.int .i64 d] eS w0 vc b w fun r w'=>∃ L,OwT aA w.heap.size w' r L ∧ 1 ≤ L.length ∧ L.length ≤ bz d goal
 | 0,_,_,goal,_,_,_,_,_,hm,_,_,_=>by have:=gz_at goal;omega
 | m + 1,d,G,goal,v1,w,hd4,hm5,hdm,hm,hS,hG,hGl=>by
  have tG:∀ {w':World},Ch (fun c=>c = b) w w' → TxW 0 w' v1 G:=fun h=>Ow.dch hG (DCh.src hS h) (by decide) (by decide)
  have hgz:=gz_at goal
  have rc:∀ {d':Int} {g':Str} {G':List Str} {v':Value} {w':World} {K:Value → World → Prop},d' ≤ 4 → (m:Int) - 1000 ≤ d' → d'.toNat * 41 + gz g' ≤ m → Vc.Src eS w0 vc b w' → Ch (fun c=>c = b) w w' → TxW 0 w' v' G' → G'.length ≤ 12 → (∀ r w'' L,OwT aA 0 w'' r L → L.length ≤ bz d' g' → Vc.Src eS w0 vc b w'' → Ch (fun c=>c = b) w w'' → Ch (fun c=>c = b) w' w'' → K r w'') → callV Tryz.prog (.func (.func vY) #[] #[]) [.pointer (some ⟨b,0,none⟩),v',sv g',.int .i64 d'] w' K:=fun {d' g' G' v' w' K} k1 k2 k3 k4 k5 k6 k7 hK=>by
   refine iCall ((D8 hc m k1 (by omega) k2 k3 k4 k6 k7).mono ?_)
   rintro r w'' ⟨⟨L,h1,h2,h3⟩,h4,h5⟩
   exact hK r w'' L (OwK.mono h1 (Nat.zero_le _)) h3 h4 (aE k5 h5) h5
  have keep:∀ {w' w'':World} {r:Value} {L:List RT},OwT aA 0 w' r L → Vc.Src eS w0 vc b w' → Ch (fun c=>c = b) w' w'' → OwT aA 0 w'' r L:=fun h h1 h2=>OwK.src h h1 (by decide) h2
  have nx:∀ {k:Nat} {w':World} {K:Value → World → Prop},Vc.Src eS w0 vc b w' → Ch (fun c=>c = b) w w' → (∀ (q:Nat) w'',(0 < k → q < k) → Vc.Src eS w0 vc b w'' → Ch (fun c=>c = b) w w'' → Ch (fun c=>c = b) w' w'' → K (.int .i64 (q:Int)) w'') → callV Tryz.prog (.func (.func rH) #[] #[]) [.pointer (some ⟨b,0,none⟩),.int .i64 (k:Int)] w' K:=fun {k w' K} h1 h2 hK=>by
   refine iCall ((aG hc h1 k).mono ?_)
   rintro _ w'' ⟨⟨q,rfl,hq,_⟩,h3,h4⟩
   exact hK q w'' (fun h=>by have:=hq (by omega);omega) h3 (aE h2 h4) h4
  -- parts put together
  have j1:∀ {kind:Int} {text:Str} {w':World} {a:Value} {A:List RT} {K:Value → World → Prop},OwT aA 0 w' a A → A.length ≤ 1000000 → (∀ r w'',Ext w' w'' → OwT aA w'.heap.size w'' r (⟨kind,0,text⟩ :: A) → K r w'') → xBs aF (Value.cells (.slice none 0 0)) 1 1 [(0,a)] w' fun u w1=>callV Tryz.prog (.func (.func j9) #[] #[]) [.int .i64 kind,sv text,u] w1 K:=fun {kind text w' a A K} hA hAl hK=>by
   refine iBs1 rfl (OwK.cell hA) fun c w1 _ x1 hB=>?_
   refine iCall ((pP (P:=[A]) (vs:=[a]) (Sl.ofBlk (n:=1) hB rfl (by decide)) rfl (fun j hj=>?_) (by simp) (fun j hj=>?_)).mono ?_)
   ·have:j = 0:=by simpa using hj
    subst this
    exact ⟨a,rfl,(OwK.ext hA x1).sl⟩
   ·have:j = 0:=by simpa using hj
    subst this
    exact hAl
   ·rintro r w2 ⟨x2,h2⟩
    have e:[A].flatten = A:=by simp
    rw [e] at h2
    exact hK r w2 (x1.trans x2) (OwK.mono h2 x1.size)
  have j2:∀ {kind:Int} {text:Str} {w':World} {a a':Value} {A A':List RT} {K:Value → World → Prop},OwT aA 0 w' a A → A.length ≤ 1000000 → OwT aA 0 w' a' A' → A'.length ≤ 1000000 → (∀ r w'',Ext w' w'' → OwT aA w'.heap.size w'' r (⟨kind,0,text⟩ :: (A ++ A')) → K r w'') → xBs aF (Value.cells (.slice none 0 0)) 1 2 [(0,a),(1,a')] w' fun u w1=>callV Tryz.prog (.func (.func j9) #[] #[]) [.int .i64 kind,sv text,u] w1 K:=fun {kind text w' a a' A A' K} hA hAl hA' hAl' hK=>by
   refine iBs2 rfl (OwK.cell hA) (OwK.cell hA') fun c w1 _ x1 hB=>?_
   refine iCall ((pP (P:=[A,A']) (vs:=[a,a']) (Sl.ofBlk (n:=2) hB rfl (by decide)) rfl (fun j hj=>?_) (by simp) (fun j hj=>?_)).mono ?_)
   ·have hj:j < 2:=hj
    rcases (show j = 0 ∨ j = 1 by omega) with rfl | rfl
    ·exact ⟨a,rfl,(OwK.ext hA x1).sl⟩
    ·exact ⟨a',rfl,(OwK.ext hA' x1).sl⟩
   ·have hj:j < 2:=hj
    rcases (show j = 0 ∨ j = 1 by omega) with rfl | rfl
    ·exact hAl
    ·exact hAl'
   ·rintro r w2 ⟨x2,h2⟩
    have e:[A,A'].flatten = A ++ A':=by simp
    rw [e] at h2
    exact hK r w2 (x1.trans x2) (OwK.mono h2 x1.size)
  have j3:∀ {kind:Int} {text:Str} {w':World} {a a' a'':Value} {A A' A'':List RT} {K:Value → World → Prop},OwT aA 0 w' a A → A.length ≤ 1000000 → OwT aA 0 w' a' A' → A'.length ≤ 1000000 → OwT aA 0 w' a'' A'' → A''.length ≤ 1000000 → (∀ r w'',Ext w' w'' → OwT aA w'.heap.size w'' r (⟨kind,0,text⟩ :: (A ++ (A' ++ A''))) → K r w'') → xBs aF (Value.cells (.slice none 0 0)) 1 3 [(0,a),(1,a'),(2,a'')] w' fun u w1=>callV Tryz.prog (.func (.func j9) #[] #[]) [.int .i64 kind,sv text,u] w1 K:=fun {kind text w' a a' a'' A A' A'' K} hA hAl hA' hAl' hA'' hAl'' hK=>by
   refine iBs3 rfl (OwK.cell hA) (OwK.cell hA') (OwK.cell hA'') fun c w1 _ x1 hB=>?_
   refine iCall ((pP (P:=[A,A',A'']) (vs:=[a,a',a'']) (Sl.ofBlk (n:=3) hB rfl (by decide)) rfl (fun j hj=>?_) (by simp) (fun j hj=>?_)).mono ?_)
   ·have hj:j < 3:=hj
    rcases (show j = 0 ∨ j = 1 ∨ j = 2 by omega) with rfl | rfl | rfl
    ·exact ⟨a,rfl,(OwK.ext hA x1).sl⟩
    ·exact ⟨a',rfl,(OwK.ext hA' x1).sl⟩
    ·exact ⟨a'',rfl,(OwK.ext hA'' x1).sl⟩
   ·have hj:j < 3:=hj
    rcases (show j = 0 ∨ j = 1 ∨ j = 2 by omega) with rfl | rfl | rfl
    ·exact hAl
    ·exact hAl'
    ·exact hAl''
   ·rintro r w2 ⟨x2,h2⟩
    have e:[A,A',A''].flatten = A ++ (A' ++ A''):=by simp
    rw [e] at h2
    exact hK r w2 (x1.trans x2) (OwK.mono h2 x1.size)
  have wth:∀ {w':World} {t:Str} {K:Value → World → Prop},Ch (fun c=>c = b) w w' → (∀ u w'',Ext w' w'' → TxW 0 w'' u (G ++ [t]) → K u w'') → xBs aB (Value.cells (.string ⟨#[]⟩)) 1 1 [(0,sv t)] w' fun y w1=>callV Tryz.prog (.func (.func gO) #[] #[]) [v1,y] w1 K:=fun {w' t K} h hK=>by
   refine iBs1 rfl rfl fun c w1 _ x1 hB=>?_
   refine iCall ((fU (B:=[t]) ((tG h).ext x1).sl (Sl.ofBlk (n:=1) hB rfl (by decide)) (by omega) (by simp)).mono ?_)
   rintro u w'' ⟨x,hu⟩
   exact hK u w'' (x1.trans x) (hu.mono (Nat.zero_le _))
  have fin:∀ {w' w'':World} {r:Value} {L:List RT},Vc.Src eS w0 vc b w' → Ch (fun c=>c = b) w w' → Ext w' w'' → OwT aA w'.heap.size w'' r L → 1 ≤ L.length → L.length ≤ bz d goal → (∃ L,OwT aA w.heap.size w'' r L ∧ 1 ≤ L.length ∧ L.length ≤ bz d goal) ∧ Vc.Src eS w0 vc b w'' ∧ Ch (fun c=>c = b) w w'':=fun h1 h2 x h3 h4 h5=>⟨⟨_,OwK.mono h3 h2.size,h4,h5⟩,h1.later x,aL h2 x⟩
  have one:∀ {n:Int} {w':World},Vc.Src eS w0 vc b w' → Ch (fun c=>c = b) w w' → callV Tryz.prog (.func (.func tE) #[] #[]) [.int .i64 n] w' fun r w''=>(∃ L,OwT aA w.heap.size w'' r L ∧ 1 ≤ L.length ∧ L.length ≤ bz d goal) ∧ Vc.Src eS w0 vc b w'' ∧ Ch (fun c=>c = b) w w'':=fun {n w'} h1 h2=>by
   refine iCall ((AL n w').mono ?_)
   rintro r w'' ⟨x,hr⟩
   exact fin h1 h2 x hr (by simp) (by have:=SS d goal;simp;omega)
  have sl:∀ (x:RT) (A:List RT),(x :: A).length = A.length + 1:=fun _ _=>rfl
  have hw:Ch (fun c=>c = b) w w:=(Ext.refl w).ch
  apply PP;unfold FX
  refine iJnX (fun xs w'=>(∃ t:Bool,xs = [.bool t] ∧ (t = true → 0 < d)) ∧ Vc.Src eS w0 vc b w' ∧ Ch (fun c=>c = b) w w') (fun J hJ=>?_) ?_
  ·refine iLt (iCndP (fun h=>?_) (fun h=>hJ _ _ ⟨⟨false,rfl,fun e=>by cases e⟩,hS,hw⟩))
   refine nx (k:=4) hS hw fun q w3 _ hS3 hC3 _=>iEq (hJ _ _ ⟨⟨_,rfl,fun _=>h⟩,hS3,hC3⟩)
  rintro _ w2 ⟨⟨t,rfl,ht⟩,hS2,hC2⟩
  intro _
  simp only [gx]
  refine iJnX (fun xs w'=>xs = [] ∧ Vc.Src eS w0 vc b w' ∧ Ch (fun c=>c = b) w w') (fun J hJ=>?_) ?_
  ·refine iCnd (fun htt=>?_) (fun _=>hJ _ _ ⟨rfl,hS2,hC2⟩)
   have hd:=ht htt
   refine iBs3 rfl rfl rfl rfl fun c6 w6 _ x6 hB6=>?_
   have hS6:=hS2.later x6
   have hC6:=aL hC2 x6
   refine nx (k:=3) hS6 hC6 fun q w7 hq hS7 hC7 hc67=>?_
   have hq:=hq (by decide)
   have hs6:Ow 0 aB w6 (.slice (some ⟨c6,0,none⟩) 3 3) (strs [[112],[113],[112,62,112]]):=Ow.ofBlk (n:=3) hB6 (Nat.zero_le _) rfl (by decide)
   have hs7:=Ow.dch hs6 (DCh.src hS6 hc67) (by decide) (by decide)
   refine iIaG hs7.sl rfl (show q < 3 from hq) ?_
   have hgo:gz (gt ([[112],[113],[112,62,112]]:List Str) q) ≤ 3:=by
    rcases (show q = 0 ∨ q = 1 ∨ q = 2 by omega) with rfl | rfl | rfl <;> decide
   generalize gt ([[112],[113],[112,62,112]]:List Str) q = o at hgo ⊢
   obtain ⟨hb1,hb2⟩:=UB (s:=goal) hd hgo
   have hbl:=bz_le (s:=goal) hd4
   have hdt:d.toNat = (d - 1).toNat + 1:=by omega
   refine aM (tG hC7).sl (iLt (iCndP (fun h10=>?_) (fun _=>hJ _ _ ⟨rfl,hS7,hC7⟩)))
   refine nx (k:=3) hS7 hC7 fun q2 w8 _ hS8 hC8 _=>?_
   refine iEq (iCndP (fun _=>?_) (fun _=>?_))
   ·refine iSub (by omega) ?_
    refine rc (by omega) (by omega) (by omega) hS8 hC8 (tG hC8) hGl fun r1 w9 L1 a1 a2 hS9 hC9 _=>?_
    refine rc (d':=0) (by omega) (by omega) (by omega) hS9 hC9 (tG hC9) hGl fun r2 w10 L2 b1 b2 hS10 hC10 hc=>?_
    refine j2 (kind:=3) (text:=[]) (keep a1 hS9 hc) (by omega) b1 (by omega) fun r3 w12 x12 h12=>?_
    refine j1 (kind:=4) (text:=[]) (OwK.mono h12 (Nat.zero_le _)) (by rw [sl,List.length_append];omega) fun r4 w14 x14 h14=>?_
    exact fin (hS10.later x12) (aL hC10 x12) x14 h14 (by rw [sl];omega) (by simp only [sl,List.length_append];omega)
   refine iEq (iCndP (fun _=>?_) (fun _=>?_))
   ·refine wth hC8 fun u w16 x16 hu=>?_
    refine iSub (by omega) ?_
    refine rc (by omega) (by omega) (by omega) (hS8.later x16) (aL hC8 x16) hu (by rw [List.length_append,List.length_singleton];omega) fun r1 w17 L1 a1 a2 hS17 hC17 _=>?_
    refine j1 (kind:=1) (text:=o) a1 (by omega) fun r2 w19 x19 h19=>?_
    have hS19:=hS17.later x19
    have hC19:=aL hC17 x19
    refine iSub (by omega) ?_
    refine rc (by omega) (by omega) (by omega) hS19 hC19 (tG hC19) hGl fun r3 w20 L3 b1 b2 hS20 hC20 hc=>?_
    refine j2 (kind:=2) (text:=[]) (keep (OwK.mono h19 (Nat.zero_le _)) hS19 hc) (by rw [sl];omega) b1 (by omega) fun r4 w22 x22 h22=>?_
    exact fin hS20 hC20 x22 h22 (by rw [sl];omega) (by simp only [sl,List.length_append];omega)
   ·refine iSub (by omega) ?_
    refine rc (by omega) (by omega) (by omega) hS8 hC8 (tG hC8) hGl fun r1 w23 L1 a1 a2 hS23 hC23 _=>?_
    refine j1 (kind:=6) (text:=[113]) a1 (by omega) fun r2 w25 x25 h25=>?_
    have hS25:=hS23.later x25
    have hC25:=aL hC23 x25
    refine wth hC25 fun u w27 x27 hu=>?_
    have hS27:=hS25.later x27
    have hC27:=aL hC25 x27
    have h27:OwT aA 0 w27 r2 _:=OwK.ext (OwK.mono h25 (Nat.zero_le _)) x27
    refine iSub (by omega) ?_
    refine rc (by omega) (by omega) (by omega) hS27 hC27 hu (by rw [List.length_append,List.length_singleton];omega) fun r3 w28 L3 b1 b2 hS28 hC28 hc28=>?_
    have h28:=keep h27 hS27 hc28
    refine wth hC28 fun u' w30 x30 hu'=>?_
    have hS30:=hS28.later x30
    have hC30:=aL hC28 x30
    refine iSub (by omega) ?_
    refine rc (by omega) (by omega) (by omega) hS30 hC30 hu' (by rw [List.length_append,List.length_singleton];omega) fun r4 w31 L4 c1 c2 hS31 hC31 hc31=>?_
    refine j3 (kind:=8) (text:=[]) (keep (OwK.ext h28 x30) hS30 hc31) (by rw [sl];omega) (keep (OwK.ext b1 x30) hS30 hc31) (by omega) c1 (by omega) fun r5 w33 x33 h33=>?_
    exact fin hS31 hC31 x33 h33 (by rw [sl];omega) (by simp only [sl,List.length_append];omega)
  clear hS2 hC2 ht
  rintro _ w5 ⟨rfl,hS5,hC5⟩
  intro _
  refine aM (tG hC5).sl (iLt ?_)
  refine iJnX (fun xs w'=>(∃ q:Nat,xs = [.int .i64 (q:Int)] ∧ q ≤ 12) ∧ Vc.Src eS w0 vc b w' ∧ Ch (fun c=>c = b) w w') (fun J hJ=>?_) ?_
  ·refine iCndP (fun h=>?_) (fun h=>hJ _ _ ⟨⟨0,rfl,by decide⟩,hS5,hC5⟩)
   refine aM (tG hC5).sl ?_
   refine nx (k:=G.length) hS5 hC5 fun q w36 hq hS36 hC36 _=>?_
   exact hJ _ _ ⟨⟨q,rfl,by have:=hq (by omega);omega⟩,hS36,hC36⟩
  clear hS5 hC5
  rintro _ w35 ⟨⟨q,rfl,hq⟩,hS35,hC35⟩
  intro _
  simp only [gx]
  refine iLp (fun i:Nat=>[.int .i64 (i:Int)]) (fun i w'=>i ≤ G.length ∧ w' = w35) (fun i=>G.length - i) 0 rfl ⟨Nat.zero_le _,rfl⟩ ?_
  rintro i w38 Kn ⟨hi,rfl⟩ hKn
  intro _
  simp only [gx]
  refine aM (tG hC35).sl (iLt (iCndP (fun hlt=>?_) (fun _=>?_)))
  ·have hil:i < G.length:=by omega
   refine iAdd (by omega) (aM (tG hC35).sl (iRem (by omega) ?_))
   rw [show ((i:Int) + (q:Int)) % (G.length:Int) = (((i + q) % G.length:Nat):Int) by rw [Int.natCast_emod,Int.natCast_add]]
   have hk:(i + q) % G.length < G.length:=Nat.mod_lt _ (by omega)
   refine iIaG (tG hC35).sl rfl hk (iEqT (iCndP (fun _=>one hS35 hC35) (fun _=>iAdd (by omega) ?_)))
   exact hKn (i + 1) _ ⟨hil,rfl⟩ (by omega)
  refine iCall ((cO goal w38).mono ?_)
  rintro _ w40 ⟨x40,va,rfl,ha,-⟩
  have hS40:=hS35.later x40
  have hC40:=aL hC35 x40
  refine iE20 (iE21 ?_)
  cases hpl:plT goal with
  | false=>
   refine iJn (iNot (iCndT rfl ?_))
   intro _
   simp only [gx]
   exact iCndT rfl (one hS40 hC40)
  | true=>
   obtain ⟨-,gf,pf,bf,cf⟩:=dY hpl
   have ha:FmW w38.heap.size w40 va (fT goal):=ha cf
   have hsz:(fT goal).size ≤ 40:=(bL cf).1
   have hge:gz goal = (fT goal).size:=if_pos hpl
   have gk:∀ {g:Fm},g ∈ (fT goal).kids → gz g.body = g.size:=fun h=>V2 hpl h
   generalize hfe:fT goal = f at *
   have hfp:=f.size_pos
   refine iJn (iNot (iCndF rfl (iLenK ha.sl (iEq ?_))))
   intro _
   simp only [gx]
   refine iCndF (decide_eq_false (by omega)) ?_
   have lft:∀ {w':World} {g:Fm} {gs:List Fm} {K:Value → World → Prop},FmS w' va f → f.kids = g :: gs → (∀ w'',Ext w' w'' → K (sv g.body) w'') → callV Tryz.prog (.func (.func mN) #[] #[]) [va] w' fun x w1=>callV Tryz.prog (.func (.func d6) #[] #[]) [x] w1 K:=fun {w' g gs K} hf hk hK=>by
    refine iCall ((dK hf hk (by omega)).mono ?_)
    rintro x w1 ⟨x1,hx⟩
    have hm:g ∈ f.kids:=by rw [hk];exact List.mem_cons_self ..
    have:=lY g hm
    exact iRet (bD hx (cE gf g hm) (by omega)) fun w'' x''=>hK w'' (x1.trans x'')
   have rgt:∀ {w':World} {g g':Fm} {K:Value → World → Prop},FmS w' va f → f.kids = [g,g'] → (∀ w'',Ext w' w'' → K (sv g'.body) w'') → callV Tryz.prog (.func (.func lF) #[] #[]) [va] w' fun x w1=>callV Tryz.prog (.func (.func d6) #[] #[]) [x] w1 K:=fun {w' g g' K} hf hk hK=>by
    refine iCall ((c8 hf hk (by omega)).mono ?_)
    rintro x w1 ⟨x1,hx⟩
    have hm:g' ∈ f.kids:=by rw [hk];exact List.mem_cons_of_mem _ (List.mem_cons_self ..)
    have:=lY g' hm
    exact iRet (bD hx (cE gf g' hm) (by omega)) fun w'' x''=>hK w'' (x1.trans x'')
   have hbl:=bz_le (s:=goal) hd4
   refine iKind ha.sl (iEq (iCndP (fun hk2=>?_) (fun hk2=>?_)))
   ·obtain ⟨x,y,hxy⟩:=D4 (f:=f) (by omega)
    have hkk:f.kids = [x,y]:=by rw [hxy];rfl
    have sx:=gk (g:=x) (by rw [hkk];simp)
    have sy:=gk (g:=y) (by rw [hkk];simp)
    have sf:f.size = 1 + x.size + y.size:=by rw [hxy];rfl
    have hb:=WD (d:=d) (s:=goal) (s1:=x.body) (s2:=y.body) (by omega)
    refine lft ha.sl hkk fun w45 x45=>?_
    refine iSub (by omega) ?_
    refine rc (by omega) (by omega) (by omega) (hS40.later x45) (aL hC40 x45) (tG (aL hC40 x45)) hGl fun r1 w46 L1 a1 a2 hS46 hC46 hc46=>?_
    have ha46:FmS w46 va f:=(OwK.src (OwK.ext ha x45) (hS40.later x45) (by decide) hc46).sl
    refine rgt ha46 hkk fun w48 x48=>?_
    refine iSub (by omega) ?_
    have hS48:=hS46.later x48
    have hC48:=aL hC46 x48
    refine rc (by omega) (by omega) (by omega) hS48 hC48 (tG hC48) hGl fun r2 w49 L2 b1 b2 hS49 hC49 hc49=>?_
    refine j2 (kind:=3) (text:=[]) (keep (OwK.ext a1 x48) hS48 hc49) (by omega) b1 (by omega) fun r3 w51 x51 h51=>?_
    exact fin hS49 hC49 x51 h51 (by rw [sl];omega) (by rw [sl,List.length_append];omega)
   refine iEq (iCndP (fun hk3=>?_) (fun hk3=>?_))
   ·obtain ⟨x,y,hxy⟩:=DF (f:=f) (by omega)
    have hkk:f.kids = [x,y]:=by rw [hxy];rfl
    have sx:=gk (g:=x) (by rw [hkk];simp)
    have sy:=gk (g:=y) (by rw [hkk];simp)
    have sf:f.size = 1 + x.size + y.size:=by rw [hxy];rfl
    have px:=x.size_pos
    have py:=y.size_pos
    have hbx:=PZ (d:=d) (s:=goal) (s1:=x.body) (by omega)
    have hby:=PZ (d:=d) (s:=goal) (s1:=y.body) (by omega)
    refine nx (k:=2) hS40 hC40 fun q2 w52 _ hS52 hC52 hc52=>?_
    have ha52:FmW w38.heap.size w52 va f:=OwK.src ha hS40 (by decide) hc52
    refine iEq (iCndP (fun _=>?_) (fun _=>?_))
    ·refine rgt ha52.sl hkk fun w54 x54=>?_
     refine lft (SlK.ext ha52.sl x54) hkk fun w56 x56=>?_
     have y56:=x54.trans x56
     refine iSub (by omega) ?_
     refine rc (by omega) (by omega) (by omega) (hS52.later y56) (aL hC52 y56) (tG (aL hC52 y56)) hGl fun r1 w57 L1 a1 a2 hS57 hC57 _=>?_
     refine j1 (kind:=6) a1 (by omega) fun r2 w59 x59 h59=>?_
     exact fin hS57 hC57 x59 h59 (by rw [sl];omega) (by rw [sl];omega)
    ·refine lft ha52.sl hkk fun w54 x54=>?_
     refine rgt (SlK.ext ha52.sl x54) hkk fun w56 x56=>?_
     have y56:=x54.trans x56
     refine iSub (by omega) ?_
     refine rc (by omega) (by omega) (by omega) (hS52.later y56) (aL hC52 y56) (tG (aL hC52 y56)) hGl fun r1 w57 L1 a1 a2 hS57 hC57 _=>?_
     refine j1 (kind:=7) a1 (by omega) fun r2 w59 x59 h59=>?_
     exact fin hS57 hC57 x59 h59 (by rw [sl];omega) (by rw [sl];omega)
   refine iEq ?_
   refine iJnX (fun xs w'=>xs = [] ∧ w' = w40) (fun J hJ=>?_) ?_
   ·refine iCndP (fun hk4=>?_) (fun _=>hJ _ _ ⟨rfl,rfl⟩)
    refine aM (tG hC40).sl (iLt (iCndP (fun h12=>?_) (fun _=>hJ _ _ ⟨rfl,rfl⟩)))
    obtain ⟨x,y,hxy⟩:=xP (f:=f) (by omega)
    have hkk:f.kids = [x,y]:=by rw [hxy];rfl
    have sy:=gk (g:=y) (by rw [hkk];simp)
    have sf:f.size = 1 + x.size + y.size:=by rw [hxy];rfl
    have px:=x.size_pos
    have hby:=PZ (d:=d) (s:=goal) (s1:=y.body) (by omega)
    refine lft ha.sl hkk fun w70 x70=>?_
    refine lft (SlK.ext ha.sl x70) hkk fun w72 x72=>?_
    have y72:=x70.trans x72
    refine wth (aL hC40 y72) fun u w74 x74 hu=>?_
    have y74:=y72.trans x74
    refine rgt (SlK.ext ha.sl y74) hkk fun w76 x76=>?_
    have y76:=y74.trans x76
    refine iSub (by omega) ?_
    refine rc (by omega) (by omega) (by omega) (hS40.later y76) (aL hC40 y76) (hu.ext x76) (by rw [List.length_append,List.length_singleton];omega) fun r1 w77 L1 a1 a2 hS77 hC77 _=>?_
    refine j1 (kind:=1) a1 (by omega) fun r2 w79 x79 h79=>?_
    exact fin hS77 hC77 x79 h79 (by rw [sl];omega) (by rw [sl];omega)
   rintro _ w68 ⟨rfl,rfl⟩
   intro _
   refine iRet (KJ (tG hC40).sl) fun w80 x80=>?_
   have hS80:=hS40.later x80
   have hC80:=aL hC40 x80
   refine iCnd (fun _=>?_) (fun _=>one hS80 hC80)
   refine iCall ((IL (tG hC80).sl).mono ?_)
   rintro _ w81 ⟨x81,k,rfl⟩
   refine iCall ((AL k w81).mono ?_)
   rintro r w82 ⟨x82,hr⟩
   have y82:=x81.trans x82
   refine j1 (kind:=9) (OwK.mono hr (Nat.zero_le _)) (by simp) fun r2 w84 x84 h84=>?_
   exact fin (hS80.later y82) (aL hC80 y82) x84 h84 (by rw [sl];omega) (by have:=SS d goal;simp;omega)
theorem F4 {w0:World} {vc:Value} {bs:List Nat} (hc:SlB w0 vc bs) {b:Nat} {w:World} (hS:Vc.Src eS w0 vc b w):
  Drw Tryz.prog uJ #[.pointer (some ⟨b,0,none⟩)] eS w0 vc b w fun r w'=>∃ G,TxW 0 w' r G ∧ G.length ≤ 4:=by
 have hw:Ch (fun c=>c = b) w w:=(Ext.refl w).ch
 apply HQ;unfold uP
 refine iBs2 rfl rfl rfl fun c1 w1 hc1 x1 hB1=>?_
 have hO1:Ow w.heap.size aB w1 (.slice (some ⟨c1,0,none⟩) 2 2) (strs [[112],[113]]):=Ow.ofBlk (n:=2) hB1 (by omega) rfl (by decide)
 refine iCall ((aG hc (hS.later x1) 5).mono ?_)
 rintro _ w2 ⟨⟨q,rfl,_,_⟩,hS2,hc2⟩
 have hC2:=aE (aL hw x1) hc2
 have hO2:=Ow.dch hO1 (DCh.src (hS.later x1) hc2) (by decide) (by decide)
 have one:∀ {w':World} {t:Str},Vc.Src eS w0 vc b w' → Ch (fun c=>c = b) w w' → xBs aB (Value.cells (.string ⟨#[]⟩)) 1 1 [(0,sv t)] w' fun r w''=>(∃ G,TxW 0 w'' r G ∧ G.length ≤ 4) ∧ Vc.Src eS w0 vc b w'' ∧ Ch (fun c=>c = b) w w'':=fun h1 h2=>by
  refine iBs1 rfl rfl fun c w'' _ x hB=>⟨⟨[_],Ow.ofBlk (n:=1) hB (Nat.zero_le _) rfl (by decide),by simp⟩,h1.later x,aL h2 x⟩
 have hcl:∀ {L:List Str},∀ y ∈ strs L,aD y = true:=fun y hy=>by
  obtain ⟨z,_,rfl⟩:=List.mem_map.1 hy
  rfl
 refine iEq (iCndP (fun _=>one hS2 hC2) (fun _=>iEq ?_))
 refine iJnX (fun xs w'=>∃ u,xs = [u] ∧ (∃ G,TxW 0 w' u G ∧ G.length ≤ 4) ∧ Vc.Src eS w0 vc b w' ∧ Ch (fun c=>c = b) w w') (fun J hJ=>?_) ?_
 ·have app:∀ {w6:World} {u v':Value} {w7:World} {A B:List Str},Ext w2 w6 → Ow w.heap.size aB w6 (.slice (some ⟨c1,0,none⟩) 2 2) (strs A) → Ow w.heap.size aB w7 v' (strs A ++ strs B) → w6.grownBy w7 (Value.ownBlock (.slice (some ⟨c1,0,none⟩) 2 2)) → A.length + B.length ≤ 4 → (∃ G,TxW 0 w7 v' G ∧ G.length ≤ 4) ∧ Vc.Src eS w0 vc b w7 ∧ Ch (fun c=>c = b) w w7:=fun {w6 u v' w7 A B} x6 h1 h2 h3 h4=>by
   have hg:=dG (S:=fun c=>Value.ownBlock (.slice (some ⟨c1,0,none⟩) 2 2) = some c) h3 fun c hc=>hc
   have hS6:=hS2.later x6
   refine ⟨⟨A ++ B,?_,by rw [List.length_append];exact h4⟩,hS6.ch hg (fun e=>hS6.neOw h1 (by decide) e) fun c e=>?_,TV (aL hC2 x6) hg (fun c e=>(h1.blk c e).1) (Nat.le_refl _)⟩
   ·show Ow 0 aB w7 v' (strs (A ++ B))
    rw [show strs (A ++ B) = strs A ++ strs B from List.map_append]
    exact h2.mono (Nat.zero_le _)
   ·have:=(h1.blk c e).1
    have:=hS.1.size
    omega
  refine iCndP (fun _=>?_) (fun _=>iEq ?_)
  ·refine iBs1 rfl rfl fun c6 w6 _ x6 hB6=>?_
   refine iApp bS b6 rfl (hO2.ext x6) (Sl.ofBlk (n:=1) hB6 rfl (by decide)) (hcl (L:=[[70]])) (by simp [strs]) (by simp [strs]) (Nat.le_trans hC2.size x6.size) fun v' w7 h7 g7=>?_
   exact hJ _ _ ⟨v',rfl,app (u:=.slice none 0 0) (A:=[[112],[113]]) (B:=[[70]]) x6 (hO2.ext x6) h7 g7 (by decide)⟩
  ·refine iJnX (fun xs w'=>∃ u,xs = [u] ∧ (∃ G,TxW 0 w' u G ∧ G.length ≤ 4) ∧ Vc.Src eS w0 vc b w' ∧ Ch (fun c=>c = b) w w') (fun J' hJ'=>?_) ?_
   ·refine iCndP (fun _=>?_) (fun _=>?_)
    ·refine iBs2 rfl rfl rfl fun c6 w6 _ x6 hB6=>?_
     refine iApp bS b6 rfl (hO2.ext x6) (Sl.ofBlk (n:=2) hB6 rfl (by decide)) (hcl (L:=[[112,62,113],[112,124,113]])) (by simp [strs]) (by simp [strs]) (Nat.le_trans hC2.size x6.size) fun v' w7 h7 g7=>?_
     exact hJ' _ _ ⟨v',rfl,app (u:=.slice none 0 0) (A:=[[112],[113]]) (B:=[[112,62,113],[112,124,113]]) x6 (hO2.ext x6) h7 g7 (by decide)⟩
    ·exact hJ' _ _ ⟨_,rfl,⟨_,hO2.mono (Nat.zero_le _),by decide⟩,hS2,hC2⟩
   ·rintro _ w9 ⟨u,rfl,h9⟩
    intro _
    exact hJ _ _ ⟨u,rfl,h9⟩
 rintro _ w5 ⟨u,rfl,⟨G,hG,hGl⟩,hS5,hC5⟩
 intro _
 simp only [gx]
 refine iCall ((aG hc hS5 30).mono ?_)
 rintro _ w12 ⟨⟨q2,rfl,_,_⟩,hS12,hc12⟩
 have hC12:=aE hC5 hc12
 refine iEq (iCndP (fun _=>one hS12 hC12) (fun _=>⟨⟨G,Ow.dch hG (DCh.src hS5 hc12) (by decide) (by decide),hGl⟩,hS12,hC12⟩))
theorem I2 {w0:World} {vc:Value} {bs:List Nat} (hc:SlB w0 vc bs) {b:Nat} {w:World} (hS:Vc.Src eS w0 vc b w):
  Drw Tryz.prog yU #[.pointer (some ⟨b,0,none⟩)] eS w0 vc b w fun r w'=>∃ va vt G L,r = .tuple #[va,vt] ∧ TxW 0 w' va G ∧ G.length ≤ 4 ∧ OwT aA 0 w' vt L ∧ L.length ≤ 500000:=by
 apply LS;unfold yG
 refine iCall ((F4 hc hS).mono ?_)
 rintro va w1 ⟨⟨G,hG,hGl⟩,hS1,hC1⟩
 refine iBs8S (a:=[112]) (b:=[113]) (c:=[112,62,112]) (d:=[112,38,113]) (f:=[112,124,113]) (g:=[112,62,113,62,112]) (h:=[40,112,62,112,41,38,40,113,62,113,41]) (i:=[112,38,113,62,113,38,112]) fun c2 w2 x2 hB2=>?_
 have hs2:Ow 0 aB w2 (.slice (some ⟨c2,0,none⟩) 8 8) (strs [[112],[113],[112,62,112],[112,38,113],[112,124,113],[112,62,113,62,112],[40,112,62,112,41,38,40,113,62,113,41],[112,38,113,62,113,38,112]]):=Ow.ofBlk (n:=8) hB2 (Nat.zero_le _) rfl (by decide)
 have hS2:=hS1.later x2
 refine iCall ((aG hc hS2 8).mono ?_)
 rintro _ w3 ⟨⟨q,rfl,hq,_⟩,hS3,hc3⟩
 have hq:q < 8:=by have:=hq (by decide);omega
 have hs3:=Ow.dch hs2 (DCh.src hS2 hc3) (by decide) (by decide)
 have hC3:=aE (aL hC1 x2) hc3
 have hG3:=Ow.dch (hG.ext x2) (DCh.src hS2 hc3) (by decide) (by decide)
 refine iIaG hs3.sl rfl (show q < 8 from hq) ?_
 generalize gt ([[112],[113],[112,62,112],[112,38,113],[112,124,113],[112,62,113,62,112],[40,112,62,112,41,38,40,113,62,113,41],[112,38,113,62,113,38,112]]:List Str) q = goal
 refine iCall ((aG hc hS3 4).mono ?_)
 rintro _ w4 ⟨⟨d,rfl,hd,_⟩,hS4,hc4⟩
 have hd:=hd (by decide)
 have hC4:=aE hC3 hc4
 have hG4:=Ow.dch hG3 (DCh.src hS3 hc4) (by decide) (by decide)
 have hgz:=gz_at goal
 refine iAdd (by omega) ?_
 refine iCall ((D8 hc 300 (d:=1 + (d:Int)) (by omega) (by omega) (by omega) (by omega) hS4 hG4 (by omega)).mono ?_)
 rintro vt w5 ⟨⟨L,hL,hL1,hLb⟩,hS5,hc5⟩
 have hC5:=aE hC4 hc5
 have hG5:TxW 0 w5 va G:=Ow.dch hG4 (DCh.src hS4 hc5) (by decide) (by decide)
 have hbl:=bz_le (d:=1 + (d:Int)) (s:=goal) (by omega)
 have hLl:L.length ≤ 400000:=by omega
 have h4s:w.heap.size ≤ w4.heap.size:=hC4.size
 refine iCall ((aG hc hS5 16).mono ?_)
 rintro _ w6 ⟨⟨s,rfl,_,_⟩,hS6,hc6⟩
 have hC6:=aE hC5 hc6
 have hG6:TxW 0 w6 va G:=Ow.dch hG5 (DCh.src hS5 hc6) (by decide) (by decide)
 have hL6:OwT aA w4.heap.size w6 vt L:=OwK.src hL hS5 (by decide) hc6
 have h0s:w0.heap.size ≤ w4.heap.size:=hS4.1.size
 have keep:∀ {w' w'':World},Ch (fun c=>vt.ownBlock = some c) w' w'' → OwT aA w4.heap.size w' vt L → Vc.Src eS w0 vc b w' → Ch (fun c=>c = b) w w' → TxW 0 w' va G → Vc.Src eS w0 vc b w'' ∧ Ch (fun c=>c = b) w w'' ∧ TxW 0 w'' va G:=fun hch h1 h2 h3 h4=>by
  refine ⟨h2.ch hch (fun e=>OwK.ne_src h1 h2 (by decide) e) fun c e=>Nat.le_trans h0s (OwK.blk h1 c e).1,TV h3 hch (fun c e=>(OwK.blk h1 c e).1) h4s,h4.ch hch fun c hc' hS'=>?_⟩
  obtain ⟨cur,hh⟩:=OwK.ty h1 hS'
  exact h4.ne_blk (show Blk aA _ c cur.toList by unfold Blk;rw [hh]) (by decide) hc'
 have done:∀ {w':World} {u:Value} {L':List RT} {lo:Nat},OwT aA lo w' u L' → L'.length ≤ 500000 → Vc.Src eS w0 vc b w' ∧ Ch (fun c=>c = b) w w' ∧ TxW 0 w' va G → (∃ va' vt' G' L'',Value.tuple #[va,u] = .tuple #[va',vt'] ∧ TxW 0 w' va' G' ∧ G'.length ≤ 4 ∧ OwT aA 0 w' vt' L'' ∧ L''.length ≤ 500000) ∧ Vc.Src eS w0 vc b w' ∧ Ch (fun c=>c = b) w w':=fun h1 h2 h3=>⟨⟨_,_,_,_,rfl,h3.2.2,hGl,OwK.mono h1 (Nat.zero_le _),h2⟩,h3.1,h3.2.1⟩
 refine iEq ?_
 refine iJnX (fun xs w'=>∃ u L' lo,xs = [u] ∧ OwT aA lo w' u L' ∧ L'.length ≤ 500000 ∧ (Vc.Src eS w0 vc b w' ∧ Ch (fun c=>c = b) w w' ∧ TxW 0 w' va G)) (fun J hJ=>?_) ?_
 ·refine iCndP (fun _=>?_) (fun _=>iEq ?_)
  ·refine iLenK hL6.sl ?_
   refine iCall ((aG hc hS6 L.length).mono ?_)
   rintro _ w9 ⟨⟨i,rfl,hi,_⟩,hS9,hc9⟩
   have hi:i < L.length:=by have:=hi (by omega);omega
   have hL9:OwT aA w4.heap.size w9 vt L:=OwK.src hL6 hS6 (by decide) hc9
   have hG9:TxW 0 w9 va G:=Ow.dch hG6 (DCh.src hS6 hc9) (by decide) (by decide)
   refine iCall ((aG hc hS9 11).mono ?_)
   rintro _ w10 ⟨⟨k,rfl,_,_⟩,hS10,hc10⟩
   have hL10:OwT aA w4.heap.size w10 vt L:=OwK.src hL9 hS9 (by decide) hc10
   have hG10:TxW 0 w10 va G:=Ow.dch hG9 (DCh.src hS9 hc10) (by decide) (by decide)
   refine iWrT hL10 rfl hi (by decide) rfl (IA (k:Int) hi) fun w11 ho11 hc11=>?_
   exact hJ _ _ ⟨vt,_,_,rfl,ho11,by rw [List.length_set];omega,keep hc11 hL10 hS10 (aE (aE hC6 hc9) hc10) hG10⟩
  ·refine iJnX (fun xs w'=>∃ u L' lo,xs = [u] ∧ OwT aA lo w' u L' ∧ L'.length ≤ 500000 ∧ (Vc.Src eS w0 vc b w' ∧ Ch (fun c=>c = b) w w' ∧ TxW 0 w' va G)) (fun J' hJ'=>?_) ?_
   ·refine iCndP (fun _=>?_) (fun _=>iEq ?_)
    ·refine iLenK hL6.sl ?_
     refine iCall ((aG hc hS6 L.length).mono ?_)
     rintro _ w14 ⟨⟨i,rfl,hi,_⟩,hS14,hc14⟩
     have hi:i < L.length:=by have:=hi (by omega);omega
     have hL14:OwT aA w4.heap.size w14 vt L:=OwK.src hL6 hS6 (by decide) hc14
     have hG14:TxW 0 w14 va G:=Ow.dch hG6 (DCh.src hS6 hc14) (by decide) (by decide)
     refine iBs6I fun c15 w15 hc15 x15 hB15=>?_
     have hS15:=hS14.later x15
     refine iCall ((JZ hc hS15 (l:=[0,1,2,99,100,-1]) rfl hB15 (by have:=hS14.lt;omega) (by decide) (by decide)).mono ?_)
     rintro _ w16 ⟨⟨k,rfl,_⟩,hS16,hc16⟩
     have hL16:OwT aA w4.heap.size w16 vt L:=OwK.src (OwK.ext hL14 x15) hS15 (by decide) hc16
     have hG16:TxW 0 w16 va G:=Ow.dch (hG14.ext x15) (DCh.src hS15 hc16) (by decide) (by decide)
     refine iWrT hL16 rfl hi (by decide) rfl (AI k hi) fun w17 ho17 hc17=>?_
     exact hJ' _ _ ⟨vt,_,_,rfl,ho17,by rw [List.length_set];omega,keep hc17 hL16 hS16 (aE (aL (aE hC6 hc14) x15) hc16) hG16⟩
    ·refine iJnX (fun xs w'=>∃ u L' lo,xs = [u] ∧ OwT aA lo w' u L' ∧ L'.length ≤ 500000 ∧ (Vc.Src eS w0 vc b w' ∧ Ch (fun c=>c = b) w w' ∧ TxW 0 w' va G)) (fun J'' hJ''=>?_) ?_
     ·refine iCndP (fun _=>?_) (fun _=>iEq ?_)
      ·refine UQ (iBsT fun q20 w20 hq20 x20 hB20=>?_)
       have h20:OwT aA 0 w20 (.slice (some ⟨q20,0,none⟩) 1 1) [⟨0,0,[]⟩]:=vC (n:=⟨0,0,[]⟩) hB20 (Nat.zero_le _)
       have hL20:OwT aA w4.heap.size w20 vt L:=OwK.ext hL6 x20
       refine iAppT gZ gW rfl hL20 h20.sl (by rw [List.length_singleton];omega) (by rw [List.length_singleton];omega) (by have:=hc5.size;have:=hc6.size;have:=x20.size;omega) fun v' w21 ho21 hg21=>?_
       have hch21:=dG (S:=fun c=>vt.ownBlock = some c) hg21 fun c hc=>hc
       exact hJ'' _ _ ⟨v',_,_,rfl,ho21,by rw [List.length_append,List.length_singleton];omega,keep hch21 hL20 (hS6.later x20) (aL hC6 x20) (hG6.ext x20)⟩
      ·refine iJnX (fun xs w'=>xs = [] ∧ ∃ L' lo,OwT aA lo w' vt L' ∧ L'.length ≤ 500000 ∧ (Vc.Src eS w0 vc b w' ∧ Ch (fun c=>c = b) w w' ∧ TxW 0 w' va G)) (fun J3 hJ3=>?_) ?_
       ·refine iCndP (fun _=>?_) (fun _=>hJ3 _ _ ⟨rfl,_,_,hL6,by omega,hS6,hC6,hG6⟩)
        refine iWrT (j:=0) hL6 rfl (by omega) (by decide) rfl (IC [113] (by omega)) fun w24 ho24 hc24=>?_
        exact hJ3 _ _ ⟨rfl,_,_,ho24,by rw [List.length_set];omega,keep hc24 hL6 hS6 hC6 hG6⟩
       ·rintro _ w23 ⟨rfl,L',lo,h1,h2,h3⟩
        intro _
        exact hJ'' _ _ ⟨vt,L',lo,rfl,h1,h2,h3⟩
     ·rintro _ w19 ⟨u,L',lo,rfl,h⟩
      intro _
      exact hJ' _ _ ⟨u,L',lo,rfl,h⟩
   ·rintro _ w13 ⟨u,L',lo,rfl,h⟩
    intro _
    exact hJ _ _ ⟨u,L',lo,rfl,h⟩
 ·rintro _ w8 ⟨u,L',lo,rfl,h1,h2,h3⟩
  intro _
  exact done h1 h2 h3
end Go.Proofs.YtkjoppimpmojfaaGreat
