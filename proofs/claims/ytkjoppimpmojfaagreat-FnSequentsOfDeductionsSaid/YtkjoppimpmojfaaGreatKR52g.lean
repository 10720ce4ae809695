/- The proof of FnSequentsOfDeductions, part 7 of 8. Conditions: none. -/
import Derived.Test.YtkjoppimpmojfaaGreatKR52f
namespace Go.Vc
def nodeL (r:Nat):Nat:=if r = 2 then 9 else if r = 9 then 1 else if r = 10 then 2 else if r = 1 then 0 else r
def ruleL (k:Nat):Nat:=if k = 0 then 1 else if k = 1 then 9 else if k = 2 then 10 else if k = 9 then 2 else k
theorem UE {k i:Nat} (hk:k ≤ 9) (h1:1 ≤ i) (h2:i ≤ ruleL k):(nodeL i = k ↔ i = ruleL k) ∧ 1 ≤ ruleL k ∧ ruleL k ≤ 10:=by
 have key:∀ k:Fin 10,∀ i:Fin 11,1 ≤ i.val → i.val ≤ ruleL k.val → (nodeL i.val = k.val ↔ i.val = ruleL k.val) ∧ 1 ≤ ruleL k.val ∧ ruleL k.val ≤ 10:=by decide
 have hr:∀ k:Fin 10,ruleL k.val ≤ 10:=by decide
 have h3:=hr ⟨k,by omega⟩
 exact key ⟨k,by omega⟩ ⟨i,by have:ruleL k ≤ 10:=h3;omega⟩ h1 h2
end Go.Vc
namespace Go.Proofs.YtkjoppimpmojfaaGreat
open Go.Vc
def RCh (lo:Nat) (w w':World):Prop:=Ch (TyR lo w) w w'
theorem RCh.ext {lo:Nat} {w w':World} (x:Ext w w'):RCh lo w w':=x.ch
theorem RCh.then {lo:Nat} {S:Nat → Prop} {w w' w'':World} (h:RCh lo w w') (k:Ch S w' w'') (hS:∀ c,S c → TyR lo w' c ∨ w.heap.size ≤ c):RCh lo w w'':=by
 refine Ch.trans h k fun c hc=>?_
 rcases hS c hc with hc | hc
 rotate_left
 ·exact .inr hc
 by_cases hlt:c < w.heap.size
 ·by_cases hs:TyR lo w c
  ·exact .inl hs
  ·refine .inl ?_
   have:=h.block c hlt hs
   obtain ⟨h1,cs,h2⟩:=hc
   refine ⟨h1,cs,?_⟩
   unfold Blk at *
   rw [← this];exact h2
 ·exact .inr (by omega)
theorem RCh.trans {lo:Nat} {w w' w'':World} (h:RCh lo w w') (k:RCh lo w' w''):RCh lo w w'':=h.then k fun _ h=>.inl h
theorem RCh.x {lo:Nat} {w w' w'':World} (h:RCh lo w w') (x:Ext w' w''):RCh lo w w'':=h.trans (RCh.ext x)
theorem OwK.rch {k lo lo' n:Nat} {e:TypeId} {w w':World} {v:Value} {xs:List Value} (h:OwK k lo e w v n xs) (x:RCh lo' w w') (h2:e ≠ aC):OwK k lo e w' v n xs:=OwK.ch h x fun c hc hS=>by
 obtain ⟨_,cs,hS⟩:=hS
 exact OwK.ne_blk h hS h2 hc
theorem Ow.rch {lo lo':Nat} {e:TypeId} {w w':World} {v:Value} {xs:List Value} (h:Ow lo e w v xs) (x:RCh lo' w w') (h2:e ≠ aC):Ow lo e w' v xs:=Ow.ch h x fun c hc hS=>by
 obtain ⟨_,cs,hS⟩:=hS
 exact h.ne_blk hS h2 hc
structure StP (lo:Nat) (w:World) (v:Value) (R:List DV):Prop where
 row:OwK 5 lo aC w v R.length (aO R)
 prem:∀ x ∈ R,Ow 0 t_i64 w x.vp (ints x.d.prem)
 asm:∀ x ∈ R,TxW 0 w x.vl x.d.asm
 small:∀ x ∈ R,x.d.prem.length ≤ 3
theorem StP.ext {lo:Nat} {w w':World} {v:Value} {R:List DV} (h:StP lo w v R) (x:Ext w w'):StP lo w' v R:=⟨OwK.ext h.row x,fun y hy=>(h.prem y hy).ext x,fun y hy=>(h.asm y hy).ext x,h.small⟩
theorem StP.rd {lo:Nat} {w:World} {v:Value} {R:List DV} (h:StP lo w v R):RdD w v R:=⟨h.row.sl,fun x hx=>(h.prem x hx).sl,fun x hx=>(h.asm x hx).sl⟩
theorem MG {i:Nat} (h1:1 ≤ i) (h2:i ≤ 10) (w:World):Ret Tryz.prog C5 #[.int .i64 (i:Int)] w (.int .i64 (nodeL i:Int)):=by
 apply N0;unfold CX
 rcases (show i = 1 ∨ i = 2 ∨ i = 3 ∨ i = 4 ∨ i = 5 ∨ i = 6 ∨ i = 7 ∨ i = 8 ∨ i = 9 ∨ i = 10 by omega) with h | h | h | h | h | h | h | h | h | h <;> subst h <;> repeat first | exact ⟨by first | trivial | rfl,Ext.refl _⟩ | (refine iEq ?_) | (refine iCndT (by decide) ?_) | (refine iCndF (by decide) ?_) | (refine iJn ?_) | (intro _;try simp only [gx])
theorem KQ {k:Nat} (hk:k ≤ 9) (w:World):Ret Tryz.prog B0 #[.int .i64 (k:Int)] w (.int .i64 (ruleL k:Int)):=by
 apply MI;unfold AW
 have hr:1 ≤ ruleL k ∧ ruleL k ≤ 10:=by
  unfold ruleL
  repeat' split
  all_goals omega
 refine iLp (fun i:Nat=>[.int .i64 (i:Int)]) (fun i w'=>(1 ≤ i ∧ i ≤ ruleL k) ∧ Ext w w') (fun i=>11 - i) 1 rfl ⟨⟨Nat.le_refl _,hr.1⟩,Ext.refl _⟩ ?_
 rintro i w2 Kn ⟨⟨h1,h2⟩,x2⟩ hKn
 intro _
 simp only [gx]
 have hat:=(UE hk h1 h2).1
 refine iLe (iCndT (decide_eq_true (by omega)) ?_)
 refine iRet (MG h1 (by omega) w2) fun w3 x3=>iEq (iCndP (fun h=>?_) (fun h=>iAdd (by omega) ?_))
 ·rw [hat.1 (by omega)]
  exact ⟨rfl,x2.trans x3⟩
 ·have:¬ i = ruleL k:=fun e=>h (by rw [hat.2 e])
  exact hKn (i + 1) _ ⟨⟨by omega,by omega⟩,x2.trans x3⟩ (by omega)
def partE (t:Str) (k:Nat):Value:=if t = [] then .tuple #[.string ⟨#[]⟩,.string ⟨#[]⟩,.bool false] else parV t k
theorem U6 {t:Str} {k:Nat} (h:PE t):∃ a b z,partE t k = .tuple #[sv a,sv b,z] ∧ PE a ∧ PE b:=by
 unfold partE
 by_cases e:t = []
 ·rw [if_pos e];exact ⟨[],[],_,rfl,.inl rfl,.inl rfl⟩
 ·rw [if_neg e]
  unfold parV
  cases hp:parK t k with
  | none=>exact ⟨[],[],_,rfl,.inl rfl,.inl rfl⟩
  | some p=>exact ⟨_,_,_,rfl,.inr (bV (h.pl e) hp).1,.inr (bV (h.pl e) hp).2⟩
theorem HW {t:Str} (h:PE t) {k:Nat} (hk:k = 2 ∨ k = 3 ∨ k = 4) (w:World):Ret Tryz.prog lD #[sv t,.int .i64 (k:Int)] w (partE t k):=by
 unfold partE
 by_cases e:t = []
 ·rw [if_pos e]
  subst e
  apply zE;unfold p6
  refine iCall ((cO [] w).mono ?_)
  rintro _ w1 ⟨x1,va,rfl,-⟩
  refine iE20 (iE21 (iJn (iNot (iCndT rfl ?_))))
  intro _
  exact iCndT rfl ⟨rfl,x1⟩
 ·rw [if_neg e]
  exact eZ (h.pl e) hk w
theorem vT:∀ (m:Nat) {t:Tm} {G:List Str} {v0 v1 v2:Value} {w:World} {R:List DV} {lo:Nat},t.raw.length ≤ m → (∀ n ∈ t.raw,okR n = true) → t.raw.length ≤ 60 → (∀ x ∈ G,PE x) → G.length + t.raw.length ≤ 100 → StP lo w v0 R → lo ≤ w.heap.size → R.length + t.raw.length ≤ 10000 → TxW 0 w v1 G → PtT aA w v2 t.raw →
  Cal Tryz.prog yY #[v0,v1,v2] w fun r w'=>RCh lo w w' ∧ ∃ N,StP lo w' r (R ++ N) ∧ N.length = t.raw.length ∧ ∀ x ∈ N,∀ c,x.vp.ownBlock = some c → w.heap.size ≤ c
 | 0,t,_,_,_,_,_,_,_,hm,_,_,_,_,_,_,_,_,_=>by have:=t.raw_pos;omega
 | m + 1,t,G,v0,v1,v2,w,R,lo,hm,hok,h60,hG,hGl,hst,hlo,hRl,hv1,hv2=>by
  have hpos:=t.raw_pos
  have mem:∀ {j:Nat},j < t.kids.length → gt t.kids j ∈ t.kids:=fun hj=>by rw [gt_eq hj];exact List.getElem_mem _
  have hv1':∀ {w':World},RCh lo w w' → TxW 0 w' v1 G:=fun h=>Ow.rch hv1 h (by decide)
  have hv2':∀ {w':World},RCh lo w w' → PtT aA w' v2 t.raw:=fun h=>let ⟨r0,L0,h1,h2⟩:=hv2;⟨r0,L0,OwK.rch h1 h (by decide),h2⟩
  have hkk:(t.hd.kind:Int) ≤ 9:=by have:=t.kind_le;omega
  have hpar:parI (t.hd.kind:Int) = (t.kids.length:Int):=by
   rw [← t.ar]
   exact if_pos ⟨by omega,hkk⟩
  have hk3:=t.kids_len
  apply KZ;unfold yP
  refine iLdK (j:=0) (cs:=(rawN t.hd).cs.toArray) hv2.rd rfl hpos rfl (fun f hf=>by rw [gI hpos f hf,t.raw0];simp) ?_
  refine iBs0 fun u1 w1 _ x1 ho1=>?_
  refine iNew3 fun q w2 hq x2 hB2=>?_
  refine iStAB hB2 rfl rfl (fun v hv=>by
   simp only [rawN,RT.cs,List.mem_cons,List.not_mem_nil,or_false] at hv
   rcases hv with rfl | rfl | rfl <;> rfl) fun w3 hu3 hB3=>?_
  have hB3:Blk aA w3 q [.int .i64 (t.hd.kind:Int),.int .i64 (t.hd.num:Int),sv t.hd.typ]:=hB3
  have x3:Ext w w3:=(x1.trans x2).upd hu3 (by have:=x1.size;omega)
  have ho3:Ow w.heap.size t_i64 w3 u1 (ints []):=(ho1.ext (x2)).upd hu3 (fun e=>by have:=(ho1.blk _ e).2;omega)
  have f0:∀ {w':World} {K:Value → Prop},Blk aA w' q [.int .i64 (t.hd.kind:Int),.int .i64 (t.hd.num:Int),sv t.hd.typ] → K (.int .i64 (t.hd.kind:Int)) → xFa 0 (.pointer (some ⟨q,0,none⟩)) fun p=>xLd w' p K:=fun hB h=>iFa (iLdB hB (i:=0) (v:=.int .i64 (t.hd.kind:Int)) rfl h)
  have f1:∀ {w':World} {K:Value → Prop},Blk aA w' q [.int .i64 (t.hd.kind:Int),.int .i64 (t.hd.num:Int),sv t.hd.typ] → K (.int .i64 (t.hd.num:Int)) → xFa 1 (.pointer (some ⟨q,0,none⟩)) fun p=>xLd w' p K:=fun hB h=>iFa (iLdB hB (i:=1) (v:=.int .i64 (t.hd.num:Int)) rfl h)
  have f2:∀ {w':World} {K:Value → Prop},Blk aA w' q [.int .i64 (t.hd.kind:Int),.int .i64 (t.hd.num:Int),sv t.hd.typ] → K (sv t.hd.typ) → xFa 2 (.pointer (some ⟨q,0,none⟩)) fun p=>xLd w' p K:=fun hB h=>iFa (iLdB hB (i:=2) (v:=sv t.hd.typ) rfl h)
  refine iLp (fun s:Value × Value × Nat=>[s.1,s.2.1,.int .i64 (s.2.2:Int)]) (fun s w'=>s.2.2 ≤ t.kids.length ∧ RCh lo w w' ∧ Blk aA w' q [.int .i64 (t.hd.kind:Int),.int .i64 (t.hd.num:Int),sv t.hd.typ] ∧ ∃ (N:List DV) (Pr:List Int),StP lo w' s.1 (R ++ N) ∧ N.length = ((t.kids.take s.2.2).flatMap Tm.raw).length ∧ Pr.length = s.2.2 ∧ Ow w.heap.size t_i64 w' s.2.1 (ints Pr) ∧ (∀ x ∈ R ++ N,∀ c,x.vp.ownBlock = some c → s.2.1.ownBlock ≠ some c) ∧ ∀ x ∈ N,∀ c,x.vp.ownBlock = some c → w.heap.size ≤ c) (fun s=>t.kids.length - s.2.2) (v0,u1,0) rfl
   ⟨Nat.zero_le _,RCh.ext x3,hB3,[],[],by rw [List.append_nil];exact hst.ext x3,by simp,rfl,ho3,fun x hx c hc hc'=>?_,fun x hx=>(by cases hx)⟩ ?_
  ·rw [List.append_nil] at hx
   have:=((hst.prem x hx).blk c hc).2
   have:=(ho3.blk c hc').1
   omega
  rintro ⟨s,pz,k⟩ w5 Kn ⟨hk,hR5,hB5,N,Pr,hN,hNl,hPl,hpz,hsep,hNn⟩ hKn
  have hk:k ≤ t.kids.length:=hk
  have hNl:N.length = ((t.kids.take k).flatMap Tm.raw).length:=hNl
  have hPl:Pr.length = k:=hPl
  have hN:StP lo w5 s (R ++ N):=hN
  have hpz:Ow w.heap.size t_i64 w5 pz (ints Pr):=hpz
  have hsep:∀ x ∈ R ++ N,∀ c,x.vp.ownBlock = some c → pz.ownBlock ≠ some c:=hsep
  intro _
  simp only [gx]
  refine f0 hB5 ?_
  refine iRet (hY (t.hd.kind:Int) w5) fun w6 x6=>?_
  rw [hpar]
  have hR6:=hR5.x x6
  have hB6:=hB5.ext x6
  have hle:=vE t k
  refine iLt (iCndP (fun hlt=>?_) (fun hlt=>?_))
  ·have hkl:k < t.kids.length:=by omega
   have hkm:=mem hkl
   have hkr:=Tm.kid_lt hkm
   have htk:=DL hkl
   have hle1:=vE t (k + 1)
   refine f0 hB6 (iEq ?_)
   have wth:∀ {w':World} {y:Str} {K:Value → World → Prop},RCh lo w w' → (∀ u w'',Ext w' w'' → TxW 0 w'' u (G ++ [y]) → K u w'') → xBs aB (Value.cells (.string ⟨#[]⟩)) 1 1 [(0,sv y)] w' fun z w1=>callV Tryz.prog (.func (.func gO) #[] #[]) [v1,z] w1 K:=fun {w' y K} h hK=>by
    refine iBs1 rfl rfl fun c w1 _ x1 hB=>?_
    refine iCall ((fU (B:=[y]) ((hv1' h).ext x1).sl (Sl.ofBlk (n:=1) hB rfl (by decide)) (by omega) (by simp)).mono ?_)
    rintro u w'' ⟨x,hu⟩
    exact hK u w'' (x1.trans x) (hu.mono (Nat.zero_le _))
   have hl1:∀ {y:Str},(G ++ [y]).length ≤ G.length + 1:=fun {y}=>by rw [List.length_append,List.length_singleton];exact Nat.le_refl _
   refine iJnX (fun xs w'=>Ext w6 w' ∧ ∃ u H,xs = [u] ∧ TxW 0 w' u H ∧ (∀ x ∈ H,PE x) ∧ H.length ≤ G.length + 1) (fun J hJ=>?_) ?_
   ·refine iCndP (fun h1=>?_) (fun _=>hJ _ _ ⟨Ext.refl _,v1,G,rfl,hv1' hR6,hG,by omega⟩)
    refine f2 hB6 (wth hR6 fun u w10 x10 hu=>?_)
    exact hJ _ _ ⟨x10,u,_,rfl,hu,rI hG (.inr (vH hok (.inl (by omega)))),hl1⟩
   rintro _ w8 ⟨x8,u8,H8,rfl,hu8,hH8,hHl8⟩
   intro _
   simp only [gx]
   have hR8:=hR6.x x8
   have hB8:=hB6.ext x8
   refine iJnX (fun xs w'=>(∃ b:Bool,xs = [.bool b] ∧ (b = true → t.hd.kind = 8)) ∧ w' = w8) (fun J hJ=>?_) ?_
   ·refine f0 hB8 (iEq (iCndP (fun h8=>iLt (hJ _ _ ⟨⟨_,rfl,fun _=>by omega⟩,rfl⟩)) (fun _=>hJ _ _ ⟨⟨false,rfl,fun e=>by cases e⟩,rfl⟩)))
   rintro _ w12 ⟨⟨b,rfl,hb8⟩,rfl⟩
   intro _
   simp only [gx]
   refine iJnX (fun xs w'=>Ext w12 w' ∧ ∃ u H,xs = [u] ∧ TxW 0 w' u H ∧ (∀ x ∈ H,PE x) ∧ H.length ≤ G.length + 1) (fun J hJ=>?_) ?_
   ·refine iCnd (fun hb=>?_) (fun _=>hJ _ _ ⟨Ext.refl _,u8,H8,rfl,hu8,hH8,hHl8⟩)
    have h8:=hb8 hb
    have hk0:0 < t.kids.length:=by omega
    have hpt:=hv2' hR8
    refine iCall ((qA hok (by omega) (k:=0) hk0 hpt.rd).mono ?_)
    rintro r w15 ⟨x15,hr⟩
    have hr15:RdT w15 r (gt t.kids 0).raw:=hr w15 (SlK.ext hpt.rd x15)
    have hok0:=eL hok (mem hk0)
    have hk0r:=Tm.kid_lt (mem hk0)
    refine iRet (i2 _ (Nat.le_refl _) hok0 (by omega) hG (by omega) ((hv1' hR8).ext x15).sl hr15) fun w16 x16=>?_
    refine iRet (HW (i5 _ _ hok0 hG) (k:=3) (.inr (.inl rfl)) w16) fun w17 x17=>?_
    obtain ⟨a,b',z,hp,ha,hb'⟩:=U6 (k:=3) (i5 _ _ hok0 hG)
    rw [hp]
    refine iE30 (iE31 (iE32 ?_))
    have y17:=(x15.trans x16).trans x17
    refine wth (hR8.x y17) fun u19 w19 x19 hu19=>?_
    have y19:=y17.trans x19
    refine iEq ?_
    refine iJnX (fun xs w'=>Ext w12 w' ∧ ∃ u H,xs = [u] ∧ TxW 0 w' u H ∧ (∀ x ∈ H,PE x) ∧ H.length ≤ G.length + 1) (fun J' hJ'=>?_) ?_
    ·refine iCndP (fun _=>?_) (fun _=>hJ' _ _ ⟨y19,u19,_,rfl,hu19,rI hG ha,hl1⟩)
     refine wth (hR8.x y19) fun u23 w23 x23 hu23=>?_
     exact hJ' _ _ ⟨y19.trans x23,u23,_,rfl,hu23,rI hG hb',hl1⟩
    ·rintro _ w21 ⟨x21,u,H,rfl,h⟩
     intro _
     exact hJ _ _ ⟨x21,u,H,rfl,h⟩
   rintro _ w14 ⟨x14,u,H,rfl,hu,hH,hHl⟩
   intro _
   simp only [gx]
   have hR14:=hR8.x x14
   have x514:=(x6.trans x8).trans x14
   have hpt:=hv2' hR14
   refine iCall ((qA hok (by omega) hkl hpt.rd).mono ?_)
   rintro r w24 ⟨x24,hr⟩
   have hR24:=hR14.x x24
   have x524:=x514.trans x24
   have hptr:PtT aA w24 r (gt t.kids k).raw:=by
    obtain ⟨r0,L0,h1,h2⟩:=hv2' hR24
    exact ⟨r0,L0,h1,fun w' h'=>hr w' (h2 w' h')⟩
   have hN24:=hN.ext x524
   have h524:=x524.size
   refine iCall ((vT m (by omega) (eL hok hkm) (by omega) hH (by omega) hN24 (Nat.le_trans hlo hR24.size) (by rw [List.length_append];omega) (hu.ext x24) hptr).mono ?_)
   rintro s' w25 ⟨hR2425,N',hN',hNl',hNn'⟩
   have hR25:=hR24.trans hR2425
   have hB25:Blk aA w25 q [.int .i64 (t.hd.kind:Int),.int .i64 (t.hd.num:Int),sv t.hd.typ]:=(hB5.ext x524).ch hR2425 fun hS=>by
    obtain ⟨_,cs,hS⟩:=hS
    have e:=hB5.ext x524
    unfold Blk at e hS
    rw [e] at hS
    injection hS with hS
    injection hS with _ hS _
    exact absurd hS (by decide)
   have hpz25:Ow w.heap.size t_i64 w25 pz (ints Pr):=Ow.rch (hpz.ext x524) hR2425 (by decide)
   refine iLenK hN'.row.sl (iSub (by simp only [List.length_append];omega) ?_)
   have hws:w.heap.size ≤ w24.heap.size:=hR24.size
   refine sR n6 nR rfl hpz25 rfl (by rw [bA];omega) (by rw [bA];omega) hR25.size fun pz' w27 ho27 hg27 hat=>?_
   have hch:=dG (S:=fun c=>pz.ownBlock = some c) hg27 fun c hc=>hc
   have hsep25:∀ x ∈ (R ++ N) ++ N',∀ c,x.vp.ownBlock = some c → pz.ownBlock ≠ some c:=fun x hx c hc hc'=>by
    rcases List.mem_append.1 hx with hx | hx
    ·exact hsep x hx c hc hc'
    ·have h1:=hNn' x hx c hc
     have h2:=(hpz.blk c hc').2
     omega
   have hlt25:∀ x ∈ (R ++ N) ++ N',∀ c,x.vp.ownBlock = some c → c < w25.heap.size:=fun x hx c hc=>((hN'.prem x hx).blk c hc).2
   have hN27:StP lo w27 s' ((R ++ N) ++ N'):=by
    refine ⟨OwK.ch hN'.row hch fun c hc hS=>?_,fun x hx=>(hN'.prem x hx).ch hch fun c hc hS=>hsep25 x hx c hc hS,fun x hx=>(hN'.asm x hx).ch hch fun c hc hS=>?_,hN'.small⟩
    ·obtain ⟨cur,hh⟩:=OwK.ty hN'.row hc
     exact hpz25.ne_blk (show Blk aC w25 c cur.toList by unfold Blk;rw [hh]) (by decide) hS
    ·obtain ⟨cur,hh⟩:=hpz25.ty hS
     exact (hN'.asm x hx).ne_blk (show Blk t_i64 w25 c cur.toList by unfold Blk;rw [hh]) (by decide) hc
   refine iAdd (by omega) ?_
   refine hKn (s',pz',k + 1) _ ⟨hkl,hR25.then hch fun c hc=>.inr (hpz25.blk c hc).1,hB25.ch hch fun hS=>hpz25.ne_blk hB25 (by decide) hS,N ++ N',Pr ++ [(((R ++ N) ++ N').length:Int) - 1],by rw [← List.append_assoc];exact hN27,?_,by rw [List.length_append,hPl];rfl,?_,?_,?_⟩ (by show t.kids.length - (k + 1) < t.kids.length - k;omega)
   ·show (N ++ N').length = ((t.kids.take (k + 1)).flatMap Tm.raw).length
    rw [List.length_append,htk];omega
   ·show Ow _ _ _ pz' (ints (Pr ++ [_]))
    rw [show ints (Pr ++ [(((R ++ N) ++ N').length:Int) - 1]) = ints Pr ++ [.int .i64 ((((R ++ N) ++ N').length:Int) - 1)] by simp [ints]]
    exact ho27
   ·show ∀ x ∈ R ++ (N ++ N'),∀ c,x.vp.ownBlock = some c → pz'.ownBlock ≠ some c
    rw [← List.append_assoc]
    intro x hx c hc hc'
    rcases hat with e | ⟨c',e,he⟩
    ·exact hsep25 x hx c hc (e ▸ hc')
    ·rw [e] at hc'
     cases hc'
     have:=hlt25 x hx c hc
     omega
   ·intro x hx c hc
    rcases List.mem_append.1 hx with hx | hx
    ·exact hNn x hx c hc
    ·exact Nat.le_trans hws (hNn' x hx c hc)
  ·have hke:k = t.kids.length:=by omega
   have hall:=U4 t
   rw [hke] at hNl
   refine f0 hB6 ?_
   refine iRetQ (fun w' x'=>KQ (by omega) w') ?_
   refine f1 hB6 ?_
   intro w28 x28
   have hR28:=hR6.x x28
   refine iCall ((i9 (hv1' hR28).sl (by omega)).mono ?_)
   rintro u78 w29 ⟨x29,ho29⟩
   refine ⟨x29,?_⟩
   have hR29:=hR28.x x29
   refine iRetQ (fun w' x'=>i2 _ (Nat.le_refl _) hok (by omega) hG (by omega) (hv1' (hR29.x x')).sl (hv2' (hR29.x x')).rd) ?_
   refine lP rfl hpz.cell ho29.cell rfl rfl ?_
   intro w30 x30
   refine iBs15 fun q31 w31 hq31 x31 hB31=>?_
   intro w32 x32
   have y32:=(x30.trans x31).trans x32
   have x532:=((x6.trans x28).trans x29).trans y32
   have hN32:=hN.ext x532
   have hR32:=hR29.x y32
   refine IK f7 gD rfl (by decide) hN32.row (hB31.ext x32) rfl (fun u hu=>?_) (by rw [List.length_append];omega) (by rw [List.length_append];omega) (Nat.le_trans hlo hR32.size) fun v' w33 ho33 _ hc33 _=>?_
   ·simp only [List.mem_cons,List.not_mem_nil,or_false] at hu
    rcases hu with rfl | rfl | rfl | rfl | rfl
    ·rfl
    ·exact hpz.cell
    ·exact ho29.cell
    ·rfl
    ·rfl
   intro w34 x34
   have hty:∀ c,s.ownBlock = some c → TyR lo w32 c:=fun c hc=>by
    obtain ⟨cur,hh⟩:=OwK.ty hN32.row hc
    exact ⟨(OwK.blk hN32.row c hc).1,cur.toList,by unfold Blk;rw [hh]⟩
   have hR33:RCh lo w32 w33:=hc33.mono fun c hc=>hty c hc
   have ow:∀ {lo':Nat} {e:TypeId} {u:Value} {xs:List Value},Ow lo' e w32 u xs → e ≠ aC → Ow 0 e w34 u xs:=fun h hne=>((Ow.rch h hR33 hne).ext x34).mono (Nat.zero_le _)
   refine ⟨(hR32.trans hR33).x x34,N ++ [⟨⟨(ruleL t.hd.kind:Int),Pr,G,tyR t G,(t.hd.num:Int)⟩,pz,u78⟩],?_,by rw [List.length_append,List.length_singleton];omega,fun x hx c hc=>?_⟩
   ·rw [← List.append_assoc]
    refine ⟨?_,fun x hx=>?_,fun x hx=>?_,fun x hx=>?_⟩
    ·have e:∀ (A:List DV) (x:DV),(A ++ [x]).length = A.length + 1:=fun A x=>by rw [List.length_append,List.length_singleton]
     rw [uY,e]
     exact OwK.ext ho33 x34
    ·rcases List.mem_append.1 hx with hx | hx
     ·exact ow (hN32.prem x hx) (by decide)
     ·rw [List.mem_singleton.1 hx];exact ow (hpz.ext x532) (by decide)
    ·rcases List.mem_append.1 hx with hx | hx
     ·exact ow (hN32.asm x hx) (by decide)
     ·rw [List.mem_singleton.1 hx];exact ow (ho29.ext y32) (by decide)
    ·rcases List.mem_append.1 hx with hx | hx
     ·exact hN32.small x hx
     ·rw [List.mem_singleton.1 hx];show Pr.length ≤ 3;omega
   ·rcases List.mem_append.1 hx with hx | hx
    ·exact hNn x hx c hc
    ·rw [List.mem_singleton.1 hx] at hc
     exact (hpz.blk c hc).1
theorem o6 {vc:Value} {bs:List Nat} {w:World} (hc:SlB w vc bs):Cal Tryz.prog iR #[vc] w fun r w'=>Ext w w' ∧ ∃ R,RdD w' r R ∧ ∀ x ∈ R,x.d.prem.length ≤ 4:=by
 apply qB;unfold iX
 refine iCall (Cal.mono (R:=fun r w'=>Ext w w' ∧ ∃ R,RdD w' r R ∧ ∀ x ∈ R,x.d.prem.length ≤ 4) ?_ fun r w' h=>h)
 apply tJ;unfold kL
 refine iCall ((JF hc).mono ?_)
 rintro _ w1 ⟨b,rfl,hS1⟩
 have hS1:Vc.Src eS w vc b w1:=hS1
 have draw:∀ {w':World},Vc.Src eS w vc b w' → callV Tryz.prog (.func (.func rD) #[] #[]) [.pointer (some ⟨b,0,none⟩)] w' fun r w''=>Ext w w'' ∧ ∃ R,RdD w'' r R ∧ ∀ x ∈ R,x.d.prem.length ≤ 4:=fun h=>by
  refine iCall ((JW hc h h.1.size).mono ?_)
  rintro r w'' ⟨h1,h2⟩
  exact ⟨h2.1,h1⟩
 refine iCall ((aG hc hS1 2).mono ?_)
 rintro _ w2 ⟨⟨q,rfl,_,_⟩,hS2,_⟩
 refine iEq (iCndP (fun _=>draw hS2) (fun _=>?_))
 refine iCall ((I2 hc hS2).mono ?_)
 rintro _ w4 ⟨⟨va,vt,G,L,rfl,hva,hGl,hvt,hLl⟩,hS4,_⟩
 refine iE20 (iE21 ?_)
 refine iJnX (fun xs w'=>∃ t:Bool,xs = [.bool t] ∧ Ext w4 w' ∧ (t = true → (∀ x ∈ G,PE x) ∧ L.length ≤ 60 ∧ (∀ n ∈ L,okR n = true) ∧ ∃ t:Tm,L = t.raw)) (fun J hJ=>?_) ?_
 ·refine iRet (zM hva.sl) fun w7 x7=>?_
  refine iCnd (fun hl=>?_) (fun _=>hJ _ _ ⟨false,rfl,x7,fun e=>by cases e⟩)
  have hG:∀ x ∈ G,plT x = true:=by
   rw [Bool.and_eq_true,List.all_eq_true] at hl
   exact hl.2
  have hGe:∀ x ∈ G,PE x:=fun x hx=>.inr (hG x hx)
  refine iCall ((PA (OwK.ext hvt x7).sl (by omega)).mono ?_)
  rintro _ w8 ⟨x8,b8,rfl,hb8⟩
  have X8:=x7.trans x8
  refine iCnd (fun hb=>?_) (fun _=>hJ _ _ ⟨false,rfl,X8,fun e=>by cases e⟩)
  obtain ⟨h60,hok,t,ht⟩:=hb8 hb
  subst ht
  refine iRet (i2 _ (Nat.le_refl _) hok (by omega) hGe (by omega) (hva.ext X8).sl (OwK.ext hvt X8).sl) fun w9 x9=>?_
  refine iNeT (b:=[]) (hJ _ _ ⟨_,rfl,X8.trans x9,fun _=>⟨hGe,h60,hok,t,rfl⟩⟩)
 rintro _ w6 ⟨t5,rfl,x6,ht5⟩
 intro _
 simp only [gx]
 have hS6:=hS4.later x6
 refine iCnd (fun hb=>?_) (fun _=>draw hS6)
 obtain ⟨hGe,h60,hok,t,rfl⟩:=ht5 hb
 refine iBs05 fun v30 w10 x10 ho10=>?_
 have X10:=x6.trans x10
 have hst:StP w6.heap.size w10 v30 []:=⟨ho10,fun x hx=>(by cases hx),fun x hx=>(by cases hx),fun x hx=>(by cases hx)⟩
 refine iCall ((vT _ (Nat.le_refl _) hok h60 hGe (by omega) hst x10.size (by simp only [List.length_nil];omega) (hva.ext X10) ⟨vt,_,OwK.ext hvt X10,fun _ h=>h⟩).mono ?_)
 rintro r w11 ⟨hR,N,hN,_,_⟩
 rw [List.nil_append] at hN
 exact ⟨(hS6.1.trans x10).thenCh hR fun c hc=>Nat.le_trans hS6.1.size hc.1,N,hN.rd,fun x hx=>by have:=hN.small x hx;omega⟩
end Go.Proofs.YtkjoppimpmojfaaGreat

namespace Go.Vc
theorem Sl.cell {w:World} {v:Value} {xs:List Value} (h:Sl w v xs):aD v = true:=by
 obtain ⟨_,_,h,_⟩:=h
 rw [h];rfl
end Go.Vc
namespace Go.Proofs.YtkjoppimpmojfaaGreat
open Go.Vc
theorem Q4 {vc:Value} {w:World} {bs:List Nat} (hc:SlB w vc bs):Ret Tryz.prog MA #[vc] w (.bool (decide ((4096:Int) < (bs.length:Nat)))):=by
 apply SF;unfold KL
 refine iLenB hc ?_
 refine iLt ?_
 exact ⟨rfl,Ext.refl _⟩
theorem I9 {v v':Value} {w:World} {l l':List Int} (hs:SlI w v l) (hs':SlI w v' l'):Ret Tryz.prog yI #[v,v'] w (.bool (decide (l = l'))):=by
 apply LK;unfold yD
 have hl:=hs.len
 have hl':=hs'.len
 ((with_reducible refine iLenI (by assumption) ?_;refine iLenI (by assumption) ?_;refine iNe ?_))
 refine iCndP (fun h=>?_) (fun h=>?_)
 ·rw [decide_eq_false (fun e=>h (by rw [e]))]
  exact ⟨rfl,Ext.refl _⟩
 ·have h:l.length = l'.length:=by omega
  refine iLp (fun k:Nat=>[.int .i64 (k:Int)]) (fun k w'=>k ≤ l.length ∧ Ext w w' ∧ l.take k = l'.take k) (fun k=>l.length - k) 0 rfl ⟨Nat.zero_le _,Ext.refl _,by simp⟩ ?_
  rintro k w2 Kn ⟨hk,h2,he⟩ hKn
  have hs2:=hs.ext h2
  have hs2':=hs'.ext h2
  (intro _;(try simp only [gx]);(with_reducible refine iLenI (by assumption) ?_;refine iLt ?_))
  refine iCndP (fun h3=>?_) (fun h3=>?_)
  ·have hk1:k < l.length:=by omega
   have hk2:k < l'.length:=by omega
   have e1:l.getD k 0 = l[k]:=by simp [List.getD_eq_getElem?_getD,hk1]
   have e2:l'.getD k 0 = l'[k]:=by simp [List.getD_eq_getElem?_getD,hk2]
   ((with_reducible refine iIaN (by assumption) ?_ (fun pa_ hpa_=>?_));omega;(with_reducible refine iLd (by assumption) ?_);(with_reducible refine iIaN (by assumption) ?_ (fun pa_ hpa_=>?_));omega;(with_reducible refine iLd (by assumption) ?_;refine iNe ?_))
   rw [e1,e2]
   intro w3 h4
   refine iCndP (fun h5=>?_) (fun h5=>?_)
   ·rw [decide_eq_false (fun e=>by subst e;exact h5 rfl)]
    exact ⟨rfl,h2.trans h4⟩
   ·(refine iAdd (by omega) ?_)
    refine hKn (k + 1) _ ⟨by omega,h2.trans h4,?_⟩ (by omega)
    rw [List.take_succ_eq_append_getElem hk1,List.take_succ_eq_append_getElem hk2,he]
    congr 2
    exact Classical.not_not.1 h5
  ·obtain rfl:k = l.length:=by omega
   rw [List.take_length,h,List.take_length] at he
   rw [decide_eq_true he]
   exact ⟨rfl,h2⟩
end Go.Proofs.YtkjoppimpmojfaaGreat

namespace Go.Vc
def outD (P:List Ded):Int × List Inf:=if codeD P = 0 then (if limD (seqD P P.length).1 then (0,(seqD P P.length).1) else (3,[])) else (codeD P,[])
end Go.Vc
namespace Go.Proofs.YtkjoppimpmojfaaGreat
open Go.Vc
theorem G1 {v fv:Value} {R:List IV} {p:Inf → Bool} {w:World} (hs:SlK 5 w v R.length (cA R)) (hf:∀ x ∈ R,∀ w',Ext w w' → callV Tryz.prog fv [.agg x.cs.toArray] w' fun u w''=>u = .bool (p x.i) ∧ Ext w' w''):
  Ret Tryz.prog cF #[v,fv] w (.bool ((R.map IV.i).any p)):=by
 have hln:=hs.len
 apply fW;unfold cG
 refine iCall (Cal.mono (R:=fun r w'=>Ext w w' ∧ ∃ z:Int,r = .int .i64 z ∧ (decide (0 ≤ z) = (R.map IV.i).any p)) ?_ ?_)
 ·apply gM;unfold cZ
  refine iLenK hs ?_
  refine iLp (fun i:Nat=>[.int .i64 (i:Int)]) (fun i w'=>i ≤ R.length ∧ Ext w w' ∧ ∀ j,j < i → p (gt R j).i = false) (fun i=>R.length - i) 0 rfl ⟨Nat.zero_le _,Ext.refl _,fun j hj=>absurd hj (Nat.not_lt_zero _)⟩ ?_
  rintro i w2 Kn ⟨hi,h2,hno⟩ hKn
  intro _
  simp only [gx]
  refine iLt (iCndP (fun h=>?_) (fun h=>?_))
  ·have hil:i < R.length:=by omega
   have hm:gt R i ∈ R:=by rw [gt_eq hil];exact List.getElem_mem _
   refine iAt5 (SlK.ext hs h2) rfl hil ?_
   refine (hf _ hm w2 h2).mono ?_
   rintro u w3 ⟨rfl,x3⟩
   refine iCnd (fun h3=>?_) (fun h3=>?_)
   ·refine ⟨h2.trans x3,_,rfl,?_⟩
    rw [decide_eq_true (by omega)]
    exact (List.any_eq_true.2 ⟨(gt R i).i,List.mem_map.2 ⟨_,hm,rfl⟩,h3⟩).symm
   ·refine iAdd (by omega) (hKn (i + 1) _ ⟨by omega,h2.trans x3,fun j hj=>?_⟩ (by omega))
    by_cases e:j = i
    ·subst e;exact h3
    ·exact hno j (by omega)
  ·refine ⟨h2,-1,rfl,?_⟩
   rw [decide_eq_false (by decide)]
   symm
   rw [List.any_eq_false]
   intro g hg
   obtain ⟨x,hx,rfl⟩:=List.mem_map.1 hg
   obtain ⟨j,hj,rfl⟩:=List.getElem_of_mem hx
   have:=hno j (by omega)
   rw [gt_eq hj] at this
   simp [this]
 ·rintro r w1 ⟨h1,z,rfl,hz⟩
  refine iLe ?_
  rw [hz]
  exact ⟨by first | trivial | rfl,h1⟩
theorem D1 {v:Value} {R:List IV} {w:World} (h:RdI w v R):Ret Tryz.prog qS #[v] w (.bool (!(R.map IV.i).all fun x=>decide (x.left.length ≤ 12))):=by
 apply FN;unfold qM
 refine iRet (G1 (p:=fun x=>!decide (x.left.length ≤ 12)) h.row fun x hx w' x'=>iClo rfl ?_) fun w1 x1=>⟨?_,x1⟩
 ·show Cal Tryz.prog oP #[.agg x.cs.toArray] w' _
  apply AO;unfold oN
  refine iNew5 fun q1 w1 hq1 x1 hB1=>?_
  have hB1:Blk aT w1 q1 [.int .i64 (x.i.rule:Int),x.vp,x.vl,sv x.i.right,sv x.i.main]:=hB1
  have hl:=(h.left x hx).ext (x'.trans x1)
  refine iFa (iLdB hB1 (i:=2) (v:=x.vl) rfl (iLenS hl (iLt ⟨?_,x1⟩)))
  rw [aI,← decide_not]
  congr 1
  exact decide_eq_decide.2 (by omega)
 ·rw [List.any_eq_not_all_not]
  simp
end Go.Proofs.YtkjoppimpmojfaaGreat

namespace Go.Proofs.YtkjoppimpmojfaaGreat
open Go.Vc
abbrev SMl (l0:Nat) (w:World) (b:Nat) (zs:List Value) (Q:List IV):Prop:=SM 56 l0 w b [] zs Q
theorem MU {l0 b:Nat} {w:World} {vl vq:Value} {zs:List Value} {Q:List IV} (hM:SMl l0 w b zs Q) {rule:Nat} {L:List Str} {ps:List Nat} {c main:Str} (hl:TxW 0 w vl L) (hp:Ow 0 t_i64 w vq (ints (nats ps))) (hL:L.length ≤ 1000000) (hP:ps.length ≤ 1000000) (hQ:Q.length ≤ 1000000):
  Cal Tryz.prog eM #[bp b,.int .i64 (rule:Int),vl,sv c,sv main,vq] w fun u w'=>u = .int .i64 (Q.length:Int) ∧ SCh l0 b w w' ∧ ∃ x:IV,x.i = ⟨rule,ps,L,c,main⟩ ∧ SMl l0 w' b zs (Q ++ [x]):=by
 obtain ⟨hlo,vp,hB,hO,hSe⟩:=hM
 apply PM;unfold EH
 refine iNil (iFa (iLdB hB (i:=0) (v:=vp) rfl ?_))
 intro w1 x1
 refine iCall ((NS (Ow.ext hp x1).sl (by rw [eA];omega)).mono ?_)
 rintro rp w2 ⟨x2,hrp⟩
 refine ⟨x2,fun w3 x3=>?_⟩
 refine iCall ((i9 (hl.ext ((x1.trans x2).trans x3)).sl (by omega)).mono ?_)
 rintro rl w4 ⟨x4,hrl⟩
 refine ⟨x4,lP rfl hrp.cell hrl.cell rfl rfl ?_⟩
 intro w5 x5
 refine iBs15 fun bb w6 hbb x6 hB6=>⟨x6,fun w7 x7=>?_⟩
 have X1:Ext w w4:=((x1.trans x2).trans x3).trans x4
 have x47:=(x5.trans x6).trans x7
 have X7:=X1.trans x47
 have hO7:=hO.ext X7
 have hB7:=hB.ext X7
 have hwl:l0 ≤ w.heap.size:=Nat.le_trans hlo (Nat.le_of_lt hB.lt)
 have hrp7:Ow l0 t_i64 w7 rp (ints (nats ps)):=(hrp.ext ((x3.trans x4).trans x47)).mono (Nat.le_trans hwl x1.size)
 have hrl7:Ow l0 aB w7 rl (strs L):=(hrl.ext x47).mono (Nat.le_trans hwl ((x1.trans x2).trans x3).size)
 have hsl:SlK 5 w7 (.slice (some ⟨bb,0,none⟩) 1 1) 1 (IV.cs ⟨⟨rule,ps,L,c,main⟩,rp,rl⟩):=SlK.ofBlk (hB6.ext x7) rfl (by decide)
 refine iAppK uK tV rfl (by decide) hO7.row hsl (fun y hy=>by
  simp only [IV.cs,List.mem_cons,List.not_mem_nil,or_false] at hy
  rcases hy with rfl | rfl | rfl | rfl | rfl
  ·rfl
  ·exact hrp.cell
  ·exact hrl.cell
  ·rfl
  ·rfl) (by omega) (by omega) (Nat.le_trans hwl X7.size) fun vp' w8 hrow8 hg8 hat8=>?_
 have hch8:=dG (S:=fun k=>vp.ownBlock = some k) hg8 fun k hk=>hk
 have hB8:=hB7.grown hg8 (fun e=>GX hO7.row hB7 (by decide) e)
 have hO8:OwI l0 w8 vp' (Q ++ [⟨⟨rule,ps,L,c,main⟩,rp,rl⟩]):=hO7.snoc hg8 hrow8 hrp7 hrl7 (fun j hj k hk hk'=>by
  have h1:=((hO.prem j hj).blk k hk).2
  have h2:=(hrp.blk k hk').1
  have:=x1.size
  omega) (fun j hj k hk hk'=>by
  have h1:=((hO.left j hj).blk k hk).2
  have h2:=(hrl.blk k hk').1
  have:=((x1.trans x2).trans x3).size
  omega)
 refine iNil (iFa ?_)
 intro w9 x9
 have hB9:=hB8.ext x9
 refine iStB (i:=0) hB9 (by simp) hrow8.cell fun hB10=>?_
 have hch10:=(Upd.setCell w9 b 0 vp').ch (S:=fun k=>k = b) rfl
 generalize w9.setCell ⟨b,0,none⟩ vp' = w10 at *
 intro w11 x11
 have hB10:Blk 56 w10 b [vp']:=hB10
 have hO9:=hO8.ext x9
 have ne9:∀ {e:TypeId} {k:Nat} {xs:List Value} {u:Value},e ≠ 56 → Ow l0 e w9 u xs → Ow l0 e w10 u xs:=fun hne h=>h.ch hch10 fun c hc hS=>h.ne_blk hB9 hne (by have hS:c = b:=hS;rw [hc,hS])
 have hO10:OwI l0 w10 vp' (Q ++ [⟨⟨rule,ps,L,c,main⟩,rp,rl⟩]):=⟨OwK.ch hO9.row hch10 fun k hk hS=>GX hO9.row hB9 (by decide) (by have hS:k = b:=hS;rw [hk,hS]),fun j hj=>ne9 (k:=0) (by decide) (hO9.prem j hj),fun j hj=>ne9 (k:=0) (by decide) (hO9.left j hj),hO9.dp,hO9.dl⟩
 have hO11:=hO10.ext x11
 have hB11:=hB10.ext x11
 refine iNil (iFa (iLdB hB11 (i:=0) (v:=vp') rfl ?_))
 refine iLenK hO11.row.sl ?_
 rw [List.length_append,List.length_singleton]
 refine iSub (by omega) ?_
 have hfin:=((((SCh.ext (b:=b) X7).trans (SCh.row hO7.row hch8)).trans (SCh.ext x9)).trans (SCh.blk hch10)).trans (SCh.ext x11)
 refine ⟨by congr 1;omega,hfin,_,rfl,hlo,vp',hB11,hO11,hSe.snoc hfin.size fun c hc=>Nat.le_trans x1.size (hrp.blk c hc).1⟩
end Go.Proofs.YtkjoppimpmojfaaGreat

namespace Go.Vc
theorem RF.cnt {P:List Ded} {s:Ded} (h:RF P s):cV s.rule = (s.prem.length:Int):=by
 unfold cV
 cases h with
 | r1 e ep=>rw [if_pos e,ep];rfl
 | r2 _ e ep=>rw [if_neg (by omega),if_pos (by omega),ep];rfl
 | r3 _ _ _ e ep=>rw [if_neg (by omega),if_neg (by omega),if_pos (by omega),ep];rfl
 | r4 _ _ e ep=>rw [if_neg (by omega),if_pos (by omega),ep];rfl
 | r5 _ _ e ep=>rw [if_neg (by omega),if_pos (by omega),ep];rfl
 | r6 _ _ e ep=>rw [if_neg (by omega),if_pos (by omega),ep];rfl
 | r7 _ _ e ep=>rw [if_neg (by omega),if_pos (by omega),ep];rfl
 | r8 _ _ _ _ e ep=>rw [if_neg (by omega),if_neg (by omega),if_neg (by omega),if_pos e,ep];rfl
 | r9 _ _ e ep=>rw [if_neg (by omega),if_pos (by omega),ep];rfl
 | r10 _ _ _ e ep=>rw [if_neg (by omega),if_neg (by omega),if_pos (by omega),ep];rfl
end Go.Vc
namespace Go.Proofs.YtkjoppimpmojfaaGreat
open Go.Vc
def MadeL (l0 b:Nat) (zs:List Value) (Q:List IV) (M:List Inf) (w:World):Value → World → Prop:=fun u w'=>SCh l0 b w w' ∧ ∃ RQ:List IV,RQ.map IV.i = M ∧ SMl l0 w' b zs (Q ++ RQ) ∧ u = .int .i64 ((Q.length + M.length - 1:Nat):Int)
theorem wW (L:List Str) (t:Str):Inc (addT L t):=gV _
theorem KE {l0 b:Nat} {w:World} {v1 v3:Value} {zs:List Value} {Q:List IV} {R:List DV} {j:Nat} {g:List Nat} {a:Str} (hM:SMl l0 w b zs Q) (hR:RdD w v1 R) (hj:j < R.length) (hall:∀ i,i < R.length → goodD (R.map DV.d) i = true) (hg:Ow 0 t_i64 w v3 (ints (nats g))) (hgl:g.length = (gt R j).d.prem.length) (ha:(gt (R.map DV.d) (gt (gt R j).d.prem 0).toNat).con = a) (hQ:Q.length ≤ 10000):
  Cal Tryz.prog CD #[bp b,v1,.agg (gt R j).cs.toArray,v3] w (MadeL l0 b zs Q (makeD Q.length (gt R j).d g a) w):=by
 have hmem:gt R j ∈ R:=by rw [gt_eq hj];exact List.getElem_mem hj
 have hx:=hR.prem _ hmem
 have hxl:=hR.asm _ hmem
 obtain ⟨hsh,hin,hrf⟩:=eP (hall j hj)
 have hplt:∀ i,i < R.length → plT (gt R i).d.con = true:=fun i hi=>by
  have:=(eP (hall i hi)).1
  rw [gP hi] at this
  exact (eQ this).2.2
 rw [gP hj] at hsh hin hrf
 obtain ⟨hL,hpl,hcp⟩:=eQ hsh
 have hxl:SlT w (gt R j).vl (gt R j).d.asm:=hxl
 generalize gt R j = x at *
 have con:∀ {q:Int},gt x.d.prem 0 = q → (gt (R.map DV.d) q.toNat).con = a:=fun e=>by rw [← e];exact ha
 have hinm:∀ q ∈ x.d.prem,0 ≤ q ∧ q.toNat < R.length:=fun q hq=>by
  obtain ⟨h1,h2⟩:=A3 hin hq
  omega
 obtain ⟨hlo,vp,hB,hO⟩:=id hM
 have ad:∀ {w':World} {Q':List IV} {rule:Nat} {v v2:Value} {L:List Str} {ps:List Nat} {c main:Str} {K:Value → World → Prop},SMl l0 w' b zs Q' → TxW 0 w' v L → Ow 0 t_i64 w' v2 (ints (nats ps)) → L.length ≤ 100 → ps.length ≤ 100 → Q'.length ≤ 200000 → (∀ w'' x',SCh l0 b w' w'' → x'.i = ⟨rule,ps,L,c,main⟩ → SMl l0 w'' b zs (Q' ++ [x']) → K (.int .i64 ((Q'.length:Nat):Int)) w'') → callV Tryz.prog (.func (.func eM) #[] #[]) [bp b,.int .i64 (rule:Int),v,sv c,sv main,v2] w' K:=fun {w' Q' rule v v2 L ps c main K} h1 h2 h3 h4 h5 h6 h=>by
  refine iCall ((MU h1 h2 h3 (by omega) (by omega) (by omega)).mono ?_)
  rintro _ w'' ⟨rfl,hs,x',hx',hM'⟩
  exact h w'' x' hs hx' hM'
 have kp:∀ {w' w'':World} {Q':List IV} {e:TypeId} {u:Value} {xs:List Value},SMl l0 w' b zs Q' → SCh l0 b w' w'' → e ≠ 56 → e ≠ aT → Ow 0 e w' u xs → Ow 0 e w'' u xs:=fun h1 h2 h3 h4 h=>by
  obtain ⟨-,vp,hBm,-⟩:=h1
  exact Ow.sch h h2 hBm h3 h4
 have two:∀ {w':World} {c:Nat} {m n:Nat},Blk t_i64 w' c [.int .i64 (m:Int),.int .i64 (n:Int)] → Ow 0 t_i64 w' (.slice (some ⟨c,0,none⟩) 2 2) (ints (nats [m,n])):=fun h=>Ow.ofBlk (n:=2) h (Nat.zero_le _) rfl (by decide)
 have one:∀ {w':World} {c:Nat} {m:Nat},Blk t_i64 w' c [.int .i64 (m:Int)] → Ow 0 t_i64 w' (.slice (some ⟨c,0,none⟩) 1 1) (ints (nats [m])):=fun h=>Ow.ofBlk (n:=1) h (Nat.zero_le _) rfl (by decide)
 have ins:∀ {w':World} {v:Value} {L:List Str} {t:Str} {K:Value → World → Prop},TxW 0 w' v L → Inc L → L.length ≤ 100 → (∀ u w'',Ext w' w'' → TxW 0 w'' u (addT L t) → K u w'') → callV Tryz.prog (.func (.func e7) #[] #[]) [v,sv t] w' K:=fun {w' v L t K} h1 h2 h3 h=>by
  refine iCall ((tU (t:=t) h1 (Nat.zero_le _) (by omega)).mono ?_)
  rintro u w'' ⟨x',hu⟩
  refine h u w'' x' ?_
  rw [UZ h2]
  exact hu.mono (Nat.zero_le _)
 apply ML;unfold BE
 refine iNew5 fun q1 w1 hq1 x1 hB1=>?_
 have hB1:Blk aC w1 q1 [.int .i64 x.d.rule,x.vp,x.vl,sv x.d.con,.int .i64 x.d.num]:=hB1
 refine iFa (iLdB hB1 (i:=2) (v:=x.vl) rfl ?_)
 refine iFa (iLdB hB1 (i:=3) (v:=sv x.d.con) rfl ?_)
 intro w2 x2
 refine iCall ((MV (Sl.ext hxl (x1.trans x2)) (by omega)).mono ?_)
 rintro v30 w3 ⟨x3,hl3⟩
 refine ⟨x3,fun w4 x4=>?_⟩
 have X4:=((x1.trans x2).trans x3).trans x4
 have x14:=(x2.trans x3).trans x4
 have hl4:TxW 0 w4 v30 (setT x.d.asm):=(Ow.ext hl3 x4).mono (Nat.zero_le _)
 have hB14:=hB1.ext x14
 have pm:∀ {i:Nat} {w':World} {K:Value → Prop},Ext w w' → i < x.d.prem.length → K (sv (gt (R.map DV.d) (gt x.d.prem i).toNat).con) → xIa 1 x.vp (.int .i64 (i:Int)) fun p=>xLd w' p fun v41=>xIa 5 v1 v41 fun v42=>xFa 3 v42 fun v43=>xLd w' v43 K:=fun {i w' K} X hi h=>by
  refine iIaN (SlI.ext hx X) hi fun p hp=>iLd hp ?_
  have e:x.d.prem.getD i 0 = gt x.d.prem i:=rfl
  rw [e]
  have hq:=hinm (gt x.d.prem i) (by rw [gt_eq hi];exact List.getElem_mem hi)
  generalize gt x.d.prem i = q at *
  obtain ⟨m,rfl⟩:=Int.eq_ofNat_of_zero_le hq.1
  rw [Int.toNat_natCast] at h hq
  rw [gP hq.2] at h
  exact iFld5 (hR.ext X).row hq.2 (by decide) (iQ hq.2 3 (by decide)) h
 refine iFa (iLdB hB14 (i:=1) (v:=x.vp) rfl (iLenI (SlI.ext hx X4) (iLt ?_)))
 refine iJnX (fun xs w'=>xs = [sv (if 1 ≤ x.d.prem.length then a else [])] ∧ w' = w4) (fun J hJ=>?_) ?_
 ·refine iCndP (fun h=>?_) (fun h=>?_)
  ·rw [if_pos (by omega)] at hJ
   refine iFa (iLdB hB14 (i:=1) (v:=x.vp) rfl ?_)
   refine pm (i:=0) X4 (by omega) ?_
   rw [ha]
   exact hJ _ _ ⟨rfl,rfl⟩
  ·rw [if_neg (by omega)] at hJ
   exact hJ _ _ ⟨rfl,rfl⟩
 rintro _ w6 ⟨rfl,rfl⟩
 intro _
 simp only [gx]
 show callV Tryz.prog (.func (.func e7) #[] #[]) [v30,sv (if 1 ≤ x.d.prem.length then a else [])] w6 _
 have hSl:(setT x.d.asm).length ≤ 12:=Nat.le_trans (mD _) hL
 have hama:1 ≤ x.d.prem.length → (if 1 ≤ x.d.prem.length then a else []) = a:=fun h=>if_pos h
 generalize (if 1 ≤ x.d.prem.length then a else []) = am at *
 refine ins hl4 (gV _) (by omega) fun v47 w7 x7 hW=>?_
 have X7:=X4.trans x7
 have hl7:=Ow.ext hl4 x7
 have hM7:=hM.ext X7
 have hg7:=hg.ext X7
 have hB17:=hB14.ext x7
 have hWl:(addT (setT x.d.asm) am).length ≤ 13:=by have:=oK (setT x.d.asm) am;omega
 have hx7:=SlI.ext hx X7
 have mk:∀ {P:Prop} [Decidable P] {A B:List Inf},P → (if P then A else B) = A:=fun h=>if_pos h
 have mn:∀ {P:Prop} [Decidable P] {A B:List Inf},¬ P → (if P then A else B) = B:=fun h=>if_neg h
 have fin:∀ {w' w'':World} {rule:Nat} {ps:List Nat} {v2:Value} {K:Value → World → Prop},Ext w7 w' → Ow 0 t_i64 w' v2 (ints (nats ps)) → ps.length ≤ 100 → makeD Q.length x.d g a = [⟨rule,ps,setT x.d.asm,x.d.con,[]⟩] → (∀ u w'',MadeL l0 b zs Q (makeD Q.length x.d g a) w u w'' → K u w'') → callV Tryz.prog (.func (.func eM) #[] #[]) [bp b,.int .i64 (rule:Int),v30,sv x.d.con,.string ⟨#[]⟩,v2] w' K:=fun {w' w'' rule ps v2 K} X h1 h2 h3 h4=>by
  refine ad (main:=[]) (hM7.ext X) (Ow.ext hl7 X) h1 (by omega) (by omega) (by omega) fun w'' x' hs hx' hM'=>h4 _ _ ?_
  refine ⟨(SCh.ext (X7.trans X)).trans hs,[x'],?_,hM',?_⟩
  ·rw [h3,List.map_singleton,hx']
  ·rw [h3];rfl
 refine iFa (iLdB hB17 (i:=0) (v:=.int .i64 x.d.rule) rfl ?_)
 refine iEq (iCndP (fun h1=>?_) (fun h1=>?_))
 ·exact fin (w'':=w7) (rule:=1) (ps:=[]) (Ext.refl _) (Ow.nil _ _ _) (by simp) (by unfold makeD;exact mk h1) fun u w'' h=>h
 have hcnt:=hrf.cnt
 have hone:x.d.rule = 2 ∨ x.d.rule = 4 ∨ x.d.rule = 5 ∨ x.d.rule = 6 ∨ x.d.rule = 7 ∨ x.d.rule = 9 → x.d.prem.length = 1:=fun h=>by
  unfold cV at hcnt;rw [if_neg h1,if_pos h] at hcnt;omega
 have htwo:x.d.rule = 3 ∨ x.d.rule = 10 → x.d.prem.length = 2:=fun h=>by
  unfold cV at hcnt;rw [if_neg h1,if_neg (by omega),if_pos h] at hcnt;omega
 have hthr:x.d.rule = 8 → x.d.prem.length = 3:=fun h=>by
  unfold cV at hcnt;rw [if_neg h1,if_neg (by omega),if_neg (by omega),if_pos h] at hcnt;omega
 have hprem:1 ≤ x.d.prem.length:=by
  by_cases h:x.d.prem.length = 0
  ·rw [h] at hcnt
   unfold cV at hcnt
   rw [if_neg h1] at hcnt
   split at hcnt
   ·omega
   ·split at hcnt
    ·omega
    ·split at hcnt <;> omega
  ·omega
 have hama:=hama hprem
 subst hama
 have g1:g.length = 1 → g = [gt g 0]:=fun h=>by
  match g,h with
  | [m],_=>rfl
 refine iEq (iCndP (fun h3=>?_) (fun h3=>?_))
 ·have hg2:g.length = 2:=hgl.trans (htwo (.inl h3))
  have hge:g = [gt g 0,gt g 1]:=by
   match g,hg2 with
   | [m,n],_=>rfl
  refine iJnX (fun xs w'=>∃ u,xs = [u] ∧ MadeL l0 b zs Q (makeD Q.length x.d g am) w u w') (fun J hJ=>?_) ?_
  ·refine iIaG1 (j:=0) hg7 (by omega) (iIaG1 (j:=1) hg7 (by omega) ?_)
   intro w11 x11
   refine iBs2 rfl rfl rfl fun c w12 _ x12 hB12=>?_
   intro w13 x13
   have xx:=(x11.trans x12).trans x13
   refine fin (w'':=w7) (rule:=4) xx (two (hB12.ext x13)) (by simp) (by rw [← hge];unfold makeD;exact (mn h1).trans ((mn (by omega)).trans (mk h3))) fun u w'' h=>?_
   obtain ⟨e1,RQ,e2,e3,e4⟩:=h
   intro w15 x15
   exact hJ _ _ ⟨u,rfl,e1.trans (SCh.ext x15),RQ,e2,e3.ext x15,e4⟩
  ·rintro _ w' ⟨u,rfl,h⟩
   exact fun _=>h
 refine iEq (iCndP (fun h6=>?_) (fun h6=>?_))
 ·have hge:=g1 (hgl.trans (hone (by omega)))
  refine iIaG1 (j:=0) hg7 (by omega) ?_
  refine iBs1 rfl rfl fun c w12 _ x12 hB12=>?_
  exact fin (w'':=w7) (rule:=6) x12 (one hB12) (by simp) (by rw [← hge];unfold makeD;exact (mn h1).trans ((mn (by omega)).trans ((mn h3).trans ((mn (by omega)).trans (mk h6))))) fun u w'' h=>h
 refine iEq (iCndP (fun h7=>?_) (fun h7=>?_))
 ·have hge:=g1 (hgl.trans (hone (by omega)))
  refine iIaG1 (j:=0) hg7 (by omega) ?_
  refine iBs1 rfl rfl fun c w12 _ x12 hB12=>?_
  exact fin (w'':=w7) (rule:=7) x12 (one hB12) (by simp) (by rw [← hge];unfold makeD;exact (mn h1).trans ((mn (by omega)).trans ((mn h3).trans ((mn (by omega)).trans ((mn h6).trans (mk h7)))))) fun u w'' h=>h
 refine iEq (iCndP (fun h9=>?_) (fun h9=>?_))
 ·have hge:=g1 (hgl.trans (hone (by omega)))
  refine iIaG1 (j:=0) hg7 (by omega) ?_
  refine iBs1 rfl rfl fun c w12 _ x12 hB12=>?_
  exact fin (w'':=w7) (rule:=9) x12 (one hB12) (by simp) (by rw [← hge];unfold makeD;exact (mn h1).trans ((mn (by omega)).trans ((mn h3).trans ((mn (by omega)).trans ((mn h6).trans ((mn h7).trans ((mn (by omega)).trans (mk h9)))))))) fun u w'' h=>h
 -- the last inference: a cut
 have cut:∀ {w':World} {M:List Inf} {RQ:List IV} {K:Value → World → Prop},0 < M.length → M.length ≤ 3 → makeD Q.length x.d g am = M ++ [⟨11,[gt g 0,Q.length + M.length - 1],setT x.d.asm,x.d.con,am⟩] → RQ.map IV.i = M → SCh l0 b w7 w' → SMl l0 w' b zs (Q ++ RQ) → (∀ u w'',MadeL l0 b zs Q (makeD Q.length x.d g am) w u w'' → K u w'') →
   xIa 1 v3 (.int .i64 0) fun p=>xLd w' p fun v=>xBs t_i64 (Value.cells (.int .i64 0)) 1 2 [(0,v),(1,.int .i64 ((Q.length + M.length - 1:Nat):Int))] w' fun u2 w2=>callV Tryz.prog (.func (.func eM) #[] #[]) [bp b,.int .i64 11,v30,sv x.d.con,sv am,u2] w2 K:=fun {w' M RQ K} h0 h3 hm hR hs hM' h=>by
  have hRl:RQ.length = M.length:=by rw [← hR,List.length_map]
  refine iIaG1 (j:=0) (kp hM7 hs (by decide) (by decide) hg7) (by omega) ?_
  refine iBs2 rfl rfl rfl fun c w13 _ x13 hB13=>?_
  refine ad (rule:=11) (hM'.ext x13) (Ow.ext (kp hM7 hs (by decide) (by decide) hl7) x13) (two hB13) (by omega) (by simp) (by rw [List.length_append];omega) fun w14 x' hs14 hx' hM14=>h _ _ ?_
  refine ⟨((SCh.ext X7).trans (hs.trans (SCh.ext x13))).trans hs14,RQ ++ [x'],?_,by rw [← List.append_assoc];exact hM14,?_⟩
  ·rw [hm,List.map_append,hR,List.map_singleton,hx']
  ·rw [hm]
   simp only [List.length_append,List.length_singleton,hRl]
   congr 2
 refine iEq (iCndP (fun h2=>?_) (fun h2=>?_))
 ·have hF:am = Fm.fls.body:=by
   cases hrf with
   | r2 q _ ep e=>rw [← con (q:=q) (by rw [ep];rfl)];exact congrArg Prod.snd e
   | r1 e=>exact absurd e h1
   | r3 _ _ _ e=>exact absurd e h3
   | r4 _ _ e=>omega
   | r5 _ _ e=>omega
   | r6 _ _ e=>exact absurd e h6
   | r7 _ _ e=>exact absurd e h7
   | r8 _ _ _ _ e=>omega
   | r9 _ _ e=>exact absurd e h9
   | r10 _ _ _ e=>omega
  have hmk:makeD Q.length x.d g am = [⟨2,[],addT (setT x.d.asm) am,x.d.con,[]⟩] ++ [⟨11,[gt g 0,Q.length],setT x.d.asm,x.d.con,am⟩]:=by
   rw [hF];unfold makeD;exact (mn h1).trans (mk h2)
  refine ad (rule:=2) (ps:=[]) (main:=[]) hM7 hW (Ow.nil _ _ _) (by omega) (by simp) (by omega) fun w22 y hs hy hM22=>?_
  exact cut (M:=[⟨2,[],addT (setT x.d.asm) am,x.d.con,[]⟩]) (RQ:=[y]) (by simp) (by simp) hmk (by rw [List.map_singleton,hy]) hs hM22 fun u w'' h=>h
 refine iEq ?_
 refine iJnX (fun xs w'=>xs = [.bool (decide (x.d.rule = 4 ∨ x.d.rule = 5))] ∧ w' = w7) (fun J hJ=>?_) ?_
 ·refine iCndP (fun h4=>?_) (fun h4=>?_)
  ·rw [decide_eq_true (.inl h4)] at hJ
   exact hJ _ _ ⟨rfl,rfl⟩
  ·refine iEq (hJ _ _ ⟨?_,rfl⟩)
   rw [show decide (x.d.rule = 4 ∨ x.d.rule = 5) = decide (x.d.rule = 5) from decide_eq_decide.2 ⟨fun e=>e.resolve_left h4,.inr⟩]
 rintro _ w26 ⟨rfl,rfl⟩
 intro _
 show cnd (.bool (decide (x.d.rule = 4 ∨ x.d.rule = 5))) _ _
 have hpa:plT am = true:=by
  have hq:=hinm (gt x.d.prem 0) (by rw [gt_eq hprem];exact List.getElem_mem hprem)
  rw [← ha,gP hq.2]
  exact hplt _ hq.2
 refine iCndP (fun h45=>?_) (fun h45=>?_)
 ·obtain ⟨p,hp⟩:∃ p,parK am 2 = some p:=by
   cases hrf with
   | r4 q p e ep _ hp=>exact ⟨p,by rw [← con (q:=q) (by rw [ep];rfl)];exact hp⟩
   | r5 q p e ep _ hp=>exact ⟨p,by rw [← con (q:=q) (by rw [ep];rfl)];exact hp⟩
   | r1 e=>exact absurd e h1
   | r2 _ e=>exact absurd e h2
   | r3 _ _ _ e=>exact absurd e h3
   | r6 _ _ e=>exact absurd e h6
   | r7 _ _ e=>exact absurd e h7
   | r8 _ _ _ _ e=>omega
   | r9 _ _ e=>exact absurd e h9
   | r10 _ _ _ e=>omega
  refine sC hpa (k:=2) (.inl rfl) (fun e=>by rw [hp] at e;cases e) (fun p' e w27 x27=>?_)
  have e':p' = p:=by rw [hp] at e;cases e;rfl
  subst e'
  refine ins (Ow.ext hW x27) (wW _ _) (by omega) fun v127 w28 x28 h127=>?_
  have hl1:(addT (addT (setT x.d.asm) am) p'.1).length ≤ 14:=by have:=oK (addT (setT x.d.asm) am) p'.1;omega
  refine ins h127 (wW _ _) (by omega) fun v129 w29 x29 h129=>?_
  have hl2:(addT (addT (addT (setT x.d.asm) am) p'.1) p'.2).length ≤ 15:=by have:=oK (addT (addT (setT x.d.asm) am) p'.1) p'.2;omega
  have X29:=(x27.trans x28).trans x29
  refine ad (rule:=1) (ps:=[]) (main:=[]) (hM7.ext X29) h129 (Ow.nil _ _ _) (by omega) (by simp) (by omega) fun w30 y1 hs30 hy1 hM30=>?_
  have hW30:=kp (hM7.ext X29) hs30 (by decide) (by decide) (Ow.ext hW X29)
  refine iBs1 rfl rfl fun c w31 _ x31 hB31=>?_
  refine ad (rule:=3) (hM30.ext x31) (Ow.ext hW30 x31) (one hB31) (by omega) (by simp) (by rw [List.length_append];simp;omega) fun w32 y2 hs32 hy2 hM32=>?_
  have hmk:makeD Q.length x.d g am = [⟨1,[],addT (addT (addT (setT x.d.asm) am) p'.1) p'.2,x.d.con,[]⟩,⟨3,[Q.length],addT (setT x.d.asm) am,x.d.con,am⟩] ++ [⟨11,[gt g 0,Q.length + 1],setT x.d.asm,x.d.con,am⟩]:=by
   rw [KP h45 hp,UJ];rfl
  have:=cut (K:=MadeL l0 b zs Q (makeD Q.length x.d g am) w) (RQ:=[y1,y2]) (by simp) (by simp) hmk (by rw [List.map_cons,List.map_singleton,hy1,hy2]) (((SCh.ext X29).trans hs30).trans ((SCh.ext x31).trans hs32)) (by rw [List.append_assoc] at hM32;exact hM32) fun u w'' h=>h
  rw [List.length_append]
  exact this
 refine iEq (iCndP (fun h8=>?_) (fun h8=>?_))
 ·obtain ⟨p,hp⟩:∃ p,parK am 3 = some p:=by
   cases hrf with
   | r8 q q' q'' p e ep _ hp=>exact ⟨p,by rw [← con (q:=q) (by rw [ep];rfl)];exact hp⟩
   | r1 e=>exact absurd e h1
   | r2 _ e=>exact absurd e h2
   | r3 _ _ _ e=>exact absurd e h3
   | r4 _ _ e=>omega
   | r5 _ _ e=>omega
   | r6 _ _ e=>exact absurd e h6
   | r7 _ _ e=>exact absurd e h7
   | r9 _ _ e=>exact absurd e h9
   | r10 _ _ _ e=>omega
  have hg3:g.length = 3:=hgl.trans (hthr h8)
  refine sC hpa (k:=3) (.inr (.inl rfl)) (fun e=>by rw [hp] at e;cases e) (fun p' e w35 x35=>?_)
  have e':p' = p:=by rw [hp] at e;cases e;rfl
  subst e'
  have weak:∀ {w0:World} {Q0:List IV} {i:Nat} {t:Str} {K:List Value → World → Prop},SMl l0 w0 b zs Q0 → TxW 0 w0 v47 (addT (setT x.d.asm) am) → Ow 0 t_i64 w0 v3 (ints (nats g)) → i < g.length → Q0.length ≤ 20000 → (∀ w' y,SCh l0 b w0 w' → y.i = ⟨10,[gt g i],addT (addT (setT x.d.asm) am) t,x.d.con,[]⟩ → SMl l0 w' b zs (Q0 ++ [y]) → K [.int .i64 ((Q0.length:Nat):Int)] w') →
    jn (fun J=>xIa 1 v3 (.int .i64 (i:Int)) fun p=>xLd w0 p fun v164=>∀ w38,Ext w0 w38 → (callV Tryz.prog (.func (.func e7) #[] #[]) [v47,sv t] w38 fun v160 w39=>Ext w38 w39 ∧ ∀ w40,Ext w39 w40 → xBs t_i64 (Value.cells (.int .i64 0)) 1 1 [(0,v164)] w40 fun v165 w41=>∀ w42,Ext w41 w42 → callV Tryz.prog (.func (.func eM) #[] #[]) [bp b,.int .i64 10,v160,sv x.d.con,.string ⟨#[]⟩,v165] w42 fun v166 w43=>∀ w44,Ext w43 w44 → J [v166] w44) ∧
     (xBs t_i64 (Value.cells (.int .i64 0)) 1 1 [(0,v164)] w38 fun v165 w45=>∀ w46,Ext w45 w46 → callV Tryz.prog (.func (.func e7) #[] #[]) [v47,sv t] w46 fun v160 w47=>Ext w46 w47 ∧ ∀ w48,Ext w47 w48 → callV Tryz.prog (.func (.func eM) #[] #[]) [bp b,.int .i64 10,v160,sv x.d.con,.string ⟨#[]⟩,v165] w48 fun v166 w49=>∀ w50,Ext w49 w50 → J [v166] w50)) K:=fun {w0 Q0 i t K} h1 h2 h3 h4 h5 h=>by
   have hal:(addT (addT (setT x.d.asm) am) t).length ≤ 14:=by have:=oK (addT (setT x.d.asm) am) t;omega
   refine iJnX (fun xs w'=>xs = [.int .i64 ((Q0.length:Nat):Int)] ∧ SCh l0 b w0 w' ∧ ∃ y:IV,y.i = ⟨10,[gt g i],addT (addT (setT x.d.asm) am) t,x.d.con,[]⟩ ∧ SMl l0 w' b zs (Q0 ++ [y])) (fun J hJ=>?_) (fun xs w' hC=>by obtain ⟨rfl,e1,y,e2,e3⟩:=hC;exact h w' y e1 e2 e3)
   have go:∀ {w':World} {u v2:Value},Ext w0 w' → TxW 0 w' u (addT (addT (setT x.d.asm) am) t) → Ow 0 t_i64 w' v2 (ints (nats [gt g i])) → callV Tryz.prog (.func (.func eM) #[] #[]) [bp b,.int .i64 10,u,sv x.d.con,.string ⟨#[]⟩,v2] w' fun v86 w28=>∀ w29,Ext w28 w29 → J [v86] w29:=fun {w' u v2} hx hu hv=>by
    refine ad (rule:=10) (main:=[]) (h1.ext hx) hu hv (by omega) (by simp) (by omega) fun w'' y hs hy hM'=>?_
    intro w29 x29
    exact hJ _ _ ⟨rfl,((SCh.ext hx).trans hs).trans (SCh.ext x29),y,hy,hM'.ext x29⟩
   refine iIaG1 h3 h4 ?_
   intro w38 x38
   refine ⟨?_,?_⟩
   ·refine ins (Ow.ext h2 x38) (wW _ _) (by omega) fun u w39 x39 hu=>⟨x39,fun w40 x40=>?_⟩
    refine iBs1 rfl rfl fun c w41 _ x41 hB41=>?_
    intro w42 x42
    have xx:=(x40.trans x41).trans x42
    exact go ((x38.trans x39).trans xx) (Ow.ext hu xx) (one (hB41.ext x42))
   ·refine iBs1 rfl rfl fun c w41 _ x41 hB41=>?_
    intro w42 x42
    have X42:=(x38.trans x41).trans x42
    refine ins (Ow.ext h2 X42) (wW _ _) (by omega) fun u w39 x39 hu=>⟨x39,fun w40 x40=>?_⟩
    exact go ((X42.trans x39).trans x40) (Ow.ext hu x40) (one (hB41.ext ((x42.trans x39).trans x40)))
  refine weak (i:=1) (hM7.ext x35) (Ow.ext hW x35) (Ow.ext hg7 x35) (by omega) (by omega) fun w37 y1 hs37 hy1 hM37=>?_
  intro _
  have hW37:=kp (hM7.ext x35) hs37 (by decide) (by decide) (Ow.ext hW x35)
  have hg37:=kp (hM7.ext x35) hs37 (by decide) (by decide) (Ow.ext hg7 x35)
  have hQ1:(Q ++ [y1]).length = Q.length + 1:=by rw [List.length_append];rfl
  refine weak (i:=2) hM37 hW37 hg37 (by omega) (by omega) fun w52 y2 hs52 hy2 hM52=>?_
  intro _
  simp only [gx]
  have hW52:=kp hM37 hs52 (by decide) (by decide) hW37
  rw [hQ1]
  refine iBs2 rfl rfl rfl fun c w66 _ x66 hB66=>?_
  refine ad (rule:=5) (hM52.ext x66) (Ow.ext hW52 x66) (two hB66) (by omega) (by simp) (by rw [List.length_append,hQ1];simp;omega) fun w67 y3 hs67 hy3 hM67=>?_
  have hmk:makeD Q.length x.d g am = [⟨10,[gt g 1],addT (addT (setT x.d.asm) am) p'.1,x.d.con,[]⟩,⟨10,[gt g 2],addT (addT (setT x.d.asm) am) p'.2,x.d.con,[]⟩,⟨5,[Q.length,Q.length + 1],addT (setT x.d.asm) am,x.d.con,am⟩] ++ [⟨11,[gt g 0,Q.length + 2],setT x.d.asm,x.d.con,am⟩]:=by
   rw [ID h8 hp];rfl
  have:=cut (K:=MadeL l0 b zs Q (makeD Q.length x.d g am) w) (RQ:=[y1,y2,y3]) (by simp) (by simp) hmk (by rw [List.map_cons,List.map_cons,List.map_singleton,hy1,hy2,hy3]) ((((SCh.ext x35).trans hs37).trans hs52).trans ((SCh.ext x66).trans hs67)) (by simpa using hM67) fun u w'' h=>h
  rw [List.length_append,hQ1]
  exact this
 obtain ⟨h10,p,hp,hp1,hp2⟩:x.d.rule = 10 ∧ ∃ p,parK am 4 = some p ∧ (gt (R.map DV.d) (gt x.d.prem 1).toNat).con = p.1 ∧ p.2 = x.d.con:=by
  cases hrf with
  | r10 q q' p e ep _ hp e2 e3=>exact ⟨e,p,by rw [← con (q:=q) (by rw [ep];rfl)];exact hp,by rw [ep];exact congrArg Prod.snd e3,e2⟩
  | r1 e=>exact absurd e h1
  | r2 _ e=>exact absurd e h2
  | r3 _ _ _ e=>exact absurd e h3
  | r4 _ _ e=>omega
  | r5 _ _ e=>omega
  | r6 _ _ e=>exact absurd e h6
  | r7 _ _ e=>exact absurd e h7
  | r8 _ _ _ _ e=>exact absurd e h8
  | r9 _ _ e=>exact absurd e h9
 have hg2:g.length = 2:=hgl.trans (htwo (.inr h10))
 refine iJnX (fun xs w'=>xs = [.int .i64 ((Q.length:Nat):Int)] ∧ SCh l0 b w26 w' ∧ ∃ y:IV,y.i = ⟨10,[gt g 1],addT (setT x.d.asm) am,p.1,[]⟩ ∧ SMl l0 w' b zs (Q ++ [y])) (fun J hJ=>?_) ?_
 ·refine iFa (iLdB hB17 (i:=1) (v:=x.vp) rfl ?_)
  refine pm (i:=1) X7 (by rw [htwo (.inr h10)];decide) ?_
  rw [hp1]
  refine iIaG1 (j:=1) hg7 (by omega) ?_
  intro w72 x72
  refine iBs1 rfl rfl fun c w73 _ x73 hB73=>⟨x73,fun w74 x74=>?_⟩
  have xx:=(x72.trans x73).trans x74
  refine ad (rule:=10) (main:=[]) (hM7.ext xx) (Ow.ext hW xx) (one (hB73.ext x74)) (by omega) (by simp) (by omega) fun w75 y hs hy hM'=>?_
  intro w76 x76
  exact hJ _ _ ⟨rfl,((SCh.ext xx).trans hs).trans (SCh.ext x76),y,hy,hM'.ext x76⟩
 rintro _ w71 ⟨rfl,hs71,y1,hy1,hM71⟩
 intro _
 simp only [gx]
 have hW71:=kp hM7 hs71 (by decide) (by decide) hW
 have hQ1:(Q ++ [y1]).length = Q.length + 1:=by rw [List.length_append];rfl
 rw [← hp2]
 have hal:(addT (addT (setT x.d.asm) am) p.2).length ≤ 14:=by have:=oK (addT (setT x.d.asm) am) p.2;omega
 refine ins hW71 (wW _ _) (by omega) fun v213 w77 x77 h213=>?_
 refine ad (rule:=1) (ps:=[]) (main:=[]) (hM71.ext x77) h213 (Ow.nil _ _ _) (by omega) (by simp) (by omega) fun w78 y2 hs78 hy2 hM78=>?_
 have hW78:=kp (hM71.ext x77) hs78 (by decide) (by decide) (Ow.ext hW71 x77)
 rw [hQ1]
 refine iBs2 rfl rfl rfl fun c w79 _ x79 hB79=>?_
 refine ad (rule:=8) (hM78.ext x79) (Ow.ext hW78 x79) (two hB79) (by omega) (by simp) (by rw [List.length_append,hQ1];simp;omega) fun w80 y3 hs80 hy3 hM80=>?_
 rw [hp2] at hy2 hy3 ⊢
 have hmk:makeD Q.length x.d g am = [⟨10,[gt g 1],addT (setT x.d.asm) am,p.1,[]⟩,⟨1,[],addT (addT (setT x.d.asm) am) x.d.con,x.d.con,[]⟩,⟨8,[Q.length,Q.length + 1],addT (setT x.d.asm) am,x.d.con,am⟩] ++ [⟨11,[gt g 0,Q.length + 2],setT x.d.asm,x.d.con,am⟩]:=by
  rw [N9 h10 hp,hp2];rfl
 have:=cut (K:=MadeL l0 b zs Q (makeD Q.length x.d g am) w) (RQ:=[y1,y2,y3]) (by simp) (by simp) hmk (by rw [List.map_cons,List.map_cons,List.map_singleton,hy1,hy2,hy3]) (((hs71.trans (SCh.ext x77)).trans hs78).trans ((SCh.ext x79).trans hs80)) (by simpa using hM80) fun u w'' h=>h
 rw [List.length_append,hQ1]
 exact this
end Go.Proofs.YtkjoppimpmojfaaGreat

namespace Go.Vc
theorem iNew1 {w:World} {e:TypeId} {a:Value} {K:Value → World → Prop} (h:∀ q w',q = w.heap.size ∧ w'.heap.size = q + 1 → Ext w w' → Blk e w' q [a] → K (.pointer (some ⟨q,0,none⟩)) w'):xNew (Value.cells (.agg #[a])) e w K:=
 iNew fun q w' h1 h2 h3=>h q w' h1 h2 (by simpa [Value.cells] using h3)
theorem xN {P:List Ded} (h:codeD P = 0):1 ≤ P.length ∧ P.length ≤ 120 ∧ ∀ i,i < P.length → goodD P i = true:=by
 unfold codeD at h
 split at h
 ·rename_i h1
  split at h
  ·rename_i h2
   unfold dH at h2
   rw [List.all_eq_true] at h2
   exact ⟨h1.1,h1.2,fun i hi=>h2 i (List.mem_range.2 hi)⟩
  ·cases h
 ·cases h
end Go.Vc
namespace Go.Proofs.YtkjoppimpmojfaaGreat
open Go.Vc
def SeqQ (P:List Ded) (w:World):Value → World → Prop:=fun r w'=>Ext w w' ∧ ∃ lo u Q,r = .tuple #[u,.int .i64 (outD P).1] ∧ w.heap.size ≤ lo ∧ OwI lo w' u Q ∧ Q.map IV.i = (outD P).2
theorem SCh.ext' {l0 b:Nat} {w0 w w':World} (x:Ext w0 w) (h:SCh l0 b w w') (h1:w0.heap.size ≤ l0) (h2:l0 ≤ b):Ext w0 w':=x.thenCh h fun c hc=>by
 rcases hc with rfl | ⟨hc,_⟩ <;> omega
theorem SeqQ.no {P:List Ded} {w w':World} {z:Int} (x:Ext w w') (h:outD P = (z,[])):SeqQ P w (.tuple #[.slice none 0 0,.int .i64 z]) w':=⟨x,w.heap.size,_,[],by rw [h],Nat.le_refl _,OwI.nil _ _,by rw [h];rfl⟩
theorem sK {v:Value} {R:List DV} {w:World} (h:RdD w v R) (hpb:∀ x ∈ R,x.d.prem.length ≤ 1000000000):Cal Tryz.prog kS #[v] w (SeqQ (R.map DV.d) w):=by
 have hvc:aD v = true:=by
  obtain ⟨_,_,_,e,_⟩:=h.row
  rw [e];rfl
 have hPl:(R.map DV.d).length = R.length:=List.length_map _
 apply tA;unfold kZ
 refine iBs1 rfl hvc fun c w1 _ x1 hB1=>?_
 refine iRet (oD (Sl.ofBlk (n:=1) hB1 rfl (by decide)) (h.ext x1) hpb) fun w2 x2=>?_
 have X2:=x1.trans x2
 refine iNe (iCndP (fun hc=>SeqQ.no X2 (if_neg hc)) (fun hc=>?_))
 have hc0:codeD (R.map DV.d) = 0:=Classical.not_not.1 hc
 have hout:outD (R.map DV.d) = if limD (seqD (R.map DV.d) R.length).1 then (0,(seqD (R.map DV.d) R.length).1) else (3,[]):=by unfold outD;rw [if_pos hc0,hPl]
 obtain ⟨h1,h120,hall⟩:=xN hc0
 rw [hPl] at h1 h120 hall
 refine iBs05 fun v17 w3 x3 ho3=>?_
 refine j4 (cs:=#[v17]) (by simp [Instr.fill,aH (OwK.cell ho3)]) ?_
 refine iNew1 fun q w4 hq x4 hB4=>?_
 refine iBs0 fun v20 w5 hw5 x5 ho5=>?_
 have X3:=X2.trans x3
 have X4:=X3.trans x4
 have X5:=X4.trans x5
 have hqge:w2.heap.size ≤ q:=by have:=x3.size;omega
 have hM5:SMl w2.heap.size w5 q [v20] []:=by
  refine ⟨hqge,v17,hB4.ext x5,⟨OwK.ext ho3 (x4.trans x5),fun j hj=>absurd hj (Nat.not_lt_zero j),fun j hj=>absurd hj (Nat.not_lt_zero j),fun a _ ha=>absurd ha (Nat.not_lt_zero a),fun a _ ha=>absurd ha (Nat.not_lt_zero a)⟩,?_⟩
  intro u hu c hc
  rw [List.mem_singleton.1 hu] at hc
  exact ⟨(ho5.blk c hc).2,fun j hj=>absurd hj (Nat.not_lt_zero j)⟩
 have hl0:w.heap.size ≤ w2.heap.size:=X2.size
 generalize hl0e:w2.heap.size = l0 at *
 refine iLp (fun s:Value × Nat=>[s.1,.int .i64 (s.2:Int)]) (fun s w'=>s.2 ≤ R.length ∧ Ext w w' ∧ Ow l0 t_i64 w' s.1 (ints (nats (seqD (R.map DV.d) s.2).2)) ∧ ∃ Q:List IV,SMl l0 w' q [s.1] Q ∧ Q.map IV.i = (seqD (R.map DV.d) s.2).1) (fun s=>R.length - s.2) (v20,0) rfl ⟨Nat.zero_le _,X5,ho5.mono (by have:=(X2.trans x3).size;have:=x4.size;have:=x3.size;omega),[],hM5,rfl⟩ ?_
 rintro ⟨nv,k⟩ w7 Kn ⟨hk,X7,hnum,Q,hM7,hQ7⟩ hKn
 have hk:k ≤ R.length:=hk
 have hnum:Ow l0 t_i64 w7 nv (ints (nats (seqD (R.map DV.d) k).2)):=hnum
 have hM7:SMl l0 w7 q [nv] Q:=hM7
 have hQ7:Q.map IV.i = (seqD (R.map DV.d) k).1:=hQ7
 obtain ⟨hs1,hs2⟩:=rC (R.map DV.d) k
 have hQl:Q.length ≤ 4 * k:=by have:=congrArg List.length hQ7;rw [List.length_map] at this;omega
 intro _
 simp only [gx]
 refine iLenK (h.ext X7).row (iLt (iCndP (fun hlt=>?_) (fun hlt=>?_)))
 ·have hkl:k < R.length:=by omega
  have hmem:gt R k ∈ R:=by rw [gt_eq hkl];exact List.getElem_mem hkl
  have hgk:=hall k hkl
  obtain ⟨hsh,hin,-⟩:=eP hgk
  rw [gP hkl] at hsh hin
  have hinm:∀ q ∈ (gt R k).d.prem,0 ≤ q ∧ q.toNat < (seqD (R.map DV.d) k).2.length:=fun q hq=>by
   obtain ⟨a1,a2⟩:=A3 hin hq
   omega
  have hpbk:=hpb _ hmem
  have pr:∀ {w':World} {K:Value → Prop},Ext w w' → K (gt R k).vp → xIa 5 v (.int .i64 (k:Int)) fun p=>xFa 1 p fun q=>xLd w' q K:=fun X hK=>
   iFld5 (h.ext X).row hkl (by decide) (iQ hkl 1 (by decide)) hK
  refine iBs0 fun v27 w8 hw8 x8 ho8=>?_
  refine iLp (fun s:Value × Nat=>[s.1,.int .i64 (s.2:Int)]) (fun s w'=>s.2 ≤ (gt R k).d.prem.length ∧ Ext w7 w' ∧ Ow w7.heap.size t_i64 w' s.1 (ints (nats (((gt R k).d.prem.take s.2).map fun j=>gt (seqD (R.map DV.d) k).2 j.toNat)))) (fun s=>(gt R k).d.prem.length - s.2) (v27,0) rfl ⟨Nat.zero_le _,x8,ho8⟩ ?_
  rintro ⟨r,i⟩ w10 Kn2 ⟨hi,x10,ho⟩ hKn2
  have hi:i ≤ (gt R k).d.prem.length:=hi
  have ho:Ow w7.heap.size t_i64 w10 r (ints (nats (((gt R k).d.prem.take i).map fun j=>gt (seqD (R.map DV.d) k).2 j.toNat))):=ho
  have X10:=X7.trans x10
  have hpv:=SlI.ext (h.prem _ hmem) X10
  intro _
  simp only [gx]
  refine pr X10 (iLenI hpv (iLt (iCndP (fun hl=>?_) (fun hl=>?_))))
  ·have hil:i < (gt R k).d.prem.length:=by omega
   have etk:(gt R k).d.prem.take (i + 1) = (gt R k).d.prem.take i ++ [(gt R k).d.prem[i]]:=List.take_succ_eq_append_getElem hil
   refine pr X10 (iIaN hpv hil fun p hp=>?_)
   have e:(gt R k).d.prem.getD i 0 = (gt R k).d.prem[i]:=by simp [hil]
   rw [e] at hp
   obtain ⟨q0,q1⟩:=hinm _ (List.getElem_mem hil)
   generalize (gt R k).d.prem[i] = qq at *
   refine iLd hp ?_
   obtain ⟨m,rfl⟩:=Int.eq_ofNat_of_zero_le q0
   rw [Int.toNat_natCast] at q1
   refine iIaG1 (Ow.ext hnum x10) q1 ?_
   have hlen:(ints (nats (((gt R k).d.prem.take i).map fun j=>gt (seqD (R.map DV.d) k).2 j.toNat))).length = i:=by rw [bA,eA,List.length_map,List.length_take];omega
   refine iApp1 n6 nR rfl ho rfl (by rw [hlen];omega) (by rw [hlen];omega) x10.size fun r' w12 ho12 hg12=>?_
   refine iAdd (by omega) ?_
   refine hKn2 (r',i + 1) _ ⟨hil,x10.grown hg12 fun b hb=>(ho.blk b hb).1,?_⟩ (by show (gt R k).d.prem.length - (i + 1) < (gt R k).d.prem.length - i;omega)
   show Ow _ _ _ r' (ints (nats (((gt R k).d.prem.take (i + 1)).map fun j=>gt (seqD (R.map DV.d) k).2 j.toNat)))
   rw [etk,List.map_append]
   rw [show ints (nats (((gt R k).d.prem.take i).map (fun j=>gt (seqD (R.map DV.d) k).2 j.toNat) ++ [((m:Nat):Int)].map fun j=>gt (seqD (R.map DV.d) k).2 j.toNat)) = ints (nats (((gt R k).d.prem.take i).map fun j=>gt (seqD (R.map DV.d) k).2 j.toNat)) ++ [.int .i64 ((gt (seqD (R.map DV.d) k).2 m:Nat):Int)] by simp [ints,nats]]
   exact ho12
  have hie:i = (gt R k).d.prem.length:=by omega
  subst hie
  rw [List.take_length] at ho
  refine iAtD (h.ext X10).row rfl hkl ?_
  refine iCall ((KE (hM7.ext x10) (h.ext X10) hkl hall (ho.mono (Nat.zero_le _)) (List.length_map _) rfl (by omega)).mono ?_)
  rintro _ w13 ⟨hs13,RQ,hRQ,hM13,rfl⟩
  have hB10:∃ cs,Blk 56 w10 q cs:=by
   obtain ⟨-,vp,hb,-⟩:=hM7.ext x10
   exact ⟨_,hb⟩
  obtain ⟨csb,hB10⟩:=hB10
  have hnum13:Ow l0 t_i64 w13 nv (ints (nats (seqD (R.map DV.d) k).2)):=Ow.sch (Ow.ext hnum x10) hs13 hB10 (by decide) (by decide)
  have X13:=SCh.ext' X10 hs13 hl0 hqge
  have hlen:(ints (nats (seqD (R.map DV.d) k).2)).length = k:=by rw [bA,eA,hs2]
  refine sR n6 nR rfl hnum13 rfl (by rw [hlen];omega) (by rw [hlen];omega) (by have:=X13.size;have:=hM7.lob;have:=hB10.lt;have:=hs13.size;omega) fun nv' w15 hn15 hg15 hat15=>?_
  refine iAdd (by omega) ?_
  have hM15:=SM.grow hM13 (by decide) hnum13 hg15 hat15 (fun c hc=>(hn15.blk c hc).2)
  have X15:Ext w w15:=X13.grown hg15 fun c hc=>Nat.le_trans hl0 (hnum13.blk c hc).1
  have hsq:seqD (R.map DV.d) (k + 1) = ((seqD (R.map DV.d) k).1 ++ makeD (seqD (R.map DV.d) k).1.length (gt R k).d ((gt R k).d.prem.map fun j=>gt (seqD (R.map DV.d) k).2 j.toNat) (gt (R.map DV.d) (gt (gt R k).d.prem 0).toNat).con,(seqD (R.map DV.d) k).2 ++ [(seqD (R.map DV.d) k).1.length + (makeD (seqD (R.map DV.d) k).1.length (gt R k).d ((gt R k).d.prem.map fun j=>gt (seqD (R.map DV.d) k).2 j.toNat) (gt (R.map DV.d) (gt (gt R k).d.prem 0).toNat).con).length - 1]):=by
   rw [seqD]
   simp only [gP hkl]
  have hQe:Q.length = (seqD (R.map DV.d) k).1.length:=by rw [← hQ7,List.length_map]
  rw [hQe] at hRQ hn15
  refine hKn (nv',k + 1) _ ⟨hkl,X15,?_,Q ++ RQ,hM15,?_⟩ (by show R.length - (k + 1) < R.length - k;omega)
  ·show Ow l0 t_i64 w15 nv' (ints (nats (seqD (R.map DV.d) (k + 1)).2))
   rw [hsq]
   rw [show ints (nats ((seqD (R.map DV.d) k).2 ++ [(seqD (R.map DV.d) k).1.length + (makeD (seqD (R.map DV.d) k).1.length (gt R k).d ((gt R k).d.prem.map fun j=>gt (seqD (R.map DV.d) k).2 j.toNat) (gt (R.map DV.d) (gt (gt R k).d.prem 0).toNat).con).length - 1])) = ints (nats (seqD (R.map DV.d) k).2) ++ [.int .i64 (((seqD (R.map DV.d) k).1.length + (makeD (seqD (R.map DV.d) k).1.length (gt R k).d ((gt R k).d.prem.map fun j=>gt (seqD (R.map DV.d) k).2 j.toNat) (gt (R.map DV.d) (gt (gt R k).d.prem 0).toNat).con).length - 1:Nat):Int)] by simp [ints,nats]]
   exact hn15
  ·show (Q ++ RQ).map IV.i = (seqD (R.map DV.d) (k + 1)).1
   rw [hsq,List.map_append,hQ7,hRQ]
 -- the end: how long it is, and how wide
 have hke:k = R.length:=by omega
 subst hke
 obtain ⟨-,vp,hB7,hO7,-⟩:=hM7
 have hQlen:Q.length = (seqD (R.map DV.d) R.length).1.length:=by rw [← hQ7,List.length_map]
 refine iNil (iFa (iLdB hB7 (i:=0) (v:=vp) rfl (iLenK hO7.row.sl (iLt (iCndP (fun h60=>?_) (fun h60=>?_))))))
 ·refine SeqQ.no X7 ?_
  rw [hout]
  refine if_neg ?_
  unfold limD
  rw [decide_eq_false (by omega)]
  simp
 have hlim:limD (seqD (R.map DV.d) R.length).1 = (Q.map IV.i).all fun x=>decide (x.left.length ≤ 12):=by
  unfold limD
  rw [decide_eq_true (by omega),Bool.true_and,hQ7]
 refine iLp (fun i:Nat=>[.int .i64 (i:Int)]) (fun i w'=>i ≤ Q.length ∧ Ext w7 w' ∧ ∀ j,j < i → (gt Q j).i.left.length ≤ 12) (fun i=>Q.length - i) 0 rfl ⟨Nat.zero_le _,Ext.refl _,fun j hj=>absurd hj (Nat.not_lt_zero j)⟩ ?_
 rintro i w17 Kn3 ⟨hi,x17,hok⟩ hKn3
 have hB17:=hB7.ext x17
 have hO17:=hO7.ext x17
 have X17:=X7.trans x17
 intro _
 simp only [gx]
 refine iNil (iFa (iLdB hB17 (i:=0) (v:=vp) rfl (iLenK hO17.row.sl (iLt (iCndP (fun hl=>?_) (fun hl=>?_))))))
 ·have hil:i < Q.length:=by omega
  refine iNil (iFa (iLdB hB17 (i:=0) (v:=vp) rfl ?_))
  refine iFld5 hO17.row.sl hil (by decide) (dL hil 2 (by decide)) ?_
  refine iLenS (hO17.left i hil).sl (iLt (iCndP (fun hw=>?_) (fun hw=>?_)))
  ·rw [aI] at hw
   refine SeqQ.no X17 ?_
   rw [hout]
   refine if_neg ?_
   rw [hlim,Bool.not_eq_true,List.all_eq_false]
   refine ⟨(gt Q i).i,List.mem_map.2 ⟨gt Q i,by rw [gt_eq hil];exact List.getElem_mem hil,rfl⟩,?_⟩
   simp only [decide_eq_true_eq];omega
  ·rw [aI] at hw
   refine iAdd (by omega) (hKn3 (i + 1) _ ⟨hil,x17,fun j hj=>?_⟩ (by omega))
   by_cases e:j = i
   ·subst e;omega
   ·exact hok j (by omega)
 ·have hie:i = Q.length:=by omega
  refine iNil (iFa (iLdB hB17 (i:=0) (v:=vp) rfl ?_))
  have hlt:limD (seqD (R.map DV.d) R.length).1 = true:=by
   rw [hlim,List.all_eq_true]
   intro x hx
   obtain ⟨y,hy,rfl⟩:=List.mem_map.1 hx
   obtain ⟨j,hj,rfl⟩:=List.getElem_of_mem hy
   have:=hok j (by omega)
   rw [gt_eq hj] at this
   exact decide_eq_true this
  have ho:outD (R.map DV.d) = (0,(seqD (R.map DV.d) R.length).1):=by rw [hout,if_pos hlt]
  exact ⟨X17,l0,vp,Q,by rw [ho],hl0,hO17,by rw [ho];exact hQ7⟩
end Go.Proofs.YtkjoppimpmojfaaGreat

namespace Go.Proofs.YtkjoppimpmojfaaGreat
open Go.Vc
def SRel (l0 q:Nat) (w w':World):Prop:=SCh l0 q w w' ∧ ∀ a s,Blk 49 w q [a,s] → ∃ a',Blk 49 w' q [a',s]
theorem RD (l0 q:Nat):FrE (SRel l0 q):=
 ⟨fun _ _ x=>⟨SCh.ext x,fun a _ h=>⟨a,h.ext x⟩⟩,fun _ _ _ h k=>⟨h.1.trans k.1,fun a s hb=>by
  obtain ⟨a',h'⟩:=h.2 a s hb
  exact k.2 a' s h'⟩,fun _ _ h=>P3 h.1⟩
theorem sD {v:Value} {R:List DV} {w:World} (h:RdD w v R) (hpb:∀ x ∈ R,x.d.prem.length ≤ 1000000000):Cal Tryz.prog kN #[v] w (SeqQ (R.map DV.d) w):=by
 have hvc:aD v = true:=by
  obtain ⟨_,_,_,e,_⟩:=h.row
  rw [e];rfl
 have hPl:(R.map DV.d).length = R.length:=List.length_map _
 apply tM;unfold kP
 refine iBs1 rfl hvc fun c w1 _ x1 hB1=>?_
 refine iRet (AE (Sl.ofBlk (n:=1) hB1 rfl (by decide)) (h.ext x1) hpb) fun w2 x2=>?_
 have X2:=x1.trans x2
 refine iNe (iCndP (fun hc=>SeqQ.no X2 (if_neg hc)) (fun hc=>?_))
 have hc0:codeD (R.map DV.d) = 0:=Classical.not_not.1 hc
 have hout:outD (R.map DV.d) = if limD (seqD (R.map DV.d) R.length).1 then (0,(seqD (R.map DV.d) R.length).1) else (3,[]):=by unfold outD;rw [if_pos hc0,hPl]
 obtain ⟨h1,h120,hall⟩:=xN hc0
 rw [hPl] at h1 h120 hall
 refine j4 (cs:=#[.slice none 0 0,.slice none 0 0]) (by simp [Instr.fill]) ?_
 refine iNew2 fun q w3 hq x3 hB3=>?_
 have X3:=X2.trans x3
 have hqge:w2.heap.size ≤ q:=by omega
 have hM3:SMi w2.heap.size w3 q [.slice none 0 0] []:=⟨hqge,_,hB3,OwI.nil _ _,fun u hu c hc=>by rw [List.mem_singleton.1 hu] at hc;cases hc⟩
 have hl0:w.heap.size ≤ w2.heap.size:=X2.size
 generalize hl0e:w2.heap.size = l0 at *
 refine iLenK h.row ?_
 refine iLp (fun i:Nat=>[.int .i64 (i:Int)]) (fun i w'=>i ≤ R.length ∧ Ext w w' ∧ ∃ (vs:Value) (Q:List IV),SMi l0 w' q [vs] Q ∧ Ow l0 t_i64 w' vs (ints (nats (seqD (R.map DV.d) i).2)) ∧ Q.map IV.i = (seqD (R.map DV.d) i).1) (fun i=>R.length - i) 0 rfl ⟨Nat.zero_le _,X3,_,[],hM3,Ow.nil _ _ _,rfl⟩ ?_
 rintro k w5 Kn ⟨hk,X5,vs,Q,hM5,hnum,hQ⟩ hKn
 obtain ⟨hs1,hs2⟩:=rC (R.map DV.d) k
 have hQl:Q.length ≤ 4 * k:=by have:=congrArg List.length hQ;rw [List.length_map] at this;omega
 intro _
 simp only [gx]
 refine iLt (iCndP (fun hlt=>?_) (fun hlt=>?_))
 ·have hkl:k < R.length:=by omega
  have hm:gt R k ∈ R:=by rw [gt_eq hkl];exact List.getElem_mem hkl
  have h5:=h.ext X5
  refine iAtD h5.row rfl hkl ?_
  refine iNew5 fun q7 w6 hq7 x6 hB6=>?_
  refine iStAB hB6 rfl rfl (fun y hy=>DV.cell (h5.prem _ hm) (h5.asm _ hm) y (by simpa using hy)) fun w7 hu7 hB7=>?_
  have x57:Ext w5 w7:=x6.upd hu7 (by omega)
  have hM7:=hM5.ext x57
  have hnum7:=hnum.ext x57
  have X7:=X5.trans x57
  obtain ⟨hlo,vp,hBm,-,-⟩:=id hM7
  refine ⟨SRel l0 q,RD l0 q,?_⟩
  refine iNil (iFa (iLdB hBm (i:=1) (v:=vs) rfl ⟨fun w9 h9=>?_,?_⟩))
  ·obtain ⟨a',hB9⟩:=h9.2 _ _ hBm
   exact iLdB hB9 (i:=1) (v:=vs) rfl rfl
  refine iLdA hB7 rfl ?_
  intro w11 x11
  have X11:=X7.trans x11
  refine iCall ((FR (hM7.ext x11) (hnum7.ext x11).sl (h.ext X11) hkl hall hs2 (by omega)).mono ?_)
  rintro _ w12 ⟨hs12,RQ,hRQ,hM12,rfl⟩
  refine ⟨⟨hs12,fun a s hb=>?_⟩,fun w13 x13=>?_⟩
  ·obtain ⟨-,vp',hB',-⟩:=hM12
   have hb0:=hBm.ext x11
   unfold Blk at hb hb0
   rw [hb0] at hb
   cases hb
   exact ⟨vp',hB'⟩
  refine iBs1 rfl rfl fun c14 w14 _ x14 hB14=>⟨(RD l0 q).ext _ _ x14,fun w15 x15=>?_⟩
  have x1215:=(x13.trans x14).trans x15
  have hM15:=hM12.ext x1215
  have hnum15:Ow l0 t_i64 w15 vs (ints (nats (seqD (R.map DV.d) k).2)):=(Ow.sch (hnum7.ext x11) hs12 (hBm.ext x11) (by decide) (by decide)).ext x1215
  have X12:=SCh.ext' X11 hs12 hl0 hqge
  have X15:=X12.trans x1215
  have hlen:(ints (nats (seqD (R.map DV.d) k).2)).length = k:=by rw [bA,eA,hs2]
  have hQe:Q.length = (seqD (R.map DV.d) k).1.length:=by rw [← hQ,List.length_map]
  have hql:q < w15.heap.size:=by
   obtain ⟨-,_,hb,-⟩:=hM15
   exact hb.lt
  refine iAppA n6 nR rfl hnum15 (Sl.ofBlk (n:=1) (hB14.ext x15) rfl (by decide)) (fun y hy=>by rw [List.mem_singleton.1 hy];rfl) (by rw [hlen];simp;omega) (by rw [hlen];simp;omega) (by omega) fun nv w16 hn16 hg16 hat16=>?_
  have hM16:=SM.grow hM15 (by decide) hnum15 hg16 hat16 (fun c hc=>(hn16.blk c hc).2)
  have X16:Ext w w16:=X15.grown hg16 fun c hc=>Nat.le_trans hl0 (hnum15.blk c hc).1
  refine iNil (iFa ?_)
  intro w17 x17
  have X17:=X16.trans x17
  have hn17:=hn16.ext x17
  obtain ⟨-,vp2,hB17,hO17,hS17⟩:=hM16.ext x17
  refine iStB (i:=1) hB17 (by simp) hn16.cell fun hB18=>?_
  have hch18:=(Upd.setCell w17 q 1 nv).ch (S:=fun k=>k = q) rfl
  have hs18:(w17.setCell ⟨q,1,none⟩ nv).heap.size = w17.heap.size:=(Upd.setCell w17 q 1 nv).size
  generalize w17.setCell ⟨q,1,none⟩ nv = w18 at *
  have hB18:Blk 49 w18 q [vp2,nv]:=hB18
  have ne18:∀ {e:TypeId} {xs:List Value} {u:Value},e ≠ 49 → Ow l0 e w17 u xs → Ow l0 e w18 u xs:=fun hne h=>h.ch hch18 fun c hc hS=>h.ne_blk hB17 hne (by have hS:c = q:=hS;rw [hc,hS])
  have hO18:OwI l0 w18 vp2 (Q ++ RQ):=⟨OwK.ch hO17.row hch18 fun k hk hS=>GX hO17.row hB17 (by decide) (by have hS:k = q:=hS;rw [hk,hS]),fun j hj=>ne18 (by decide) (hO17.prem j hj),fun j hj=>ne18 (by decide) (hO17.left j hj),hO17.dp,hO17.dl⟩
  have hM18:SMi l0 w18 q [nv] (Q ++ RQ):=⟨hqge,vp2,hB18,hO18,hS17.le (by omega)⟩
  have hn18:=ne18 (by decide) hn17
  have X18:Ext w w18:=X17.thenCh hch18 fun c hc=>by omega
  intro w19 x19
  refine iAdd (by omega) ?_
  have hsq:seqD (R.map DV.d) (k + 1) = ((seqD (R.map DV.d) k).1 ++ makeD (seqD (R.map DV.d) k).1.length (gt R k).d ((gt R k).d.prem.map fun j=>gt (seqD (R.map DV.d) k).2 j.toNat) (gt (R.map DV.d) (gt (gt R k).d.prem 0).toNat).con,(seqD (R.map DV.d) k).2 ++ [(seqD (R.map DV.d) k).1.length + (makeD (seqD (R.map DV.d) k).1.length (gt R k).d ((gt R k).d.prem.map fun j=>gt (seqD (R.map DV.d) k).2 j.toNat) (gt (R.map DV.d) (gt (gt R k).d.prem 0).toNat).con).length - 1]):=by
   rw [seqD]
   simp only [gP hkl]
  rw [hQe] at hRQ hn18
  refine hKn (k + 1) _ ⟨hkl,X18.trans x19,nv,Q ++ RQ,hM18.ext x19,?_,?_⟩ (by omega)
  ·refine Ow.ext ?_ x19
   rw [hsq]
   rw [show ints (nats ((seqD (R.map DV.d) k).2 ++ [(seqD (R.map DV.d) k).1.length + (makeD (seqD (R.map DV.d) k).1.length (gt R k).d ((gt R k).d.prem.map fun j=>gt (seqD (R.map DV.d) k).2 j.toNat) (gt (R.map DV.d) (gt (gt R k).d.prem 0).toNat).con).length - 1])) = ints (nats (seqD (R.map DV.d) k).2) ++ [.int .i64 (((seqD (R.map DV.d) k).1.length + (makeD (seqD (R.map DV.d) k).1.length (gt R k).d ((gt R k).d.prem.map fun j=>gt (seqD (R.map DV.d) k).2 j.toNat) (gt (R.map DV.d) (gt (gt R k).d.prem 0).toNat).con).length - 1:Nat):Int)] by simp [ints,nats]]
   exact hn18
  ·rw [hsq,List.map_append,hQ,hRQ]
 have hke:k = R.length:=by omega
 subst hke
 obtain ⟨-,vp,hB5,hO5,-⟩:=hM5
 have hQlen:Q.length = (seqD (R.map DV.d) R.length).1.length:=by rw [← hQ,List.length_map]
 refine iJnB (!limD (seqD (R.map DV.d) R.length).1) w5 (fun J hJ=>?_) (fun w21 x21=>?_)
 ·refine iNil (iFa (iLdB hB5 (i:=0) (v:=vp) rfl (iLenK hO5.row.sl (iLt (iCndP (fun h60=>?_) (fun h60=>?_))))))
  ·rw [show limD (seqD (R.map DV.d) R.length).1 = false by unfold limD;rw [decide_eq_false (by omega),Bool.false_and]] at hJ
   exact hJ _ (Ext.refl _)
  ·refine iNil (iFa (iLdB hB5 (i:=0) (v:=vp) rfl ?_))
   refine iRet (D1 hO5.rd) fun w22 x22=>?_
   rw [show limD (seqD (R.map DV.d) R.length).1 = (Q.map IV.i).all fun x=>decide (x.left.length ≤ 12) by unfold limD;rw [decide_eq_true (by omega),Bool.true_and,hQ]] at hJ
   exact hJ _ x22
 intro _
 simp only [gx]
 have X21:=X5.trans x21
 cases hlim:limD (seqD (R.map DV.d) R.length).1 with
 | false=>exact iCndT rfl (SeqQ.no X21 (by rw [hout,hlim];rfl))
 | true=>
  refine iCndF rfl (iNil (iFa (iLdB (hB5.ext x21) (i:=0) (v:=vp) rfl ?_)))
  have ho:outD (R.map DV.d) = (0,(seqD (R.map DV.d) R.length).1):=by rw [hout,if_pos hlim]
  exact ⟨X21,l0,vp,Q,by rw [ho],hl0,hO5.ext x21,by rw [ho];exact hQ⟩
end Go.Proofs.YtkjoppimpmojfaaGreat

namespace Go.Proofs.YtkjoppimpmojfaaGreat
open Go.Vc
theorem yJ {v:Value} {R:List DV} {w:World} (h:RdD w v R) (h0:0 < R.length) (hR:R.length ≤ 1000000):Cal Tryz.prog CA #[v] w fun r w'=>Ext w w' ∧ r = .agg (gt R (R.length - 1)).cs.toArray:=by
 have hm:gt R (R.length - 1) ∈ R:=by rw [gt_eq (by omega)];exact List.getElem_mem _
 apply NT;unfold CS
 refine iNew5 fun q w1 hq x1 hB1=>?_
 refine iLenK h.row (iSub (by omega) ?_)
 rw [show (R.length:Int) - 1 = ((R.length - 1:Nat):Int) by omega]
 refine iAtD (h.ext x1).row rfl (by omega) ?_
 refine iStAB hB1 rfl rfl (fun y hy=>?_) fun w2 u2 hB2=>?_
 ·simp only [DV.cs,List.mem_cons,List.not_mem_nil,or_false] at hy
  rcases hy with rfl | rfl | rfl | rfl | rfl
  ·rfl
  ·exact Sl.cell (h.prem _ hm)
  ·exact Sl.cell (h.asm _ hm)
  ·rfl
  ·rfl
 refine iLdA hB2 rfl ⟨x1.upd u2 (by omega),rfl⟩
theorem xE {v:Value} {R:List DV} {w:World} (h:RdD w v R) (hpb:∀ x ∈ R,x.d.prem.length ≤ 1000000000) (hc:codeD (R.map DV.d) = 0) (hal:(gt R (R.length - 1)).d.asm.length ≤ 1000000):
  Cal Tryz.prog nI #[v] w fun r w'=>Ext w w' ∧ ∃ u,r = .tuple #[u,sv (gt R (R.length - 1)).d.con,.int .i64 0] ∧ SlT w' u (gt R (R.length - 1)).d.asm:=by
 have hvc:aD v = true:=by
  obtain ⟨_,_,_,e,_⟩:=h.row
  rw [e];rfl
 obtain ⟨h1,h120,-⟩:=xN hc
 rw [List.length_map] at h1 h120
 have hm:gt R (R.length - 1) ∈ R:=by rw [gt_eq (by omega)];exact List.getElem_mem _
 apply AD;unfold nX
 refine iBs1 rfl hvc fun c w1 _ x1 hB1=>?_
 refine iRet (oD (Sl.ofBlk (n:=1) hB1 rfl (by decide)) (h.ext x1) hpb) fun w2 x2=>?_
 rw [hc]
 have X2:=x1.trans x2
 refine iNe (iCndF (by decide) ?_)
 refine iCall ((yJ (h.ext X2) (by omega) (by omega)).mono ?_)
 rintro _ w3 ⟨x3,rfl⟩
 have X3:=X2.trans x3
 refine ⟨_,(gt R (R.length - 1)).vl,rfl,rfl,?_⟩
 refine iCall ((i9 ((h.ext X3).asm _ hm) hal).mono ?_)
 rintro u w4 ⟨x4,hu⟩
 have X4:=X3.trans x4
 refine iCall ((yJ (h.ext X4) (by omega) (by omega)).mono ?_)
 rintro _ w5 ⟨x5,rfl⟩
 refine ⟨_,sv (gt R (R.length - 1)).d.con,rfl,rfl,?_⟩
 exact ⟨X4.trans x5,u,rfl,(hu.ext x5).sl⟩
theorem PS {w:World} {v0:Value} {A:List Str} (h:SlT w v0 A) (hA:A.length ≤ 1000000):Cal Tryz.prog H1 #[v0] w fun r w'=>Ext w w' ∧ SlT w' r (setT A):=by
 apply QX;unfold H7
 refine iBs0 fun u w1 _ x1 ho1=>?_
 refine iLp (fun s:Value × Nat=>[s.1,.int .i64 (s.2:Int)]) (fun s w'=>s.2 ≤ A.length ∧ Ext w w' ∧ Ow w.heap.size aB w' s.1 (strs (setT (A.take s.2))) ∧ (setT (A.take s.2)).length ≤ s.2) (fun s=>A.length - s.2) (u,0) rfl ⟨Nat.zero_le _,x1,ho1,Nat.le_refl _⟩ ?_
 rintro ⟨z,i⟩ w3 Kn ⟨hi,x3,hz,hzl⟩ hKn
 have hi:i ≤ A.length:=hi
 have hz:Ow w.heap.size aB w3 z (strs (setT (A.take i))):=hz
 have hzl:(setT (A.take i)).length ≤ i:=hzl
 intro _
 simp only [gx]
 refine aM (Sl.ext h x3) (iLt (iCndP (fun hlt=>?_) (fun hlt=>?_)))
 rotate_left
 ·have:i = A.length:=by omega
  rw [this,List.take_length] at hz
  exact ⟨x3,hz.sl⟩
 have hil:i < A.length:=by omega
 have hstep:setT (A.take (i + 1)) = insT (gt A i) (setT (A.take i)):=by rw [List.take_succ_eq_append_getElem hil,OH,gt_eq hil]
 have next:∀ {z':Value} {w':World},Ext w w' → Ow w.heap.size aB w' z' (strs (insT (gt A i) (setT (A.take i)))) → (insT (gt A i) (setT (A.take i))).length ≤ i + 1 → xAdd .i64 (.int .i64 (i:Int)) (.int .i64 1) fun v13=>Kn [z',v13] w':=fun {z' w'} x ho hl=>by
  refine iAdd (by omega) ?_
  refine hKn (z',i + 1) _ ⟨hil,x,?_,?_⟩ (by show A.length - (i + 1) < A.length - i;omega)
  ·show Ow _ _ _ z' (strs (setT (A.take (i + 1))))
   rw [hstep];exact ho
  ·show (setT (A.take (i + 1))).length ≤ i + 1
   rw [hstep];exact hl
 generalize hgt:gt A i = t at *
 generalize hLe:setT (A.take i) = L at *
 refine iLp (fun k:Nat=>[.int .i64 (k:Int)]) (fun k w'=>k ≤ L.length ∧ Ext w3 w' ∧ ∀ i,i < k → ltS (gt L i) t = true) (fun k=>L.length - k) 0 rfl ⟨Nat.zero_le _,Ext.refl _,fun i hi=>by omega⟩ ?_
 rintro k w2 Kk ⟨hk,h2,hlt2⟩ hKk
 have hs2:=hz.ext h2
 intro _
 simp only [gx]
 have rdA:∀ {w':World} {K:Value → Prop},Ext w3 w' → K (sv t) → xIa 1 v0 (.int .i64 (i:Int)) fun p=>xLd w' p K:=fun x hK=>iIaG (j:=i) (Sl.ext h (x3.trans x)) rfl hil (by rw [hgt];exact hK)
 refine iJnB (decide (k < L.length) && ltS (gt L k) t) w2 (fun J hJ=>?_) (fun w4 h4=>?_)
 ·refine aM hs2.sl ?_
  refine iLt ?_
  refine iCndP (fun h=>?_) (fun h=>?_)
  ·rw [decide_eq_true (show k < L.length by omega),Bool.true_and] at hJ
   refine iRdO (j:=k) hs2 rfl (by omega) ?_
   refine rdA h2 (iLtT fun w8 x8=>hJ _ x8)
  ·rw [decide_eq_false (show ¬ k < L.length by omega),Bool.false_and] at hJ
   exact fun w9 x9=>hJ _ x9
 intro _
 simp only [gx]
 have hs4:=hs2.ext h4
 have h4':=h2.trans h4
 cases hc:decide (k < L.length) && ltS (gt L k) t
 rotate_left
 ·rw [Bool.and_eq_true,decide_eq_true_eq] at hc
  refine iCndT rfl ?_
  refine iAdd (by omega) ?_
  refine hKk (k + 1) _ ⟨by omega,h4',fun i hi=>?_⟩ (by omega)
  by_cases hik:i = k
  ·subst hik;exact hc.2
  ·exact hlt2 i (by omega)
 refine iCndF rfl ?_
 have hsp:=DH hk hlt2
 refine iJnB (decide (k < L.length) && decide (gt L k = t)) w4 (fun J hJ=>?_) (fun w6 h6=>?_)
 ·refine aM hs4.sl ?_
  refine iLt ?_
  refine iCndP (fun h=>?_) (fun h=>?_)
  ·rw [decide_eq_true (show k < L.length by omega),Bool.true_and] at hJ
   refine iRdO (j:=k) hs4 rfl (by omega) ?_
   refine rdA h4' (iEqT fun w12 x12=>hJ _ x12)
  ·rw [decide_eq_false (show ¬ k < L.length by omega),Bool.false_and] at hJ
   exact fun w13 x13=>hJ _ x13
 intro _
 simp only [gx]
 have hs6:=hs4.ext h6
 have h6':=h4'.trans h6
 cases hc2:decide (k < L.length) && decide (gt L k = t)
 rotate_left
 ·rw [Bool.and_eq_true,decide_eq_true_eq,decide_eq_true_eq] at hc2
  have:insT t L = L:=by
   rw [hsp,List.drop_eq_getElem_cons hc2.1,← gt_eq hc2.1,hc2.2,insT,mH,if_neg (by decide),if_pos rfl]
   have:=List.take_append_drop k L
   rw [List.drop_eq_getElem_cons hc2.1,← gt_eq hc2.1,hc2.2] at this
   exact this
  refine iCndT rfl (next (x3.trans h6') ?_ ?_)
  ·rw [this];exact hs6
  ·rw [this];omega
 refine iCndF rfl ?_
 have hres:insT t L = L.take k ++ [t] ++ L.drop k:=by
  rw [hsp]
  rcases Nat.lt_or_ge k L.length with h | h
  ·rw [decide_eq_true h,Bool.true_and] at hc hc2
   rw [List.drop_eq_getElem_cons h,← gt_eq h,insT,hc,if_neg (by decide),if_neg (of_decide_eq_false hc2)]
   simp
  ·rw [List.drop_of_length_le h];simp [insT]
 have hlo6:w.heap.size ≤ w6.heap.size:=(x3.trans h6').size
 refine iBs0 fun v7 w7 hw7 h7 ho7=>?_
 have hs7:=hs6.ext h7
 refine iSlTo hs7.sl (by rw [aI];exact hk) fun u hu=>?_
 rw [GB] at hu
 refine iAppA bS b6 rfl ho7 hu (l3 _) (by rw [aI,List.length_take,List.length_nil];omega) (by rw [aI,List.length_take,List.length_nil];omega) (by omega) fun v8 w8 ho8 hg8 _=>?_
 have hX8:=h7.grown hg8 fun b hb=>(ho7.blk b hb).1
 have hs8:=hs6.ext hX8
 refine rdA (h6'.trans hX8) ?_
 refine sR bS b6 rfl ho8 rfl (by rw [List.length_append,aI,List.length_take,List.length_nil];omega) (by rw [List.length_append,aI,List.length_take,List.length_nil];omega) (by have:=hX8.size;omega) fun v10 w10 ho10 hg10 _=>?_
 have hX10:=hX8.grown hg10 fun b hb=>(ho8.blk b hb).1
 have hs10:=hs6.ext hX10
 refine RL hs10.sl (by rw [aI];exact hk) fun u' hu'=>?_
 rw [OM] at hu'
 rw [List.nil_append,show strs (L.take k) ++ [sv t] = strs (L.take k ++ [t]) from s4 _ _] at ho10
 refine iAppA bS b6 rfl ho10 hu' (l3 _) (by rw [aI,aI,List.length_append,List.length_take,List.length_drop,List.length_singleton];omega) (by rw [aI,aI,List.length_append,List.length_take,List.length_drop,List.length_singleton];omega) (by have:=hX10.size;omega) fun v12 w12 ho12 hg12 _=>?_
 have hX12:=hX10.grown hg12 fun b hb=>(ho10.blk b hb).1
 have hlen:(insT t L).length ≤ i + 1:=by
  rw [hres,List.length_append,List.length_append,List.length_take,List.length_drop,List.length_singleton];omega
 refine next ((x3.trans h6').trans hX12) ?_ hlen
 rw [hres]
 have e:strs (L.take k ++ [t]) ++ strs (L.drop k) = strs (L.take k ++ [t] ++ L.drop k):=(List.map_append).symm
 rw [e] at ho12
 exact ho12.mono hlo6
theorem qR {va vb:Value} {L:List Str} {w:World} (ha:SlT w va L) (hb:SlT w vb L):Ret Tryz.prog uC #[va,vb] w (.bool true):=by
 apply HF;unfold tW
 have hln:=ha.len
 rw [aI] at hln
 refine aM ha (aM hb ?_)
 refine iNe (iCndF (by simp) ?_)
 refine iLp (fun k:Nat=>[.int .i64 (k:Int)]) (fun k w'=>k ≤ L.length ∧ Ext w w') (fun k=>L.length - k) 0 rfl ⟨Nat.zero_le _,Ext.refl _⟩ ?_
 rintro k w2 Kn ⟨hk,x2⟩ hKn
 intro _
 simp only [gx]
 refine aM (ha.ext x2) ?_
 refine iLt (iCndP (fun h=>?_) (fun h=>?_))
 ·refine iIaG (ha.ext x2) rfl (by omega) ?_
  refine iIaG (hb.ext x2) rfl (by omega) ?_
  refine iNeT ?_
  intro w3 x3
  refine iCndF (by simp) ?_
  refine iAdd (by omega) ?_
  exact hKn (k + 1) _ ⟨by omega,x2.trans x3⟩ (by omega)
 ·exact ⟨by first | trivial | rfl,x2⟩
end Go.Proofs.YtkjoppimpmojfaaGreat

namespace Go.Vc
theorem KK {t:Str} (h:plT t = true):PmT t:=by
 obtain ⟨-,h1,h2,h3,h4⟩:=dY h
 obtain ⟨h5,h6,-⟩:=bL h4
 exact ⟨⟨fT t,h1,h2,h3.symm⟩,h5,h6⟩
theorem PrW.rd {t1 t2:TypeId} {w:World} {v:Value} {R:List IV} (h:PrW t1 t2 w v R):RdI w v R:=⟨h.row,fun x hx=>(h.prem x hx).sl,fun x hx=>(h.left x hx).sl⟩
end Go.Vc
namespace Go.Proofs.YtkjoppimpmojfaaGreat
open Go.Vc
theorem NC {va vb:Value} {A B:List Str} {w:World} (ha:SlT w va A) (hb:SlT w vb B) (hs:∀ t ∈ A,t ∈ B):Ret Tryz.prog ER #[va,vb] w (.bool true):=by
 apply PC;unfold FB
 have hc:aD vb = true:=by
  obtain ⟨a,c,e,_⟩:=hb
  rw [e];rfl
 refine iNew fun q w1 hq x1 hB=>?_
 rw [aH hc] at hB
 refine iRet (m7 (p:=fun t=>!decide (t ∈ B)) (Sl.ext ha x1) fun t _ w' x'=>?_) fun w2 x2=>iNot ⟨?_,x1.trans x2⟩
 ·refine iClo rfl ?_
  show Cal Tryz.prog zC #[sv t,.pointer (some ⟨q,0,none⟩)] w' _
  apply KG;unfold xQ
  refine iLdB (hB.ext x') (i:=0) (v:=vb) rfl ?_
  exact iRet (iA (t:=t) (Sl.ext hb (x1.trans x'))) fun w3 x3=>iNot ⟨rfl,x3⟩
 ·rw [show (A.any fun t=>!decide (t ∈ B)) = false from List.any_eq_false.2 fun t ht=>by rw [decide_eq_true (hs t ht)];decide]
  rfl
theorem IQ {v:Value} {L:List Str} {r main:Str} {w:World} (hv:TxW 0 w v L) (hm:plT main = true) (hl:L.length ≤ 1000000000):
  Cal Tryz.prog jU #[.agg #[v,sv r],.int .i64 11,sv main] w (GlQ w ([(L,main),(addT L main,r)],true)):=by
 apply tX;unfold nA
 refine iNew2 fun q w1 hq x1 hB1=>?_
 have hv1:=hv.ext x1
 refine iEq (iCndF (by decide) (iEq (iCndF (by decide) (iEq ?_))))
 refine iJnB false w1 (fun J hJ=>?_) fun w9 x9=>?_
 ·refine iCndF (by decide) (iEq (iJnB false w1 (fun J' hJ'=>?_) fun w11 x11=>fun _=>hJ _ x11))
  exact iCndF (by decide) (iEq (hJ' _ (Ext.refl _)))
 intro _
 simp only [gx]
 have X9:=x1.trans x9
 have hB9:=hB1.ext x9
 refine iCndF rfl (iEq (iCndT (by decide) (iLd2 hB9 (iLd2 hB9 ?_))))
 have wi:∀ {w':World} {b:Nat} {K:Value → World → Prop},Ext w w' → Blk aB w' b [sv main] → (∀ u w'',Ext w' w'' → TxW 0 w'' u (addT L main) → K (.agg #[u,sv r]) w'') → callV Tryz.prog (.func (.func kK) #[] #[]) [.agg #[v,sv r],.slice (some ⟨b,0,none⟩) 1 1] w' K:=fun {w' b K} x hB h=>by
  refine iCall ((nD (L:=L) (ts:=[main]) (lo':=0) (hv.ext x) (Ow.ofBlk (n:=1) hB (Nat.zero_le _) rfl (by decide)) (by simp;omega)).mono ?_)
  rintro _ w'' ⟨x',u,rfl,hu⟩
  exact h u w'' x' (hu.mono (Nat.zero_le _))
 have fin:∀ {w':World} {u:Value},Ext w w' → TxW 0 w' u (addT L main) → callQ Tryz.prog (.func (.func iY) #[] #[]) [sv main] w' fun v58=>∀ w24,Ext w' w24 → xBs bR (Value.cells (.agg #[.slice none 0 0,.string ⟨#[]⟩])) 2 2 [(0,.agg #[v,sv main]),(1,.agg #[u,sv r])] w24 fun v56 w25=>Ext w24 w25 ∧ ∀ w26,Ext w25 w26 → GlQ w ([(L,main),(addT L main,r)],true) (.tuple #[v56,v58]) w26:=fun {w' u} x hu=>by
  refine iRetQ (fun w'' x''=>gH main w'') ?_
  rw [hm]
  intro w24 x24
  refine iBsA2 fun b w25 _ x25 hB25=>⟨x25,fun w26 x26=>?_⟩
  have xx:=(x24.trans x25).trans x26
  exact GlQ.two rfl (x.trans xx) (hB25.ext x26) (hv.ext (x.trans xx)) (hu.ext xx)
 intro w18 x18
 have X18:=X9.trans x18
 refine ⟨?_,?_⟩
 ·refine iRet (bH hv.cell) fun w19 x19=>⟨x19,fun w20 x20=>?_⟩
  refine iBs1 rfl rfl fun b w21 _ x21 hB=>⟨x21,fun w22 x22=>?_⟩
  have X22:=(X18.trans (x19.trans x20)).trans (x21.trans x22)
  refine wi X22 (hB.ext x22) fun u w23 x23 hu=>?_
  exact fin (X22.trans x23) hu
 ·refine iBs1 rfl rfl fun b w27 _ x27 hB=>⟨x27,fun w28 x28=>?_⟩
  refine iRet (bH hv.cell) fun w29 x29=>⟨x29,fun w30 x30=>?_⟩
  have X30:=(X18.trans (x27.trans x28)).trans (x29.trans x30)
  refine wi X30 (hB.ext ((x28.trans x29).trans x30)) fun u w31 x31 hu=>?_
  exact fin (X30.trans x31) hu
theorem vP {R:List IV} {k:Nat} (hk:k < R.length) (hR:R.length ≤ 60) (hg:GoodC (R.map IV.i) k) (hl12:(gt R k).i.left.length ≤ 12) {v0:Value} {w:World} (h0:SlK 5 w v0 k (cA (R.take k))) (hpr:∀ x ∈ R,Ow 0 t_i64 w x.vp (ints (nats x.i.prem))) (hlr:∀ x ∈ R,TxW 0 w x.vl x.i.left):
  Ret Tryz.prog nS #[v0,.agg (gt R k).cs.toArray] w (.bool true):=by
 have hmem:∀ {j:Nat},j < R.length → gt R j ∈ R:=fun hj=>by rw [gt_eq hj];exact List.getElem_mem _
 have hgi:∀ {j:Nat},j < R.length → gt (R.map IV.i) j = (gt R j).i:=fun hj=>d7 hj
 have hgp:=LE hg
 obtain ⟨g4,g5,g6,g7,grule⟩:=hg
 rw [hgi hk] at g4 g5 g6 g7 grule hgp
 have g8:=hl12
 have gq:∀ q,q < k → ((gt (R.map IV.i) q).left,(gt (R.map IV.i) q).right) = ((gt R q).i.left,(gt R q).i.right):=fun q hq=>by rw [hgi (by omega)]
 have hpm:=hpr _ (hmem hk)
 have hlm:=hlr _ (hmem hk)
 generalize hx:gt R k = x at *
 obtain ⟨⟨rule,ps,L,r,main⟩,vp,vl⟩:=x
 have hpm:Ow 0 t_i64 w vp (ints (nats ps)):=hpm
 have hlm:TxW 0 w vl L:=hlm
 apply AB;unfold nK
 refine iNew5 fun q1 w1 hq1 x1 hB1=>?_
 have hB1:Blk aT w1 q1 [.int .i64 (rule:Int),vp,vl,sv r,sv main]:=hB1
 refine iFa (iLdB hB1 (i:=2) (v:=vl) rfl ?_)
 refine iFa (iLdB hB1 (i:=3) (v:=sv r) rfl ?_)
 refine iRet (HS (hlm.ext x1).sl g5 (fun t ht=>KK (g6 t ht)) g8 (KK g7)) fun w2 x2=>?_
 refine iNot (iCndF rfl ?_)
 have X2:=x1.trans x2
 have hB2:=hB1.ext x2
 refine iFa (iLdB hB2 (i:=1) (v:=vp) rfl ?_)
 have hpl:(ints (nats ps)).length = ps.length:=by rw [bA,eA]
 refine iLenS (hpm.ext X2).sl ?_
 rw [hpl]
 have hpsl:=(hpm.sl).len
 rw [hpl] at hpsl
 have h2:ps.length ≤ 1000:=hgp
 refine iLp (fun s:Value × Nat=>[s.1,.int .i64 (s.2:Int)]) (fun s w'=>s.2 ≤ ps.length ∧ Ext w2 w' ∧ ∃ RG:List (Value × Sq),RG.map Prod.snd = (ps.take s.2).map (seqAt (R.map IV.i)) ∧ OwK 2 w2.heap.size bR w' s.1 RG.length (cH RG) ∧ ∀ x ∈ RG,TxW 0 w' x.1 x.2.1) (fun s=>ps.length - s.2) (.slice none 0 0,0) rfl ⟨Nat.zero_le _,Ext.refl _,[],rfl,OwK.nil 2 _ _ _,fun x hx=>(by cases hx)⟩ ?_
 rintro ⟨gv,i⟩ w4 Kn ⟨hi,x4,RG,hRG,hrow,hRL⟩ hKn
 have hi:i ≤ ps.length:=hi
 have hRG:RG.map Prod.snd = (ps.take i).map (seqAt (R.map IV.i)):=hRG
 have hrow:OwK 2 w2.heap.size bR w4 gv RG.length (cH RG):=hrow
 have hRGl:RG.length = i:=by
  have:=congrArg List.length hRG
  rw [List.length_map,List.length_map,List.length_take] at this
  omega
 have X4:=X2.trans x4
 have hB4:=hB2.ext x4
 intro _
 simp only [gx]
 refine iLt (iCndP (fun h=>?_) (fun h=>?_))
 ·have hil:i < ps.length:=by omega
  have hq:gt ps i < k:=g4 _ (by rw [gt_eq hil];exact List.getElem_mem _)
  refine iIaNN (l:=ps) (j:=i) (hpm.ext X4).sl hil fun p hp=>?_
  refine iLd (v:=.int .i64 ((gt ps i:Nat):Int)) hp ?_
  refine iLenK (SlK.ext h0 X4) ?_
  refine iSub (by omega) ?_
  refine iRet (iP _ _ _ w4) fun w5 x5=>?_
  rw [decide_eq_true (show (0:Int) ≤ ((gt ps i:Nat):Int) ∧ ((gt ps i:Nat):Int) ≤ (k:Int) - 1 by omega)]
  refine iNot (iCndF rfl ?_)
  have X5:=X4.trans x5
  have htk:(R.take k).length = k:=by rw [List.length_take];omega
  refine iAt5 (SlK.ext h0 X5) htk.symm (by omega) ?_
  have hqR:gt ps i < R.length:=by omega
  have hgq:gt (R.take k) (gt ps i) = gt R (gt ps i):=by
   rw [gt_eq (by omega),gt_eq hqR,List.getElem_take]
  rw [hgq]
  have hyl:=(hlr _ (hmem hqR)).ext X5
  generalize hy:gt R (gt ps i) = y at *
  refine iRet (eX hyl.cell) fun w6 x6=>?_
  refine iBsA fun bb w7 hbb x7 hB7=>?_
  have x47:=(x5.trans x6).trans x7
  refine iAppK GI GH rfl (by decide) (OwK.ext hrow x47) (SlK.ofBlk (n:=1) hB7 rfl (by decide)) (fun z hz=>by
   simp only [List.mem_cons,List.not_mem_nil,or_false] at hz
   rcases hz with rfl | rfl
   ·exact hyl.cell
   ·rfl) (by omega) (by omega) (Nat.le_trans x4.size x47.size) fun gv' w8 hrow8 hg8 hat8=>?_
  refine iAdd (by omega) ?_
  have x8:Ext w2 w8:=(x4.trans x47).grown hg8 fun c hc=>(OwK.blk hrow c hc).1
  have hgr:=dG (S:=fun k=>gv.ownBlock = some k) hg8 fun k hk=>hk
  have keep:∀ {v':Value} {L':List Str},TxW 0 w7 v' L' → TxW 0 w8 v' L':=fun h=>h.ch hgr fun c hc hS=>absurd (ne_ty (h.ty hc) (OwK.ty (OwK.ext hrow x47) hS)) (by decide)
  refine hKn (gv',i + 1) _ ⟨hil,x8,RG ++ [(y.vl,seqI y.i)],?_,?_,fun z hz=>?_⟩ (by show ps.length - (i + 1) < ps.length - i;omega)
  ·show _ = (ps.take (i + 1)).map _
   rw [List.map_append,hRG,List.take_succ_eq_append_getElem hil,List.map_append,← gt_eq hil]
   congr 1
   show [seqI y.i] = [seqAt (R.map IV.i) (gt ps i)]
   unfold seqAt
   rw [hgi hqR,hy];rfl
  ·show OwK 2 _ _ _ gv' _ _
   rw [C9,List.length_append]
   exact hrow8
  ·rcases List.mem_append.1 hz with hz | hz
   ·exact keep ((hRL z hz).ext x47)
   ·rw [List.mem_singleton.1 hz]
    exact keep (hyl.ext (x6.trans x7))
 ·have hil:i = ps.length:=by omega
  rw [hil,List.take_length] at hRG
  refine iFa (iLdB hB4 (i:=0) (v:=.int .i64 (rule:Int)) rfl ?_)
  refine iEq (iCndP (fun h10=>?_) (fun h10=>?_))
  ·obtain ⟨q,a2,a3,a4,a5⟩:∃ q,main = [] ∧ ps = [q] ∧ (gt (R.map IV.i) q).right = r ∧ ∀ t ∈ (gt (R.map IV.i) q).left,t ∈ L:=by
    rcases grule with ⟨_,a2,q,a3,a4,a5⟩ | ⟨_,_,a1,_⟩
    ·exact ⟨q,a2,a3,a4,a5⟩
    ·exact absurd (show rule = 10 by omega) a1
   have hR1:RG.length = 1:=by
    have:=congrArg List.length a3
    rw [List.length_singleton] at this
    omega
   obtain ⟨y,rfl⟩:∃ y,RG = [y]:=List.length_eq_one_iff.1 hR1
   have hy:y.2 = seqAt (R.map IV.i) q:=by
    rw [a3] at hRG
    simpa using hRG
   have hyL:TxW 0 w4 y.1 y.2.1:=hRL y (List.mem_singleton.2 rfl)
   refine iJnB true w4 (fun J hJ=>?_) (fun w21 x21=>fun _=>⟨by first | trivial | rfl,X4.trans x21⟩)
   refine iFa (iLdB hB4 (i:=4) (v:=sv main) rfl (iEqT (b:=[]) (iCndT (decide_eq_true a2) ?_)))
   refine iLenK hrow.sl (iEq (iCndT (by simp) ?_))
   refine iFld (f:=1) (j:=0) (x:=sv y.2.2) hrow.sl rfl (by simp) (by decide) rfl ?_
   refine iFa (iLdB hB4 (i:=3) (v:=sv r) rfl (iEqT (iCndT (decide_eq_true (by rw [hy];exact a4)) ?_)))
   refine iFld (f:=0) (j:=0) (x:=y.1) hrow.sl rfl (by simp) (by decide) rfl ?_
   refine iFa (iLdB hB4 (i:=2) (v:=vl) rfl ?_)
   refine iRetQ (fun w' x'=>NC (hyL.ext x').sl (hlm.ext (X4.trans x')).sl (by rw [hy];exact a5)) ?_
   exact fun w11 x11=>hJ _ x11
  obtain ⟨a1,a2,hgo⟩:1 ≤ rule ∧ rule ≤ 11 ∧ aJ L r rule main = (ps.map (seqAt (R.map IV.i)),true):=by
   rcases grule with ⟨b1,_⟩ | ⟨b1,b2,_,b4⟩
   ·exact absurd (show (rule:Int) = 10 by have b1:rule = 10:=b1;omega) h10
   ·exact ⟨b1,b2,b4⟩
  have hGs:GsW w4 gv (ps.map (seqAt (R.map IV.i))):=⟨RG,hRG,hrow.mono (Nat.zero_le _),hRL⟩
  refine iLdA hB4 rfl ?_
  refine iFa (iLdB hB4 (i:=0) (v:=.int .i64 (rule:Int)) rfl ?_)
  refine iFa (iLdB hB4 (i:=4) (v:=sv main) rfl ?_)
  intro w15 x15
  have hl15:=hlm.ext (X4.trans x15)
  refine iRet (eX (x:=⟨⟨rule,ps,L,r,main⟩,vp,vl⟩) hl15.cell) fun w16 x16=>⟨x16,fun w17 x17=>?_⟩
  have x1517:=x16.trans x17
  have hgoal:Cal Tryz.prog jU #[.agg #[vl,sv r],.int .i64 (rule:Int),sv main] w17 (GlQ w17 (ps.map (seqAt (R.map IV.i)),true)):=by
   rw [← hgo]
   unfold aJ
   by_cases h11:rule = 11
   ·have hpm:plT main = true:=(inv11 (h11 ▸ hgo)).1
    rw [if_pos h11,h11,hpm]
    exact IQ (hl15.ext x1517) hpm (by have:L.length ≤ 12:=g8;omega)
   ·rw [if_neg h11]
    exact F3 (hl15.ext x1517) (fun t ht=>KK (g6 t ht)) (KK g7) (by have:L.length ≤ 12:=g8;omega) (by omega)
  refine iCall (hgoal.mono ?_)
  rintro _ w18 ⟨x18,u,rfl,hu⟩
  refine iEx rfl (iEx rfl ?_)
  intro w19 x19
  have x419:=((x15.trans x1517).trans x18).trans x19
  have X19:=X4.trans x419
  refine iJnB true w19 (fun J hJ=>?_) (fun w21 x21=>fun _=>⟨by first | trivial | rfl,X19.trans x21⟩)
  refine iCndT rfl ?_
  exact iRet (PI (hGs.ext x419) (hu.ext x19)) fun w22 x22=>hJ _ x22
theorem kU {R:List IV} {v:Value} {w:World} (hR:R.length ≤ 60) (hp:PrW t_i64 aB w v R) (hg:∀ k,k < R.length → GoodC (R.map IV.i) k) (hl:∀ x ∈ R,x.i.left.length ≤ 12):Ret Tryz.prog lT #[v] w (.int .i64 (-1)):=by
 apply wU;unfold lU
 refine iLenK hp.row ?_
 refine iLp (fun i:Nat=>[.int .i64 (i:Int)]) (fun i w'=>i ≤ R.length ∧ Ext w w') (fun i=>R.length - i) 0 rfl ⟨Nat.zero_le _,Ext.refl _⟩ ?_
 rintro i w2 Kn ⟨hi,x2⟩ hKn
 intro _
 simp only [gx]
 refine iLt (iCndP (fun h=>?_) (fun h=>⟨by first | trivial | rfl,x2⟩))
 have hil:i < R.length:=by omega
 have hm:gt R i ∈ R:=by rw [gt_eq hil];exact List.getElem_mem _
 have hp2:=hp.ext x2
 refine iAt5 hp2.row rfl hil ?_
 refine iNew5 fun q3 w3 hq3 x3 hB3=>?_
 refine iStAB hB3 rfl rfl (fun y hy=>?_) fun w4 hu4 hB4=>?_
 ·simp only [IV.cs,List.mem_cons,List.not_mem_nil,or_false] at hy
  rcases hy with rfl | rfl | rfl | rfl | rfl
  ·rfl
  ·exact (hp2.prem _ hm).cell
  ·exact (hp2.left _ hm).cell
  ·rfl
  ·rfl
 have x24:Ext w2 w4:=x3.upd hu4 (by omega)
 have hp4:=hp2.ext x24
 refine M8 hp4.row (by omega) fun v' hv'=>?_
 rw [QU] at hv'
 refine iLdA hB4 rfl ?_
 refine iRetQ (fun w' x'=>vP hil hR (hg i hil) (hl _ hm) (SlK.ext hv' x') (fun x hx=>(hp4.prem x hx).ext x') (fun x hx=>(hp4.left x hx).ext x')) ?_
 refine iNot ?_
 intro w5 x5
 refine iCndF rfl (iAdd (by omega) ?_)
 exact hKn (i + 1) _ ⟨by omega,(x2.trans x24).trans x5⟩ (by omega)
theorem s9 {R:List IV} {v:Value} {w:World} (h1:1 ≤ R.length) (hR:R.length ≤ 60) (hp:PrW t_i64 aB w v R) (hg:∀ k,k < R.length → GoodC (R.map IV.i) k) (hl:∀ x ∈ R,x.i.left.length ≤ 12):Ret Tryz.prog l5 #[v] w (.tuple #[.int .i64 (-1),.int .i64 0]):=by
 apply wR;unfold lR
 refine iRet (v:=.bool true) ?_ fun w1 x1=>?_
 ·apply m5;unfold iN
  refine iJnB true w (fun J hJ=>?_) (fun w2 x2=>fun _=>⟨by first | trivial | rfl,x2⟩)
  refine iLenK hp.row (iLe (iCndT (decide_eq_true (by omega)) ?_))
  refine iLenK hp.row (iLe ?_)
  rw [decide_eq_true (by omega)]
  exact hJ _ (Ext.refl _)
 refine iNot (iCndF rfl ?_)
 exact iRet (kU hR (hp.ext x1) hg hl) fun w2 x2=>⟨rfl,x1.trans x2⟩
end Go.Proofs.YtkjoppimpmojfaaGreat

namespace Go.Proofs.YtkjoppimpmojfaaGreat
open Go.Vc
theorem pQ {v va fv:Value} {w:World} (hs:Sl w v [va]) (hf:∀ w',Ext w w' → callV Tryz.prog fv [va] w' fun u w''=>u = .bool false ∧ Ext w' w''):
  Ret Tryz.prog bZ #[v,fv] w (.bool false):=by
 apply fK;unfold bX
 refine iRet (v:=.int .i64 (-1)) ?_ fun w1 x1=>iLe ⟨rfl,x1⟩
 apply gA;unfold cN
 refine iLenS hs ?_
 refine iLp (fun i:Nat=>[.int .i64 (i:Int)]) (fun i w'=>i ≤ 1 ∧ Ext w w') (fun i=>1 - i) 0 rfl ⟨Nat.zero_le _,Ext.refl _⟩ ?_
 rintro i w2 Kn ⟨hi,h2⟩ hKn
 intro _
 simp only [gx]
 refine iLt (iCndP (fun h=>?_) (fun h=>⟨by first | trivial | rfl,h2⟩))
 have hi0:i = 0:=by simp at h;omega
 subst hi0
 refine iIa (j:=0) (hs.ext h2) (by omega) (by simp) fun p hp=>?_
 have hp:w2.cell? p = some va:=hp
 refine iLd hp ?_
 refine (hf w2 h2).mono ?_
 rintro u w3 ⟨rfl,x3⟩
 refine iCndF rfl (iAdd (by omega) ?_)
 exact hKn 1 _ ⟨Nat.le_refl _,h2.trans x3⟩ (by omega)
theorem uX {v:Value} {n:Nat} {xs:List Value} {w:World} (hs:SlK 5 w v n xs) (h1:1 ≤ n) (h2:n ≤ 60):Ret Tryz.prog mV #[v] w (.bool true):=by
 apply m5;unfold iN
 refine iJnB true w (fun J hJ=>?_) (fun w2 x2=>fun _=>⟨by first | trivial | rfl,x2⟩)
 refine iLenK hs (iLe (iCndT (decide_eq_true (by omega)) ?_))
 refine iLenK hs (iLe ?_)
 rw [decide_eq_true (by omega)]
 exact hJ _ (Ext.refl _)
theorem oX {v va:Value} {R:List IV} {w:World} (hs:Sl w v [va]) (h1:1 ≤ R.length) (hR:R.length ≤ 60) (hp:PrW t_i64 aB w va R) (hg:∀ k,k < R.length → GoodC (R.map IV.i) k) (hl:∀ x ∈ R,x.i.left.length ≤ 12):Ret Tryz.prog qO #[v] w (.int .i64 0):=by
 apply FG;unfold qN
 refine iRet (pQ hs fun w' x'=>iClo rfl ?_) fun w1 x1=>iCndF rfl ?_
 ·show Cal Tryz.prog o3 #[va] w' _
  apply BQ;unfold oU
  exact iRet (uX (hp.ext x').row h1 hR) fun w2 x2=>iNot ⟨rfl,x2⟩
 refine iRet (pQ (hs.ext x1) fun w' x'=>iClo rfl ?_) fun w2 x2=>iCndF rfl ⟨rfl,x1.trans x2⟩
 ·show Cal Tryz.prog oV #[va] w' _
  apply B9;unfold oW
  exact iRet (kU hR (hp.ext (x1.trans x')) hg hl) fun w3 x3=>iLe ⟨rfl,x3⟩
theorem CZ {v:Value} {R:List IV} {w:World} (h1:1 ≤ R.length) (hp:PrW t_i64 aB w v R):Ret Tryz.prog EG #[v] w (.agg #[(gt R (R.length - 1)).vl,sv (gt R (R.length - 1)).i.right]):=by
 have hm:gt R (R.length - 1) ∈ R:=by rw [gt_eq (by omega)];exact List.getElem_mem _
 have hc:=(hp.left _ hm).cell
 have hln:=hp.row.len
 apply O5;unfold EC
 refine iNew2 fun q w1 hq x1 hB=>?_
 refine iLenK hp.row (iSub (by omega) ?_)
 rw [show (R.length:Int) - 1 = ((R.length - 1:Nat):Int) by omega]
 refine iAt5 (hp.ext x1).row rfl (by omega) ?_
 refine iRet (eX hc) fun w2 x2=>?_
 refine iSt2 (hB.ext x2) rfl hc rfl fun w3 hB3 hc3=>?_
 exact iLd2 hB3 ⟨rfl,(x1.trans x2).thenCh hc3 fun c hc=>by omega⟩
theorem z6 {v:Value} {R:List IV} {w:World} (h1:1 ≤ R.length) (hR:R.length ≤ 60) (hp:PrW t_i64 aB w v R) (hg:∀ k,k < R.length → GoodC (R.map IV.i) k) (hl:∀ x ∈ R,x.i.left.length ≤ 12):
  Cal Tryz.prog pC #[v] w fun r w'=>Ext w w' ∧ ∃ u,r = .tuple #[u,sv (gt R (R.length - 1)).i.right,.int .i64 0] ∧ SlT w' u (gt R (R.length - 1)).i.left:=by
 have hm:gt R (R.length - 1) ∈ R:=by rw [gt_eq (by omega)];exact List.getElem_mem _
 have hvc:aD v = true:=by
  obtain ⟨_,a,c,e,_⟩:=hp.row
  rw [e];rfl
 apply DY;unfold pU
 refine iBs1 rfl hvc fun b w1 _ x1 hB=>?_
 refine iRet (oX (Sl.ofBlk (n:=1) hB rfl (by decide)) h1 hR (hp.ext x1) hg hl) fun w2 x2=>?_
 have X2:=x1.trans x2
 refine iNe (iCndF (by decide) ?_)
 refine iRet (CZ h1 (hp.ext X2)) fun w3 x3=>?_
 have X3:=X2.trans x3
 have hlf:=(hp.left _ hm).ext X3
 refine iNew2 fun q w4 hq x4 hB4=>?_
 refine iSt2 hB4 rfl hlf.cell rfl fun w5 hB5 hc5=>?_
 have x35:Ext w3 w5:=x4.thenCh hc5 fun c hc=>by omega
 refine iFa (iLdB hB5 (i:=0) (v:=(gt R (R.length - 1)).vl) rfl ?_)
 refine iFa (iLdB hB5 (i:=1) (v:=sv (gt R (R.length - 1)).i.right) rfl ?_)
 intro w6 x6
 refine iCall ((oL ((hlf.ext x35).ext x6) (Nat.le_trans (hl _ hm) (by decide))).mono ?_)
 rintro u w7 ⟨x7,hu⟩
 refine ⟨x7,fun w8 x8=>?_⟩
 exact ⟨(((X3.trans x35).trans x6).trans x7).trans x8,u,rfl,(hu.ext x8).sl⟩
theorem DE {v:Value} {R:List IV} {w:World} (h1:1 ≤ R.length) (hR:R.length ≤ 60) (hp:PrW t_i64 aB w v R) (hg:∀ k,k < R.length → GoodC (R.map IV.i) k) (hl:∀ x ∈ R,x.i.left.length ≤ 12):
  Cal Tryz.prog sO #[v] w fun r w'=>Ext w w' ∧ (r = .tuple #[.slice none 0 0,.slice none 0 0,.int .i64 3] ∨ ∃ u t,r = .tuple #[u,t,.int .i64 0] ∧ SlT w' u (gt R (R.length - 1)).i.left ∧ RdT w' t (gt (aV (R.map IV.i) R.length) (R.length - 1)).raw ∧ (gt (aV (R.map IV.i) R.length) (R.length - 1)).raw.length ≤ 60 ∧ numLe 99 (gt (aV (R.map IV.i) R.length) (R.length - 1))):=by
 have hm:gt R (R.length - 1) ∈ R:=by rw [gt_eq (by omega)];exact List.getElem_mem _
 have hvc:aD v = true:=by
  obtain ⟨_,a,c,e,_⟩:=hp.row
  rw [e];rfl
 apply GV;unfold sJ
 refine iBs1 rfl hvc fun b w1 _ x1 hB=>?_
 refine iRet (oX (Sl.ofBlk (n:=1) hB rfl (by decide)) h1 hR (hp.ext x1) hg hl) fun w2 x2=>?_
 have X2:=x1.trans x2
 refine iEq (iCndT (by decide) ?_)
 refine iCall ((HJ h1 hR (hp.ext X2).rd hg hl).mono ?_)
 rintro _ w3 ⟨x3,rfl | ⟨u,rfl,hu,h60,hn⟩⟩
 ·exact iE20 (iE21 (iNe (iCndT (by decide) ⟨X2.trans x3,.inl rfl⟩)))
 refine iE20 (iE21 (iNe (iCndF (by decide) ?_)))
 have X3:=X2.trans x3
 refine iRet (CZ h1 (hp.ext X3)) fun w4 x4=>?_
 have X4:=X3.trans x4
 have hlf:=(hp.left _ hm).ext X4
 refine ⟨_,_,rfl,rfl,?_⟩
 refine iCall ((oL hlf (Nat.le_trans (hl _ hm) (by decide))).mono ?_)
 rintro a w5 ⟨x5,ha⟩
 refine iCall ((uM (SlK.ext (OwK.sl hu) (x4.trans x5)) (Tm.raw_pos _) (by omega)).mono ?_)
 rintro t w6 ⟨x6,ht⟩
 exact ⟨(X4.trans x5).trans x6,.inr ⟨a,t,rfl,(ha.ext x6).sl,ht.sl,h60,hn⟩⟩
end Go.Proofs.YtkjoppimpmojfaaGreat

namespace Go.Vc
theorem UY {P:List Ded} (h:(outD P).1 = 0):codeD P = 0 ∧ limD (seqD P P.length).1 = true ∧ (outD P).2 = (seqD P P.length).1:=by
 unfold outD at h ⊢
 by_cases h1:codeD P = 0
 ·rw [if_pos h1] at h ⊢
  by_cases h2:limD (seqD P P.length).1 = true
  ·rw [if_pos h2];exact ⟨h1,h2,rfl⟩
  ·rw [if_neg h2] at h;cases h
 ·rw [if_neg h1] at h;exact absurd h h1
theorem UU {P:List Ded} (h:0 < P.length):gt (seqD P P.length).2 (P.length - 1) = (seqD P P.length).1.length - 1:=by
 obtain ⟨n,hn⟩:∃ n,P.length = n + 1:=⟨P.length - 1,by omega⟩
 rw [hn,Nat.add_sub_cancel,ON]
 rw [seqD]
 simp only [List.length_append]
end Go.Vc
namespace Go.Proofs.YtkjoppimpmojfaaGreat
open Go.Vc
theorem OwI.prw {lo:Nat} {w:World} {v:Value} {R:List IV} (h:OwI lo w v R):PrW t_i64 aB w v R:=by
 refine ⟨h.row.sl,fun x hx=>?_,fun x hx=>?_⟩
 ·obtain ⟨j,hj,rfl⟩:=List.getElem_of_mem hx
  rw [← gt_eq hj];exact (h.prem j hj).mono (Nat.zero_le _)
 ·obtain ⟨j,hj,rfl⟩:=List.getElem_of_mem hx
  rw [← gt_eq hj];exact (h.left j hj).mono (Nat.zero_le _)
theorem pI {w:World} {vc:Value} {bs:List Nat} (hc:SlB w vc bs):Ret Tryz.prog jN #[vc] w (.bool true):=by
 apply qH;unfold jO
 refine iRet (Q4 hc) fun w1 x1=>?_
 refine iCndP (fun _=>⟨by first | trivial | rfl,x1⟩) (fun _=>?_)
 refine iCall ((o6 (hc.ext x1)).mono ?_)
 rintro v25 w2 ⟨x2,R,hR,hp4⟩
 have X2:=x1.trans x2
 have hpb:∀ x ∈ R,x.d.prem.length ≤ 1000000000:=fun x hx=>by have:=hp4 x hx;omega
 refine iCall ((sD hR hpb).mono ?_)
 rintro _ w3 ⟨x3,lo1,u1,Q1,rfl,_,hQ1,hm1⟩
 refine iE20 (iE21 ?_)
 refine iCall ((sK (hR.ext x3) hpb).mono ?_)
 rintro _ w4 ⟨x4,lo2,u2,Q2,rfl,_,hQ2,hm2⟩
 refine iE20 (iE21 ?_)
 have X4:=(X2.trans x3).trans x4
 have hQ1:=hQ1.ext x4
 have hlen:Q1.length = Q2.length:=by
  have:=congrArg List.length (hm1.trans hm2.symm)
  rwa [List.length_map,List.length_map] at this
 have hat:∀ {j:Nat},j < Q2.length → (gt Q1 j).i = (gt Q2 j).i:=fun {j} hj=>by
  have h1:(Q1.map IV.i)[j]? = (Q2.map IV.i)[j]?:=by rw [hm1,hm2]
  rw [List.getElem?_map,List.getElem?_map,List.getElem?_eq_getElem (by omega),List.getElem?_eq_getElem hj] at h1
  rw [gt_eq (by omega),gt_eq hj]
  exact Option.some.inj h1
 have hR4:=hR.ext (x3.trans x4)
 have hP1:=OwI.prw hQ1
 have hP2:=OwI.prw hQ2
 refine iJnB false w4 (fun J hJ=>?_) (fun w6 x6=>?_)
 ·refine iNe (iCndF (decide_eq_false fun h=>h rfl) ?_)
  refine iLenK hP1.row (iLenK hP2.row (iNe ?_))
  rw [decide_eq_false (by omega)]
  exact hJ _ (Ext.refl _)
 intro _
 simp only [gx]
 refine iCndF rfl ?_
 have X6:=X4.trans x6
 have hP1:=hP1.ext x6
 have hP2:=hP2.ext x6
 have hR6:=hR4.ext x6
 have hln2:=hP2.row.len
 clear hQ1 hQ2 hR4
 refine iLp (fun i:Nat=>[.int .i64 (i:Int)]) (fun i w'=>i ≤ Q2.length ∧ Ext w6 w') (fun i=>Q2.length - i) 0 rfl ⟨Nat.zero_le _,Ext.refl _⟩ ?_
 rintro i w8 Kn ⟨hi,x8⟩ hKn
 have hP1:=hP1.ext x8
 have hP2:=hP2.ext x8
 have hR8:=hR6.ext x8
 have X8:=X6.trans x8
 intro _
 simp only [gx]
 refine iLenK hP2.row (iLt (iCndP (fun hlt=>?_) (fun _=>?_)))
 ·have hil:i < Q2.length:=by omega
  have hil1:i < Q1.length:=by omega
  have hm1':gt Q1 i ∈ Q1:=by rw [gt_eq hil1];exact List.getElem_mem _
  have hm2':gt Q2 i ∈ Q2:=by rw [gt_eq hil];exact List.getElem_mem _
  have he:=hat hil
  refine iJnB false w8 (fun J hJ=>?_) (fun w10 x10=>?_)
  ·refine iFld5 (f:=0) (x:=.int .i64 ((gt Q1 i).i.rule:Int)) hP1.row hil1 (by decide) (by rw [dL hil1 _ (by decide)];rfl) ?_
   refine iFld5 (f:=0) (x:=.int .i64 ((gt Q2 i).i.rule:Int)) hP2.row hil (by decide) (by rw [dL hil _ (by decide)];rfl) ?_
   refine iNe (iCndF (decide_eq_false fun h=>h (by rw [he])) ?_)
   refine iFld5 (f:=3) (x:=sv (gt Q1 i).i.right) hP1.row hil1 (by decide) (by rw [dL hil1 _ (by decide)];rfl) ?_
   refine iFld5 (f:=3) (x:=sv (gt Q2 i).i.right) hP2.row hil (by decide) (by rw [dL hil _ (by decide)];rfl) ?_
   refine iNeT (iCndF (decide_eq_false fun h=>h (by rw [he])) ?_)
   refine iFld5 (f:=4) (x:=sv (gt Q1 i).i.main) hP1.row hil1 (by decide) (by rw [dL hil1 _ (by decide)];rfl) ?_
   refine iFld5 (f:=4) (x:=sv (gt Q2 i).i.main) hP2.row hil (by decide) (by rw [dL hil _ (by decide)];rfl) ?_
   refine iNeT (iCndF (decide_eq_false fun h=>h (by rw [he])) ?_)
   refine iFld5 (f:=1) (x:=(gt Q1 i).vp) hP1.row hil1 (by decide) (by rw [dL hil1 _ (by decide)];rfl) ?_
   refine iFld5 (f:=1) (x:=(gt Q2 i).vp) hP2.row hil (by decide) (by rw [dL hil _ (by decide)];rfl) ?_
   refine iRetQ (fun w' x'=>I9 ((hP1.prem _ hm1').ext x').sl ((hP2.prem _ hm2').ext x').sl) ?_
   refine iNot (iCndF (by rw [decide_eq_true (by rw [he])];rfl) ?_)
   refine iFld5 (f:=2) (x:=(gt Q1 i).vl) hP1.row hil1 (by decide) (by rw [dL hil1 _ (by decide)];rfl) ?_
   refine iFld5 (f:=2) (x:=(gt Q2 i).vl) hP2.row hil (by decide) (by rw [dL hil _ (by decide)];rfl) ?_
   refine iRetQ (fun w' x'=>qR (L:=(gt Q2 i).i.left) (by rw [← he];exact ((hP1.left _ hm1').ext x').sl) ((hP2.left _ hm2').ext x').sl) ?_
   exact iNot fun w15 x15=>hJ _ x15
  intro _
  simp only [gx]
  refine iCndF rfl (iAdd (by omega) ?_)
  exact hKn (i + 1) _ ⟨hil,x8.trans x10⟩ (by omega)
 refine iNe (iCndP (fun _=>⟨by first | trivial | rfl,X8⟩) (fun hz=>?_))
 have hz:(outD (R.map DV.d)).1 = 0:=Classical.not_not.1 hz
 obtain ⟨hcode,hlim,ho2⟩:=UY hz
 obtain ⟨n1,n120,hall⟩:=xN hcode
 rw [ho2] at hm2
 generalize hP:R.map DV.d = P at *
 have hPl:P.length = R.length:=by rw [← hP,List.length_map]
 have hlast:gt P (P.length - 1) = (gt R (R.length - 1)).d:=by
  rw [gt_eq (by omega),gt_eq (by omega)]
  simp only [← hP,List.getElem_map,List.length_map]
 obtain ⟨hgood,hidx⟩:=yB hall P.length (Nat.le_refl _)
 obtain ⟨hi1,hsq⟩:=hidx (P.length - 1) (by omega)
 have hend:=UU (P:=P) (by omega)
 have hhas:=UP hall (j:=P.length - 1) (by omega)
 have hdp:=VW hall (P.length - 1) (by omega)
 rw [hend] at hi1 hsq hhas hdp
 generalize hM:(seqD P P.length).1 = M at *
 have hMl:M.length = Q2.length:=by rw [← hm2,List.length_map]
 unfold limD at hlim
 rw [Bool.and_eq_true,decide_eq_true_eq,List.all_eq_true] at hlim
 have hQ1:1 ≤ Q2.length:=by omega
 have hQ60:Q2.length ≤ 60:=by omega
 have hl12:∀ x ∈ Q2,x.i.left.length ≤ 12:=fun x hx=>of_decide_eq_true (hlim.2 _ (by rw [← hm2];exact List.mem_map.2 ⟨x,hx,rfl⟩))
 have hg2:∀ k,k < Q2.length → GoodC (Q2.map IV.i) k:=fun k hk=>by rw [hm2];exact hgood k (by omega)
 have hlQ:(gt Q2 (Q2.length - 1)).i = gt M (M.length - 1):=by
  rw [gt_eq (by omega),gt_eq (by omega)]
  simp only [← hm2,List.getElem_map,List.length_map]
 have hleft:(gt Q2 (Q2.length - 1)).i.left = setT (gt P (P.length - 1)).asm:=by rw [hlQ];exact congrArg Prod.fst hsq
 have hright:(gt Q2 (Q2.length - 1)).i.right = (gt P (P.length - 1)).con:=by rw [hlQ];exact congrArg Prod.snd hsq
 obtain ⟨hsh,-,-⟩:=eP (hall (P.length - 1) (by omega))
 obtain ⟨ha12,hasm,hcon⟩:=eQ hsh
 rw [hlast] at *
 refine iCall ((xE hR8 hpb (by rw [hP];exact hcode) (by omega)).mono ?_)
 rintro _ w16 ⟨x16,u16,rfl,hu16⟩
 refine iE30 (iE31 (iE32 ?_))
 refine iRet (s9 hQ1 hQ60 (hP2.ext x16) hg2 hl12) fun w17 x17=>iE20 (iE21 ?_)
 have x817:=x16.trans x17
 refine iCall ((z6 hQ1 hQ60 (hP2.ext x817) hg2 hl12).mono ?_)
 rintro _ w18 ⟨x18,u18,rfl,hu18⟩
 rw [hleft] at hu18
 rw [hright]
 refine iE30 (iE31 (iE32 ?_))
 have x818:=x817.trans x18
 refine iJnB false w18 (fun J hJ=>?_) (fun w20 x20=>?_)
 ·refine iNe (iCndF (decide_eq_false fun h=>h rfl) (iNe (iCndF (decide_eq_false fun h=>h rfl) (iNe (iCndF (decide_eq_false fun h=>h rfl) ?_)))))
  refine iCall ((PS (Sl.ext hu16 (x17.trans x18)) (by omega)).mono ?_)
  rintro u21 w21 ⟨x21,hu21⟩
  refine iRet (qR (Sl.ext hu18 x21) hu21) fun w22 x22=>iNot (iCndF rfl (iNeT ?_))
  rw [decide_eq_false fun h=>h rfl]
  exact hJ _ (x21.trans x22)
 intro _
 simp only [gx]
 refine iCndF rfl ?_
 have x820:=x818.trans x20
 refine iCall ((DE hQ1 hQ60 (hP2.ext x820) hg2 hl12).mono ?_)
 rintro _ w23 ⟨x23,hF⟩
 have X23:=(X8.trans x820).trans x23
 rcases hF with rfl | ⟨u,t,rfl,hu,ht,h60,hnum⟩
 ·refine iE30 (iE31 (iE32 ?_))
  refine iNe (iCndT (by decide) (iEq ⟨by first | trivial | rfl,X23⟩))
 refine iE30 (iE31 (iE32 (iNe (iCndF (decide_eq_false fun h=>h rfl) ?_))))
 rw [hm2,← hMl] at ht h60 hnum
 rw [hleft] at hu
 have hsl:=mD (gt R (R.length - 1)).d.asm
 refine iRet (FSz hhas (by omega) (fun x hx=>hasm x (cP.1 hx)) h60 hnum hu ht) fun w24 x24=>iE20 (iE21 ?_)
 refine iJnB true w24 (fun J hJ=>?_) (fun w26 x26=>?_)
 ·refine iEq (iCndT (by decide) (iEqT ?_))
  rw [decide_eq_true rfl]
  exact hJ _ (Ext.refl _)
 intro _
 exact ⟨by first | trivial | rfl,(X23.trans x24).trans x26⟩
end Go.Proofs.YtkjoppimpmojfaaGreat
