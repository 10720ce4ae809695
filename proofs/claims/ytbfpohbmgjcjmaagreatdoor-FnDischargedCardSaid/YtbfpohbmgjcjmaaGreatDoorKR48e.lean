/- The proof of FnDischargedCard, part 5 of 7. Conditions: none. -/
import Derived.Test.YtbfpohbmgjcjmaaGreatDoorKR48d
import Derived.Laws.Bits64
import Derived.Lib.Zigzag
namespace Go.Vc
theorem Blk.inj {e:TypeId} {w:World} {b:Nat} {cs ds:List Value} (h:Blk e w b cs) (k:Blk e w b ds):cs = ds:=by
 unfold Blk at h k
 rw [h] at k
 injection k with k
 injection k with k
 simpa using k
theorem iIaIE {lo:Nat} {e:TypeId} {w:World} {v:Value} {l:List Int} {j:Int} {k:IntKind} {K:Value → Prop} (hs:Ow lo e w v (ints l)) (h0:0 ≤ j) (h1:j < l.length) (h:∀ p,(∀ w',Ow lo e w' v (ints l) → w'.cell? p = some (.int .i64 (l.getD j.toNat 0))) → K (.pointer (some p))):xIa 1 v (.int k j) K:=by
 have hlen:(ints l).length = l.length:=aL l
 have hj:j.toNat < l.length:=by omega
 obtain ⟨g,cap,hv,hc,hm⟩:=hs.openV (by intro e;rw [e] at hlen;simp at hlen;omega)
 subst hv
 refine ⟨_,_,_,_,_,rfl,rfl,h0,by omega,?_⟩
 rw [bF,Nat.zero_add,Nat.mul_one]
 refine h _ fun w' hw'=>?_
 rw [hw'.atV rfl (by omega)]
 simp [ints,hj]
theorem QG:FrE Ext:=⟨fun _ _ h=>h,fun _ _ _ h k=>h.trans k,fun _ _ h=>NB (h.ch (S:=fun _=>False))⟩
end Go.Vc
namespace Go.Proofs.YtbfpohbmgjcjmaaGreatDoor
open Go.Vc
structure DsV (lo:Nat) (w:World) (q:Nat) (va vl vs vi:Value) (Y:List HV) (own lift:List Int):Prop where
 loq:lo ≤ q
 blk:Blk 53 w q [va,vl,vs,vi]
 ln:OwH lo w vl Y
 s:Ow lo t_i64 w vs (ints own)
 i:Ow lo t_i64 w vi (ints lift)
 ne:∀ c,vs.ownBlock = some c → vi.ownBlock = some c → False
theorem DsV.ext {lo q:Nat} {w w':World} {va vl vs vi:Value} {Y:List HV} {own lift:List Int} (h:DsV lo w q va vl vs vi Y own lift) (x:Ext w w'):DsV lo w' q va vl vs vi Y own lift:=
 ⟨h.loq,h.blk.ext x,h.ln.ext x,h.s.ext x,h.i.ext x,h.ne⟩
theorem OwH.chQ {lo q:Nat} {e:TypeId} {w w':World} {z:Value} {Y:List HV} {cs:List Value} (h:OwH lo w z Y) (hB:Blk e w q cs) (h1:aC ≠ e) (h2:aA ≠ e) (x:Ch (fun c=>c = q) w w'):OwH lo w' z Y:=
 ⟨OwK.ch h.row x fun c hc hS=>by subst hS;exact OwK.ne_blk h.row hB h1 hc,fun y hy=>OwK.ch (h.fm y hy) x fun c hc hS=>by subst hS;exact OwK.ne_blk (h.fm y hy) hB h2 hc⟩
theorem Ow.chQ {lo q:Nat} {e e':TypeId} {w w':World} {v:Value} {xs cs:List Value} (h:Ow lo e' w v xs) (hB:Blk e w q cs) (h1:e' ≠ e) (x:Ch (fun c=>c = q) w w'):Ow lo e' w' v xs:=
 h.ch x fun c hc hS=>by subst hS;exact h.ne_blk hB h1 hc
def ACh (q:Nat) (vl:Value) (w w':World):Prop:=Ch (fun c=>c = q ∨ vl.ownBlock = some c) w w'
theorem DsV.keep {lo q k lo' n:Nat} {e:TypeId} {w w':World} {va vl vs vi v:Value} {xs:List Value} {Y:List HV} {own lift:List Int} (h:DsV lo w q va vl vs vi Y own lift) (c:ACh q vl w w') (ho:OwK k lo' e w v n xs) (h1:e ≠ aC) (h2:e ≠ 53):OwK k lo' e w' v n xs:=
 OwK.ch ho c fun c hc hS=>by
  rcases hS with rfl | hS
  ·exact OwK.ne_blk ho h.blk h2 hc
  ·obtain ⟨cur,hh⟩:=OwK.ty h.ln.row hS
   exact OwK.ne_blk ho (show Blk aC w c cur.toList by unfold Blk;rw [hh]) h1 hc
theorem cF {q:Nat} {w0 w:World} {va vl vs vi v4:Value} {Y:List HV} {own lift:List Int} {rule one two:Int} {N:List RN} (X:Ext w0 w) (h:DsV w0.heap.size w q va vl vs vi Y own lift) (hf:RawW 0 aA w v4 N) (hY:Y.length ≤ 100000):
  Cal Tryz.prog jU #[.pointer (some ⟨q,0,none⟩),.int .i64 rule,.int .i64 one,.int .i64 two,v4] w fun r w'=>r = .int .i64 (Y.length:Int) ∧ Ext w0 w' ∧ ACh q vl w w' ∧ ∃ vl' y,y.x = ⟨rule,one,two,N⟩ ∧ DsV w0.heap.size w' q va vl' vs vi (Y ++ [y]) own lift ∧ (vl'.ownBlock = vl.ownBlock ∨ ∃ c,vl'.ownBlock = some c ∧ w.heap.size ≤ c):=by
 apply EJ;unfold qB
 refine iNil (iFa (iLdB h.blk (i:=1) (v:=vl) rfl ?_))
 refine FY rfl rfl rfl (OwK.cell hf) ?_
 refine VK (y:=⟨⟨rule,one,two,N⟩,v4⟩) h.ln hf (by omega) X.size fun v22 w2 k2 c2 n2 o2=>?_
 have nq:∀ {e:TypeId} {cs:List Value} {b:Nat},Blk e w b cs → e ≠ aC → Blk e w2 b cs:=fun hb hne=>hb.ch c2 fun hS=>OwK.ne_blk h.ln.row hb (fun e=>hne e.symm) hS
 have nw:∀ {k lo' n:Nat} {e:TypeId} {u:Value} {ys:List Value},OwK k lo' e w u n ys → e ≠ aC → OwK k lo' e w2 u n ys:=fun hu hne=>OwK.lch hu k2 hne
 have hb2:=nq h.blk (by decide)
 refine iNil (iFa (iStU hb2 (by simp) (OwK.cell o2.row) fun w3 hB3 u3=>?_))
 have hB3:Blk 53 w3 q [va,v22,vs,vi]:=hB3
 have c3:=u3.ch (S:=fun c=>c = q) rfl
 have o3:=o2.chQ hb2 (by decide) (by decide) c3
 refine iNil (iFa (iLdB hB3 (i:=1) (v:=v22) rfl ?_))
 have hsz:Ret Tryz.prog pY #[v22] w3 (.int .i64 ((Y ++ [(⟨⟨rule,one,two,N⟩,v4⟩:HV)]).length:Int)):=by
  apply E4;unfold qM
  exact iLenK o3.row.sl ⟨rfl,Ext.refl _⟩
 refine iRet hsz fun w4 x4=>iSub (by rw [List.length_append];simp;omega) ?_
 have c13:ACh q vl w w3:=Ch.trans (c2.mono fun c hc=>.inr hc) c3 fun c hc=>.inl (.inl hc)
 have c14:ACh q vl w w4:=Ch.trans c13 (x4.ch (S:=fun c=>c = q ∨ vl.ownBlock = some c)) fun c hc=>.inl hc
 refine ⟨by rw [List.length_append,List.length_singleton];congr 1;omega,X.thenCh c14 fun c hc=>?_,c14,v22,_,rfl,⟨h.loq,hB3.ext x4,o3.ext x4,((Ow.chQ (nw h.s (by decide)) hb2 (by decide) c3)).ext x4,((Ow.chQ (nw h.i (by decide)) hb2 (by decide) c3)).ext x4,h.ne⟩,n2⟩
 rcases hc with rfl | hc
 ·exact h.loq
 ·exact (OwK.blk h.ln.row c hc).1
theorem DsV.pushS {q:Nat} {w0 w w1 w2 w3:World} {va vl vs vi vs':Value} {Y:List HV} {own lift:List Int} {z:Int} (X:Ext w0 w) (h:DsV w0.heap.size w q va vl vs vi Y own lift) (ho:Ow w0.heap.size t_i64 w1 vs' (ints own ++ [.int .i64 z])) (hg:w.grownBy w1 vs.ownBlock) (hn:vs'.ownBlock = vs.ownBlock ∨ ∃ c,vs'.ownBlock = some c ∧ w.heap.size ≤ c) (x:Ext w1 w2) (hB:Blk 53 w3 q [va,vl,vs',vi]) (c:Ch (fun c=>c = q) w2 w3):
  Ext w0 w3 ∧ DsV w0.heap.size w3 q va vl vs' vi Y (own ++ [z]) lift:=by
 have c1:=bJ (S:=fun c=>vs.ownBlock = some c) hg fun c hc=>hc
 have hb2:=(h.blk.ch c1 fun hS=>h.s.ne_blk h.blk (by decide) hS).ext x
 refine ⟨((X.thenCh c1 fun c hc=>(h.s.blk c hc).1).trans x).thenCh c fun c hc=>by rw [hc];exact h.loq,h.loq,hB,((h.ln.chO h.s c1).ext x).chQ hb2 (by decide) (by decide) c,?_,Ow.chQ ((h.i.ch c1 fun c hc hS=>h.ne c hS hc).ext x) hb2 (by decide) c,fun c h1 h2=>?_⟩
 ·rw [show ints (own ++ [z]) = ints own ++ [.int .i64 z] by simp [ints]]
  exact Ow.chQ (ho.ext x) hb2 (by decide) c
 ·rcases hn with n | ⟨c',n1,n2⟩
  ·exact h.ne c (n ▸ h1) h2
  ·rw [n1] at h1;cases h1
   have:=(h.i.blk _ h2).2
   omega
theorem DsV.pushI {q:Nat} {w0 w w1 w2 w3:World} {va vl vs vi vi':Value} {Y:List HV} {own lift:List Int} {z:Int} (X:Ext w0 w) (h:DsV w0.heap.size w q va vl vs vi Y own lift) (ho:Ow w0.heap.size t_i64 w1 vi' (ints lift ++ [.int .i64 z])) (hg:w.grownBy w1 vi.ownBlock) (hn:vi'.ownBlock = vi.ownBlock ∨ ∃ c,vi'.ownBlock = some c ∧ w.heap.size ≤ c) (x:Ext w1 w2) (hB:Blk 53 w3 q [va,vl,vs,vi']) (c:Ch (fun c=>c = q) w2 w3):
  Ext w0 w3 ∧ DsV w0.heap.size w3 q va vl vs vi' Y own (lift ++ [z]):=by
 have c1:=bJ (S:=fun c=>vi.ownBlock = some c) hg fun c hc=>hc
 have hb2:=(h.blk.ch c1 fun hS=>h.i.ne_blk h.blk (by decide) hS).ext x
 refine ⟨((X.thenCh c1 fun c hc=>(h.i.blk c hc).1).trans x).thenCh c fun c hc=>by rw [hc];exact h.loq,h.loq,hB,((h.ln.chO h.i c1).ext x).chQ hb2 (by decide) (by decide) c,Ow.chQ ((h.s.ch c1 fun c hc hS=>h.ne c hc hS).ext x) hb2 (by decide) c,?_,fun c h1 h2=>?_⟩
 ·rw [show ints (lift ++ [z]) = ints lift ++ [.int .i64 z] by simp [ints]]
  exact Ow.chQ (ho.ext x) hb2 (by decide) c
 ·rcases hn with n | ⟨c',n1,n2⟩
  ·exact h.ne c h1 (n ▸ h2)
  ·rw [n1] at h2;cases h2
   have:=(h.s.blk _ h1).2
   omega
def DRel (q m:Nat) (B:Option Nat) (w w':World):Prop:=Ch (fun c=>c = q ∨ B = some c ∨ m ≤ c) w w' ∧ ∀ a l s i,Blk 53 w q [a,l,s,i] → ∃ l',Blk 53 w' q [a,l',s,i]
theorem j4 (q m:Nat) (B:Option Nat):FrE (DRel q m B):=
 ⟨fun _ _ x=>⟨x.ch,fun _ l _ _ h=>⟨l,h.ext x⟩⟩,fun _ _ _ h k=>⟨h.1.trans k.1 fun _ hb=>.inl hb,fun a l s i hb=>by
  obtain ⟨l',h'⟩:=h.2 a l s i hb
  exact k.2 a l' s i h'⟩,fun _ _ h=>NB h.1⟩
theorem DsV.drel {lo q m:Nat} {B:Option Nat} {w w':World} {va vl vs vi vl':Value} {Y Y':List HV} {own lift:List Int} (h:DsV lo w q va vl vs vi Y own lift) (h':DsV lo w' q va vl' vs vi Y' own lift) (c:ACh q vl w w') (hB:vl.ownBlock = B ∨ ∃ c,vl.ownBlock = some c ∧ m ≤ c):DRel q m B w w':=by
 refine ⟨c.mono fun c hc=>hc.imp id fun hc=>?_,fun a l s i hb=>?_⟩
 ·rcases hB with e | ⟨c',e1,e2⟩
  ·exact .inl (e ▸ hc)
  ·rw [e1] at hc;cases hc;exact .inr e2
 ·have:=Blk.inj hb h.blk
  simp only [List.cons.injEq,and_true] at this
  obtain ⟨rfl,rfl,rfl,rfl⟩:=this
  exact ⟨vl',h'.blk⟩
theorem AG {w:World} {x y:Value} {A B:Fm} {K:Value → World → Prop} (hx:FmS w x A) (hy:FmS w y B) (hs:A.size ≤ 100000 ∧ B.size ≤ 100000) (hK:∀ r w',Ext w w' → FmW 0 w' r (.imp A B) → K r w'):xBs aB (Value.cells (.slice none 0 0)) 1 2 [(0,x),(1,y)] w fun v w1=>callV Tryz.prog (.func (.func jX) #[] #[]) [v] w1 K:=by
 refine iBs2 rfl (SlK.cellZ hx) (SlK.cellZ hy) fun c w1 hc x1 hB=>?_
 refine iCall ((pM (fs:=[A,B]) (Sl.ofBlk (n:=2) hB rfl (by decide)) rfl (fun j hj=>?_) (by simp) (by simp) (by simp [sizeL];omega)).mono ?_)
 ·have hj:j < 2:=hj
  rcases j with _ | _ | j
  ·exact ⟨x,rfl,SlK.ext hx x1⟩
  ·exact ⟨y,rfl,SlK.ext hy x1⟩
  ·omega
 rintro r w2 ⟨x2,hr⟩
 exact hK r w2 (x1.trans x2) hr
theorem EF {w:World} {x y z:Value} {A B C:Fm} {K:Value → World → Prop} (hx:FmS w x A) (hy:FmS w y B) (hz:FmS w z C) (hs:A.size ≤ 100000 ∧ B.size ≤ 100000 ∧ C.size ≤ 100000) (hK:∀ r w',Ext w w' → FmW 0 w' r (.imp A (.imp B C)) → K r w'):xBs aB (Value.cells (.slice none 0 0)) 1 3 [(0,x),(1,y),(2,z)] w fun v w1=>callV Tryz.prog (.func (.func jX) #[] #[]) [v] w1 K:=by
 refine iBs3 rfl (SlK.cellZ hx) (SlK.cellZ hy) (SlK.cellZ hz) fun c w1 hc x1 hB=>?_
 refine iCall ((pM (fs:=[A,B,C]) (Sl.ofBlk (n:=3) hB rfl (by decide)) rfl (fun j hj=>?_) (by simp) (by simp) (by simp [sizeL];omega)).mono ?_)
 ·have hj:j < 3:=hj
  rcases j with _ | _ | _ | j
  ·exact ⟨x,rfl,SlK.ext hx x1⟩
  ·exact ⟨y,rfl,SlK.ext hy x1⟩
  ·exact ⟨z,rfl,SlK.ext hz x1⟩
  ·omega
 rintro r w2 ⟨x2,hr⟩
 exact hK r w2 (x1.trans x2) hr
theorem FmW.rawZ {w:World} {v:Value} {f:Fm} (h:FmW 0 w v f):RawW 0 aA w v (rawF f):=by
 show OwK 2 0 aA w v (rawF f).length (aU (rawF f))
 rw [aG,a9]
 exact h
theorem len1 (Q:List HV) (x:HV):(Q ++ [x]).length = Q.length + 1:=by rw [List.length_append,List.length_singleton]
theorem ER {q:Nat} {w0 w:World} {va vl vs vi v2:Value} {Y:List HV} {own lift:List Int} {self:Int} {A C:Fm} (X:Ext w0 w) (h:DsV w0.heap.size w q va vl vs vi Y own lift) (hA:FmS w0 va A) (hC:FmS w0 v2 C) (hs:A.size ≤ 10000 ∧ C.size ≤ 10000) (hY:Y.length ≤ 10000) (hl:own.length ≤ 10000 ∧ lift.length ≤ 10000):
  Cal Tryz.prog gK #[.pointer (some ⟨q,0,none⟩),.int .i64 self,v2] w fun _ w'=>Ext w0 w' ∧ ∃ vl' vs' vi' Y2,DsV w0.heap.size w' q va vl' vs' vi' (Y ++ Y2) (own ++ [self]) (lift ++ [(Y.length:Int) + 1]) ∧ Y2.map HV.x = [⟨1,0,0,impN (rawF C) (impN (rawF A) (rawF C))⟩,⟨3,(Y.length:Int),self,impN (rawF A) (rawF C)⟩]:=by
 apply AH;unfold mN
 refine iNil (iFa (iLdB h.blk (i:=0) (v:=va) rfl ?_))
 refine EF (SlK.ext hC X) (SlK.ext hA X) (SlK.ext hC X) (by omega) fun v15 w2 x2 h15=>?_
 have X2:=X.trans x2
 refine iCall ((cF X2 (h.ext x2) (FmW.rawZ h15) (by omega)).mono ?_)
 rintro _ w3 ⟨rfl,X3,c3,vl3,y3,hy3,h3,n3⟩
 refine iNil (iFa (iLdB h3.blk (i:=2) (v:=vs) rfl ?_))
 refine iP fL fQ rfl h3.s rfl (by rw [aL];omega) (by rw [aL];omega) X3.size fun vs5 w5 ho5 hg5 hn5=>?_
 have hb5:=h3.blk.ch (bJ (S:=fun c=>vs.ownBlock = some c) hg5 fun c hc=>hc) fun hS=>h3.s.ne_blk h3.blk (by decide) hS
 refine iNil (iFa (iStU hb5 (by simp) ho5.cell fun w6 hB6 u6=>?_))
 obtain ⟨X6,h6⟩:=DsV.pushS X3 h3 ho5 hg5 hn5 (Ext.refl _) hB6 (u6.ch (S:=fun c=>c = q) rfl)
 refine ⟨DRel q w6.heap.size vl3.ownBlock,j4 _ _ _,?_⟩
 refine iNil (iFa (iLdB h6.blk (i:=3) (v:=vi) rfl ⟨fun w8 e8=>?_,?_⟩))
 ·obtain ⟨l',hb⟩:=e8.2 _ _ _ _ h6.blk
  exact iLdB hb (i:=3) (v:=vi) rfl rfl
 refine iNil (iFa (iLdB h6.blk (i:=0) (v:=va) rfl ⟨fun w9 e9=>?_,?_⟩))
 ·obtain ⟨l',hb⟩:=e9.2 _ _ _ _ h6.blk
  exact iLdB hb (i:=0) (v:=va) rfl rfl
 intro w10 x10
 have X10:=X6.trans x10
 refine iBs2 rfl (SlK.cellZ hA) (SlK.cellZ hC) fun c w11 hc11 x11 hB11=>⟨(j4 _ _ _).ext _ _ x11,fun w12 x12=>?_⟩
 have X12:=(X10.trans x11).trans x12
 refine iCall ((pM (fs:=[A,C]) (Sl.ofBlk (n:=2) (hB11.ext x12) rfl (by decide)) rfl (fun j hj=>?_) (by simp) (by simp) (by simp [sizeL];omega)).mono ?_)
 ·have hj:j < 2:=hj
  rcases j with _ | _ | j
  ·exact ⟨va,rfl,SlK.ext hA X12⟩
  ·exact ⟨v2,rfl,SlK.ext hC X12⟩
  ·omega
 rintro v41 w13 ⟨x13,h41⟩
 refine ⟨(j4 _ _ _).ext _ _ x13,fun w14 x14=>?_⟩
 have x614:=(((x10.trans x11).trans x12).trans x13).trans x14
 have X14:=X6.trans x614
 have h14:=h6.ext x614
 refine iCall ((cF X14 h14 (FmW.rawZ (OwK.ext h41 x14)) (by rw [len1];omega)).mono ?_)
 rintro _ w15 ⟨rfl,X15,c15,vl15,y15,hy15,h15,n15⟩
 refine ⟨DsV.drel h14 h15 c15 (.inl rfl),fun w16 x16=>?_⟩
 refine iBs1 rfl rfl fun c w17 hc17 x17 hB17=>⟨(j4 _ _ _).ext _ _ x17,fun w18 x18=>?_⟩
 have x1518:=(x16.trans x17).trans x18
 have X18:=X15.trans x1518
 have h18:=h15.ext x1518
 refine iAppA fL fQ rfl h18.i (Sl.ofBlk (n:=1) (hB17.ext x18) rfl (by decide)) (fun u hu=>?_) (by rw [aL];simp;omega) (by rw [aL];simp;omega) X18.size fun vi19 w19 ho19 hg19 hn19=>?_
 ·rw [List.mem_singleton.1 hu];rfl
 have hb19:=h18.blk.ch (bJ (S:=fun c=>vi.ownBlock = some c) hg19 fun c hc=>hc) fun hS=>h18.i.ne_blk h18.blk (by decide) hS
 refine iNil (iFa fun w20 x20=>?_)
 refine iStU (hb19.ext x20) (by simp) ho19.cell fun w21 hB21 u21=>?_
 obtain ⟨X21,h21⟩:=DsV.pushI X18 h18 ho19 hg19 hn19 x20 hB21 (u21.ch (S:=fun c=>c = q) rfl)
 intro w22 x22
 have h22:=h21.ext x22
 rw [len1] at h22
 refine ⟨X21.trans x22,vl15,vs5,vi19,[y3,y15],?_,?_⟩
 ·rw [show Y ++ [y3,y15] = Y ++ [y3] ++ [y15] by simp]
  exact h22
 ·rw [List.map_cons,List.map_cons,List.map_nil,hy3,hy15]
  rfl
theorem keepS {lo q k lo' n:Nat} {e e':TypeId} {w w1 w2 w3:World} {vs v:Value} {xs ys cs:List Value} (hs:Ow lo t_i64 w vs xs) (hb:Blk e' w2 q cs) (hg:w.grownBy w1 vs.ownBlock) (x:Ext w1 w2) (c:Ch (fun c=>c = q) w2 w3) (ho:OwK k lo' e w v n ys) (h1:e ≠ t_i64) (h2:e ≠ e'):OwK k lo' e w3 v n ys:=by
 have c1:=bJ (S:=fun c=>vs.ownBlock = some c) hg fun c hc=>hc
 have o1:=OwK.ext (OwK.ch ho c1 fun c hc hS=>by
  obtain ⟨cur,hh⟩:=Ow.ty hs hS
  exact OwK.ne_blk ho (show Blk t_i64 w c cur.toList by unfold Blk;rw [hh]) h1 hc) x
 exact OwK.ch o1 c fun c hc hS=>by
  subst hS
  exact OwK.ne_blk o1 hb h2 hc
theorem NI {q:Nat} {w0 w:World} {va vl vs vi:Value} {Y:List HV} {own lift:List Int} {A:Fm} (X:Ext w0 w) (h:DsV w0.heap.size w q va vl vs vi Y own lift) (hA:FmS w0 va A) (hs:A.size ≤ 10000) (hY:Y.length ≤ 10000) (hl:own.length ≤ 10000 ∧ lift.length ≤ 10000):
  Cal Tryz.prog lB #[.pointer (some ⟨q,0,none⟩)] w fun _ w'=>Ext w0 w' ∧ ∃ vl' vs' vi' Y2,DsV w0.heap.size w' q va vl' vs' vi' (Y ++ Y2) (own ++ [-1]) (lift ++ [(Y.length:Int) + 4]) ∧ Y2.map HV.x = (let a:=rawF A;let n:=(Y.length:Int);[⟨1,0,0,impN a (impN (impN a a) a)⟩,⟨1,1,0,impN (impN a (impN (impN a a) a)) (impN (impN a (impN a a)) (impN a a))⟩,⟨3,n + 1,n,impN (impN a (impN a a)) (impN a a)⟩,⟨1,0,0,impN a (impN a a)⟩,⟨3,n + 2,n + 3,impN a a⟩]):=by
 have s1:(Fm.imp A A).size = 1 + A.size + A.size:=rfl
 have s2:(Fm.imp (.imp A A) A).size = 1 + (Fm.imp A A).size + A.size:=rfl
 have s3:(Fm.imp A (.imp (.imp A A) A)).size = 1 + A.size + (Fm.imp (.imp A A) A).size:=rfl
 have s4:(Fm.imp A (.imp A A)).size = 1 + A.size + (Fm.imp A A).size:=rfl
 apply wR;unfold kX
 refine iNil (iFa (iLdB h.blk (i:=0) (v:=va) rfl ?_))
 have hA':∀ {w':World},Ext w0 w' → FmS w' va A:=fun x=>SlK.ext hA x
 refine AG (hA' X) (hA' X) (by omega) fun v15 w1 x1 h15=>?_
 have X1:=X.trans x1
 refine EF (hA' X1) h15.sl (hA' X1) (by omega) fun v21 w2 x2 h21=>?_
 have x02:=x1.trans x2
 have X2:=X.trans x02
 have hd2:=h.ext x02
 refine iCall ((cF X2 hd2 (FmW.rawZ h21) (by omega)).mono ?_)
 rintro _ w3 ⟨rfl,X3,c3,vl3,y1,hy1,hd3,-⟩
 have h15:=hd2.keep c3 (OwK.ext h15 x2) (by decide) (by decide)
 refine EF (hA' X3) h15.sl (hA' X3) (by omega) fun v28 w4 x4 h28=>?_
 have X4:=X3.trans x4
 have h15:=OwK.ext h15 x4
 refine AG (hA' X4) h15.sl (by omega) fun v32 w5 x5 h32=>?_
 have h15:=OwK.ext h15 x5
 refine EF (OwK.ext h28 x5).sl h32.sl h15.sl (by omega) fun v35 w6 x6 h35=>?_
 have x36:=(x4.trans x5).trans x6
 have hd6:=hd3.ext x36
 have h15:=OwK.ext h15 x6
 refine iCall ((cF (X3.trans x36) hd6 (FmW.rawZ h35) (by rw [len1];omega)).mono ?_)
 rintro _ w7 ⟨rfl,X7,c7,vl7,y2,hy2,hd7,-⟩
 have h15:=hd6.keep c7 h15 (by decide) (by decide)
 refine AG (hA' X7) h15.sl (by omega) fun v43 w8 x8 h43=>?_
 have h15:=OwK.ext h15 x8
 refine AG h43.sl h15.sl (by omega) fun v46 w9 x9 h46=>?_
 have x79:=x8.trans x9
 have hd9:=hd7.ext x79
 have h15:=OwK.ext h15 x9
 refine iCall ((cF (X7.trans x79) hd9 (FmW.rawZ h46) (by rw [len1,len1];omega)).mono ?_)
 rintro _ w10 ⟨rfl,X10,c10,vl10,y3,hy3,hd10,-⟩
 have h15:=hd9.keep c10 h15 (by decide) (by decide)
 refine AG (hA' X10) h15.sl (by omega) fun v52 w11 x11 h52=>?_
 have hd11:=hd10.ext x11
 have h15:=OwK.ext h15 x11
 refine iCall ((cF (X10.trans x11) hd11 (FmW.rawZ h52) (by rw [len1,len1,len1];omega)).mono ?_)
 rintro _ w12 ⟨rfl,X12,c12,vl12,y4,hy4,hd12,-⟩
 have h15:=hd11.keep c12 h15 (by decide) (by decide)
 refine iNil (iFa (iLdB hd12.blk (i:=2) (v:=vs) rfl ?_))
 refine iP fL fQ rfl hd12.s rfl (by rw [aL];omega) (by rw [aL];omega) X12.size fun vs13 w13 ho13 hg13 hn13=>?_
 have hb13:=hd12.blk.ch (bJ (S:=fun c=>vs.ownBlock = some c) hg13 fun c hc=>hc) fun hS=>hd12.s.ne_blk hd12.blk (by decide) hS
 refine iNil (iFa (iStU hb13 (by simp) ho13.cell fun w14 hB14 u14=>?_))
 obtain ⟨X14,hd14⟩:=DsV.pushS X12 hd12 ho13 hg13 hn13 (Ext.refl _) hB14 (u14.ch (S:=fun c=>c = q) rfl)
 have h15:=keepS hd12.s hb13 hg13 (Ext.refl _) (u14.ch (S:=fun c=>c = q) rfl) h15 (by decide) (by decide)
 refine ⟨DRel q w14.heap.size vl12.ownBlock,j4 _ _ _,?_⟩
 refine iNil (iFa (iLdB hd14.blk (i:=3) (v:=vi) rfl ⟨fun w8 e8=>?_,?_⟩))
 ·obtain ⟨l',hb⟩:=e8.2 _ _ _ _ hd14.blk
  exact iLdB hb (i:=3) (v:=vi) rfl rfl
 intro w15 x15
 have hd15:=hd14.ext x15
 refine iCall ((cF (X14.trans x15) hd15 (FmW.rawZ (OwK.ext h15 x15)) (by rw [len1,len1,len1,len1];omega)).mono ?_)
 rintro _ w16 ⟨rfl,X16,c16,vl16,y5,hy5,hd16,-⟩
 refine ⟨DsV.drel hd15 hd16 c16 (.inl rfl),fun w17 x17=>?_⟩
 refine iBs1 rfl rfl fun c w18 hc18 x18 hB18=>⟨(j4 _ _ _).ext _ _ x18,fun w19 x19=>?_⟩
 have x1619:=(x17.trans x18).trans x19
 have X19:=X16.trans x1619
 have hd19:=hd16.ext x1619
 refine iAppA fL fQ rfl hd19.i (Sl.ofBlk (n:=1) (hB18.ext x19) rfl (by decide)) (fun u hu=>?_) (by rw [aL];simp;omega) (by rw [aL];simp;omega) X19.size fun vi20 w20 ho20 hg20 hn20=>?_
 ·rw [List.mem_singleton.1 hu];rfl
 have hb20:=hd19.blk.ch (bJ (S:=fun c=>vi.ownBlock = some c) hg20 fun c hc=>hc) fun hS=>hd19.i.ne_blk hd19.blk (by decide) hS
 refine iNil (iFa fun w21 x21=>?_)
 refine iStU (hb20.ext x21) (by simp) ho20.cell fun w22 hB22 u22=>?_
 obtain ⟨X22,hd22⟩:=DsV.pushI X19 hd19 ho20 hg20 hn20 x21 hB22 (u22.ch (S:=fun c=>c = q) rfl)
 intro w23 x23
 have hd23:=hd22.ext x23
 simp only [len1] at hd23 hy2 hy3 hy4 hy5
 refine ⟨X22.trans x23,vl16,vs13,vi20,[y1,y2,y3,y4,y5],?_,?_⟩
 ·rw [show Y ++ [y1,y2,y3,y4,y5] = Y ++ [y1] ++ [y2] ++ [y3] ++ [y4] ++ [y5] by simp,show (Y.length:Int) + 4 = ((Y.length + 1 + 1 + 1 + 1:Nat):Int) by omega]
  exact hd23
 ·simp only [List.map_cons,List.map_nil,hy1,hy2,hy3,hy4,hy5,rawF]
  simp
  omega
theorem QU {q:Nat} {w0 w:World} {va vl vs vi v2:Value} {Y:List HV} {own lift:List Int} {y:HV} {A C E:Fm} (X:Ext w0 w) (h:DsV w0.heap.size w q va vl vs vi Y own lift) (hA:FmS w0 va A) (hE:FmS w0 v2 E) (hC:FmS w0 y.v C) (hs:A.size ≤ 10000 ∧ C.size ≤ 10000 ∧ E.size ≤ 10000) (hY:Y.length ≤ 10000) (hl:own.length ≤ 10000 ∧ lift.length ≤ 10000)
  (h1:0 ≤ y.x.first ∧ y.x.first < (lift.length:Int)) (h2:0 ≤ y.x.second ∧ y.x.second < (lift.length:Int)):
  Cal Tryz.prog mJ #[.pointer (some ⟨q,0,none⟩),.agg y.cs.toArray,v2] w fun _ w'=>Ext w0 w' ∧ ∃ vl' vs' vi' Y2,DsV w0.heap.size w' q va vl' vs' vi' (Y ++ Y2) (own ++ [-1]) (lift ++ [(Y.length:Int) + 2]) ∧ Y2.map HV.x = (let n:=(Y.length:Int);[⟨1,1,0,impN (impN (rawF A) (impN (rawF E) (rawF C))) (impN (impN (rawF A) (rawF E)) (impN (rawF A) (rawF C)))⟩,⟨3,n,gt lift y.x.first.toNat,impN (impN (rawF A) (rawF E)) (impN (rawF A) (rawF C))⟩,⟨3,n + 1,gt lift y.x.second.toNat,impN (rawF A) (rawF C)⟩]):=by
 have s1:(Fm.imp A E).size = 1 + A.size + E.size:=rfl
 have s2:(Fm.imp A C).size = 1 + A.size + C.size:=rfl
 have s3:(Fm.imp A (.imp E C)).size = 1 + A.size + (Fm.imp E C).size:=rfl
 have s4:(Fm.imp E C).size = 1 + E.size + C.size:=rfl
 apply zW;unfold lX
 refine iNew4 fun q4 w1 hq4 x1 hB1=>?_
 have hB1:Blk aC w1 q4 [.int .i64 y.x.rule,.int .i64 y.x.first,.int .i64 y.x.second,y.v]:=hB1
 have hd1:=h.ext x1
 have hvl:∀ c,vl.ownBlock = some c → c < q4:=fun c hc=>by have:=(OwK.blk h.ln.row c hc).2;omega
 have hA':∀ {w':World},Ext w0 w' → FmS w' va A:=fun x=>SlK.ext hA x
 have hE':∀ {w':World},Ext w0 w' → FmS w' v2 E:=fun x=>SlK.ext hE x
 have hC':∀ {w':World},Ext w0 w' → FmS w' y.v C:=fun x=>SlK.ext hC x
 refine iNil (iFa (iLdB hd1.blk (i:=0) (v:=va) rfl (iFa (iLdB hB1 (i:=3) (v:=y.v) rfl fun w2 x2=>?_))))
 have X2:=(X.trans x1).trans x2
 refine AG (hA' X2) (hE' X2) (by omega) fun v21 w3 x3 h21=>?_
 have X3:=X2.trans x3
 refine AG (hA' X3) (hC' X3) (by omega) fun v25 w4 x4 h25=>?_
 have X4:=X3.trans x4
 have h21:=OwK.ext h21 x4
 refine EF (hA' X4) (hE' X4) (hC' X4) (by omega) fun v31 w5 x5 h31=>?_
 have h21:=OwK.ext h21 x5
 have h25:=OwK.ext h25 x5
 refine EF h31.sl h21.sl h25.sl (by omega) fun v35 w6 x6 h35=>?_
 have h21:=OwK.ext h21 x6
 have h25:=OwK.ext h25 x6
 have x16:=(((x2.trans x3).trans x4).trans x5).trans x6
 have hd6:=hd1.ext x16
 have X6:=(X.trans x1).trans x16
 have hB6:=hB1.ext x16
 have l6:=hB6.lt
 refine iCall ((cF X6 hd6 (FmW.rawZ h35) (by omega)).mono ?_)
 rintro _ w7 ⟨rfl,X7,c7,vl7,y1,hy1,hd7,n7⟩
 have h21:=hd6.keep c7 h21 (by decide) (by decide)
 have h25:=hd6.keep c7 h25 (by decide) (by decide)
 have nq:¬ q4 = q:=fun e=>by
  subst e
  unfold Blk at hB1
  have:=hd1.blk
  unfold Blk at this
  rw [hB1] at this
  injection this with this
  injection this with this h
  cases h
 have hB7:=hB6.ch c7 fun hS=>by
  rcases hS with e | e
  ·exact nq e
  ·have:=hvl _ e;omega
 have hvl7:¬ vl7.ownBlock = some q4:=fun e=>by
  rcases n7 with n | ⟨c,n1,n2⟩
  ·rw [n] at e;have:=hvl _ e;omega
  ·rw [n1] at e;cases e;omega
 refine iNil (iFa (iLdB hd7.blk (i:=3) (v:=vi) rfl (iFa (iLdB hB7 (i:=1) (v:=.int .i64 y.x.first) rfl ?_))))
 refine iIaI hd7.i.sl h1.1 h1.2 fun p hp=>iLd hp ?_
 intro w8 x8
 refine iBs2 rfl h21.cell h25.cell fun c w9 hc9 x9 hB9=>⟨x9,fun w10 x10=>?_⟩
 have x810:=(x8.trans x9).trans x10
 refine iCall ((pM (fs:=[.imp A E,.imp A C]) (Sl.ofBlk (n:=2) (hB9.ext x10) rfl (by decide)) rfl (fun j hj=>?_) (by simp) (by simp) (by simp [sizeL];omega)).mono ?_)
 ·have hj:j < 2:=hj
  rcases j with _ | _ | j
  ·exact ⟨v21,rfl,(OwK.ext h21 x810).sl⟩
  ·exact ⟨v25,rfl,(OwK.ext h25 x810).sl⟩
  ·omega
 rintro v50 w11 ⟨x11,h50⟩
 refine ⟨x11,fun w12 x12=>?_⟩
 have x712:=(x810.trans x11).trans x12
 have hd12:=hd7.ext x712
 have hB12:=hB7.ext x712
 have h25:=OwK.ext h25 x712
 have l12:=hB12.lt
 refine iCall ((cF (X7.trans x712) hd12 (FmW.rawZ (OwK.ext h50 x12)) (by rw [len1];omega)).mono ?_)
 rintro _ w13 ⟨rfl,X13,c13,vl13,y2,hy2,hd13,n13⟩
 have h25:=hd12.keep c13 h25 (by decide) (by decide)
 have hB13:=hB12.ch c13 fun hS=>by
  rcases hS with e | e
  ·exact nq e
  ·exact hvl7 e
 have hvl13:¬ vl13.ownBlock = some q4:=fun e=>by
  rcases n13 with n | ⟨c,n1,n2⟩
  ·rw [n] at e;exact hvl7 e
  ·rw [n1] at e;cases e;omega
 intro w14 x14
 have hd14:=hd13.ext x14
 have X14:=X13.trans x14
 refine iNil (iFa (iLdB hd14.blk (i:=2) (v:=vs) rfl ?_))
 refine iP fL fQ rfl hd14.s rfl (by rw [aL];omega) (by rw [aL];omega) X14.size fun vs15 w15 ho15 hg15 hn15=>?_
 have cg:=bJ (S:=fun c=>vs.ownBlock = some c) hg15 fun c hc=>hc
 have hb15:=hd14.blk.ch cg fun hS=>hd14.s.ne_blk hd14.blk (by decide) hS
 have hB15:=(hB13.ext x14).ch cg fun hS=>hd14.s.ne_blk (hB13.ext x14) (by decide) hS
 refine iNil (iFa (iStU hb15 (by simp) ho15.cell fun w16 hB16' u16=>?_))
 have c16:=u16.ch (S:=fun c=>c = q) rfl
 obtain ⟨X16,hd16⟩:=DsV.pushS X14 hd14 ho15 hg15 hn15 (Ext.refl _) hB16' c16
 have h25:=keepS hd14.s hb15 hg15 (Ext.refl _) c16 (OwK.ext h25 x14) (by decide) (by decide)
 have hB16:=hB15.ch c16 nq
 have l16:=hB16.lt
 refine ⟨DRel q w16.heap.size vl13.ownBlock,j4 _ _ _,?_⟩
 have ldI:∀ w',DRel q w16.heap.size vl13.ownBlock w16 w' → ∃ l',Blk 53 w' q [va,l',vs15,vi]:=fun w' e=>e.2 _ _ _ _ hd16.blk
 refine iNil (iFa (iLdB hd16.blk (i:=3) (v:=vi) rfl ⟨fun w' e=>?_,?_⟩))
 ·obtain ⟨l',hb⟩:=ldI w' e
  exact iLdB hb (i:=3) (v:=vi) rfl rfl
 refine iNil (iFa (iLdB hd16.blk (i:=3) (v:=vi) rfl ⟨fun w' e=>?_,?_⟩))
 ·obtain ⟨l',hb⟩:=ldI w' e
  exact iLdB hb (i:=3) (v:=vi) rfl rfl
 refine iFa (iLdB hB16 (i:=2) (v:=.int .i64 y.x.second) rfl ⟨fun w' e=>?_,?_⟩)
 ·refine iLdB (hB16.ch e.1 fun hS=>?_) (i:=2) (v:=.int .i64 y.x.second) rfl rfl
  rcases hS with e | e | e
  ·exact nq e
  ·exact hvl13 e
  ·omega
 refine iIaIE hd16.i h2.1 h2.2 fun p hp=>iLd (hp _ hd16.i) ⟨fun w' e=>iLd (hp w' (hd16.i.ch e.1 fun c hc hS=>?_)) rfl,?_⟩
 ·rcases hS with e | e | e
  ·subst e;exact hd16.i.ne_blk hd16.blk (by decide) hc
  ·obtain ⟨cur,hh⟩:=OwK.ty hd16.ln.row e
   exact hd16.i.ne_blk (show Blk aC w16 c cur.toList by unfold Blk;rw [hh]) (by decide) hc
  ·have:=(hd16.i.blk c hc).2;omega
 intro w17 x17
 have hd17:=hd16.ext x17
 refine iCall ((cF (X16.trans x17) hd17 (FmW.rawZ (OwK.ext h25 x17)) (by rw [len1,len1];omega)).mono ?_)
 rintro _ w18 ⟨rfl,X18,c18,vl18,y3,hy3,hd18,-⟩
 refine ⟨DsV.drel hd17 hd18 c18 (.inl rfl),fun w19 x19=>?_⟩
 refine iBs1 rfl rfl fun c w20 hc20 x20 hB20=>⟨(j4 _ _ _).ext _ _ x20,fun w21 x21=>?_⟩
 have x1821:=(x19.trans x20).trans x21
 have X21:=X18.trans x1821
 have hd21:=hd18.ext x1821
 refine iAppA fL fQ rfl hd21.i (Sl.ofBlk (n:=1) (hB20.ext x21) rfl (by decide)) (fun u hu=>?_) (by rw [aL];simp;omega) (by rw [aL];simp;omega) X21.size fun vi22 w22 ho22 hg22 hn22=>?_
 ·rw [List.mem_singleton.1 hu];rfl
 have hb22:=hd21.blk.ch (bJ (S:=fun c=>vi.ownBlock = some c) hg22 fun c hc=>hc) fun hS=>hd21.i.ne_blk hd21.blk (by decide) hS
 refine iNil (iFa fun w23 x23=>?_)
 refine iStU (hb22.ext x23) (by simp) ho22.cell fun w24 hB24 u24=>?_
 obtain ⟨X24,hd24⟩:=DsV.pushI X21 hd21 ho22 hg22 hn22 x23 hB24 (u24.ch (S:=fun c=>c = q) rfl)
 intro w25 x25
 have hd25:=hd24.ext x25
 simp only [len1] at hd25 hy2 hy3
 refine ⟨X24.trans x25,vl18,vs15,vi22,[y1,y2,y3],?_,?_⟩
 ·rw [show Y ++ [y1,y2,y3] = Y ++ [y1] ++ [y2] ++ [y3] by simp,show (Y.length:Int) + 2 = ((Y.length + 1 + 1:Nat):Int) by omega]
  exact hd25
 ·have g1:lift.getD y.x.first.toNat 0 = gt lift y.x.first.toNat:=rfl
  have g2:lift.getD y.x.second.toNat 0 = gt lift y.x.second.toNat:=rfl
  rw [g1] at hy2
  rw [g2] at hy3
  simp only [List.map_cons,List.map_nil,hy1,hy2,hy3,rawF]
  simp
  rfl
end Go.Proofs.YtbfpohbmgjcjmaaGreatDoor

namespace Go.Vc
theorem Blk.ne {e e':TypeId} {w:World} {b b':Nat} {cs ds:List Value} (h:Blk e w b cs) (k:Blk e' w b' ds) (hne:e ≠ e'):¬ b = b':=fun e=>by
 subst e
 unfold Blk at h k
 rw [h] at k
 injection k with k
 injection k with k h
 exact hne h
theorem iFldE {sz f:Nat} {w:World} {v x:Value} {n:Nat} {xs:List Value} {z:Int} {j:Nat} {k:IntKind} {G:Value → Prop} (hs:SlK sz w v n xs) (hz:z = (j:Int)) (h1:j < n) (hf:f < sz) (hx:xs[j * sz + f]? = some x) (h:∀ q,(∀ w',Ext w w' → ∀ K':Value → Prop,K' x → xLd w' q K') → G q):xIa sz v (.int k z) fun p=>xFa f p G:=by
 subst hz
 refine iIaK hs h1 fun b o hc=>?_
 refine ⟨_,rfl,?_⟩
 rw [bF]
 exact h _ fun w' e K' hK=>iLd (e.cell ((hc f hf).trans hx)) hK
theorem iQEZ {P:Program} {f:FuncId} {args:List Value} {w:World} {E:World → World → Prop} {v:Value} {K:Value → Prop} (hr:∀ w',E w w' → Ret P f args.toArray w' v) (h:K v):mH P E (.func (.func f) #[] #[]) args w K:=
 ⟨v,fun w' e=>iRet (hr w' e) fun _ x=>⟨rfl,x⟩,h⟩
end Go.Vc
namespace Go.Proofs.YtbfpohbmgjcjmaaGreatDoor
open Go.Vc
def LineT (w12:World) (v0 v6 v7:Value) (K:Value → World → Prop):Prop:=
 ∃ E13:World → World → Prop,FrE E13 ∧ xFa 0 v7 fun v45=>xLd w12 v45 fun v46=>(∀ w14,E13 w12 w14 → xLd w14 v45 fun u46=>u46 = v46) ∧ xFa 1 v7 fun v47=>xLd w12 v47 fun v48=>(∀ w15,E13 w12 w15 → xLd w15 v47 fun u48=>u48 = v48) ∧ xFa 2 v7 fun v49=>xLd w12 v49 fun v50=>(∀ w16,E13 w12 w16 → xLd w16 v49 fun u50=>u50 = v50) ∧ xFa 3 v7 fun v51=>xLd w12 v51 fun v52=>(∀ w17,E13 w12 w17 → xLd w17 v51 fun u52=>u52 = v52) ∧ xFa 3 v6 fun v54=>xLd w12 v54 fun v55=>(∀ w18,E13 w12 w18 → xLd w18 v54 fun u55=>u55 = v55) ∧
  ∀ w19,Ext w12 w19 → callV Tryz.prog (.func (.func jU) #[] #[]) [v0,v46,v48,v50,v52] w19 fun v53 w20=>E13 w19 w20 ∧ ∀ w21,Ext w20 w21 → callV Tryz.prog (.func (.func gK) #[] #[]) [v0,v53,v55] w21 fun _ w22=>∀ w23,Ext w22 w23 → K (.tuple #[]) w23
theorem MF {q m p:Nat} {B:Option Nat} {e:TypeId} {w w':World} {cs:List Value} (h:DRel q m B w w') (hb:Blk e w p cs) (h1:¬ p = q) (h2:¬ B = some p) (h3:p < m):Blk e w' p cs:=
 hb.ch h.1 fun hS=>by
  rcases hS with e | e | e
  ·exact h1 e
  ·exact h2 e
  ·omega
theorem WP {q q6 q7:Nat} {w0 w12:World} {va vl vs vi v':Value} {Y:List HV} {ow lift:List Int} {y:HV} {r f s:Int} {N:List RN} {A C:Fm} (X:Ext w0 w12) (h:DsV w0.heap.size w12 q va vl vs vi Y ow lift) (hA:FmS w0 va A) (hC:FmS w0 y.v C) (hs:A.size ≤ 10000 ∧ C.size ≤ 10000) (hY:Y.length ≤ 5000) (hl:ow.length ≤ 10000 ∧ lift.length ≤ 10000)
  (h6:Blk aC w12 q6 [.int .i64 y.x.rule,.int .i64 y.x.first,.int .i64 y.x.second,y.v]) (h7:Blk aC w12 q7 [.int .i64 r,.int .i64 f,.int .i64 s,v']) (hv:RawW 0 aA w12 v' N) (m6:¬ vl.ownBlock = some q6) (m7:¬ vl.ownBlock = some q7) {K:Value → World → Prop}
  (hK:∀ w' vl' vs' vi' Y2,Ext w0 w' → DsV w0.heap.size w' q va vl' vs' vi' (Y ++ Y2) (ow ++ [(Y.length:Int)]) (lift ++ [(Y.length:Int) + 2]) → Y2.map HV.x = [⟨r,f,s,N⟩] ++ weakL (rawF A) (rawF C) Y.length → K (.tuple #[]) w'):
  LineT w12 (.pointer (some ⟨q,0,none⟩)) (.pointer (some ⟨q6,0,none⟩)) (.pointer (some ⟨q7,0,none⟩)) K:=by
 unfold LineT
 have n6:=h6.ne h.blk (by decide)
 have n7:=h7.ne h.blk (by decide)
 have st7:∀ w',DRel q w12.heap.size vl.ownBlock w12 w' → Blk aC w' q7 [.int .i64 r,.int .i64 f,.int .i64 s,v']:=fun w' e=>MF e h7 n7 m7 h7.lt
 refine ⟨DRel q w12.heap.size vl.ownBlock,j4 _ _ _,?_⟩
 refine iFa (iLdB h7 (i:=0) (v:=.int .i64 r) rfl ⟨fun w' e=>iLdB (st7 w' e) (i:=0) (v:=.int .i64 r) rfl rfl,?_⟩)
 refine iFa (iLdB h7 (i:=1) (v:=.int .i64 f) rfl ⟨fun w' e=>iLdB (st7 w' e) (i:=1) (v:=.int .i64 f) rfl rfl,?_⟩)
 refine iFa (iLdB h7 (i:=2) (v:=.int .i64 s) rfl ⟨fun w' e=>iLdB (st7 w' e) (i:=2) (v:=.int .i64 s) rfl rfl,?_⟩)
 refine iFa (iLdB h7 (i:=3) (v:=v') rfl ⟨fun w' e=>iLdB (st7 w' e) (i:=3) (v:=v') rfl rfl,?_⟩)
 refine iFa (iLdB h6 (i:=3) (v:=y.v) rfl ⟨fun w' e=>iLdB (MF e h6 n6 m6 h6.lt) (i:=3) (v:=y.v) rfl rfl,?_⟩)
 intro w19 x19
 have hd:=h.ext x19
 refine iCall ((cF (X.trans x19) hd (OwK.ext hv x19) (by omega)).mono ?_)
 rintro _ w20 ⟨rfl,X20,c20,vl20,y1,hy1,hd20,-⟩
 refine ⟨DsV.drel hd hd20 c20 (.inl rfl),fun w21 x21=>?_⟩
 refine iCall ((ER (X20.trans x21) (hd20.ext x21) hA hC hs (by rw [len1];omega) hl).mono ?_)
 rintro _ w22 ⟨X22,vl',vs',vi',Y2,hd22,hY2⟩
 intro w23 x23
 have hd23:=hd22.ext x23
 rw [len1] at hd23 hY2
 refine hK w23 vl' vs' vi' (y1 :: Y2) (X22.trans x23) ?_ ?_
 ·rw [show Y ++ y1 :: Y2 = Y ++ [y1] ++ Y2 by simp,show (Y.length:Int) + 2 = ((Y.length + 1:Nat):Int) + 1 by omega]
  exact hd23
 ·rw [List.map_cons,hy1,hY2]
  unfold weakL
  simp
structure DsS (w0 w:World) (q:Nat) (va:Value) (A:Fm) (last:Int) (L:List HL) (i:Nat):Prop where
 x:Ext w0 w
 ex:∃ vl vs vi Y ow,DsV w0.heap.size w q va vl vs vi Y ow (disK (rawF A) last L i).lift ∧ Y.map HV.x = (disK (rawF A) last L i).out ∧ ow.length = i ∧ ∀ j,j < i → gt (usesB L) j = false → gt ow j = gt (disK (rawF A) last L i).own j
theorem SP {q b i lo1:Nat} {w0 w:World} {t:Str} {va v1 v2:Value} {R:List HV} {L:List VN} {D:List (Value × List Int)} {A:Fm} (hU:UsW lo1 w0 b t v1 v2 (R.map HV.x) L.length D) (hD:D.length = R.length) (hH:RwN w0 v1 L) (hR:RdH w0 v2 R) (hL:DisL L.length R) (hA:FmS w0 va A) (hsA:A.size ≤ 10000) (hi:i < R.length) (h:DsS w0 w q va A ((L.length:Int) - 1) (R.map HV.x) i) (hLl:L.length ≤ 1000):
  Cal Tryz.prog pE #[.pointer (some ⟨q,0,none⟩),.pointer (some ⟨b,0,none⟩),.int .i64 (i:Int)] w fun _ w'=>DsS w0 w' q va A ((L.length:Int) - 1) (R.map HV.x) (i + 1):=by
 have hRl:=hL.len
 obtain ⟨C,sC,hN⟩:=hL.fm i hi
 have hin:=hL.inh i hi
 have hrl:=hL.rl i hi
 have htw:=hL.two i hi
 have hus:=hU.us i (by omega)
 have hm:gt R i ∈ R:=by rw [gt_eq hi];exact List.getElem_mem _
 have mD:gt D i ∈ D:=by rw [gt_eq (by omega)];exact List.getElem_mem _
 have hua:=yT (L:=R.map HV.x) (k:=i) (by rw [List.length_map];exact hi)
 rw [bR hi] at hua
 obtain ⟨d1,d2,d3⟩:=MZ (rawF A) ((L.length:Int) - 1) (R.map HV.x) i
 have hst:disK (rawF A) ((L.length:Int) - 1) (R.map HV.x) (i + 1) = cN (rawF A) ((L.length:Int) - 1) (R.map HV.x) (gt (usesB (R.map HV.x)) i) (disK (rawF A) ((L.length:Int) - 1) (R.map HV.x) i) (gt R i).x:=by rw [disK,bR hi]
 obtain ⟨X,vl,vs,vi,Y,ow,hd,hY,hol,how⟩:=h
 have hYl:Y.length = (disK (rawF A) ((L.length:Int) - 1) (R.map HV.x) i).out.length:=by rw [← hY,List.length_map]
 have fin:∀ {w':World} {vl' vs' vi':Value} {Y2:List HV} {o l:Int} {Z:List HL} {o':Int},Ext w0 w' → DsV w0.heap.size w' q va vl' vs' vi' (Y ++ Y2) (ow ++ [o]) ((disK (rawF A) ((L.length:Int) - 1) (R.map HV.x) i).lift ++ [l]) → Y2.map HV.x = Z → cN (rawF A) ((L.length:Int) - 1) (R.map HV.x) (gt (usesB (R.map HV.x)) i) (disK (rawF A) ((L.length:Int) - 1) (R.map HV.x) i) (gt R i).x = ⟨(disK (rawF A) ((L.length:Int) - 1) (R.map HV.x) i).out ++ Z,(disK (rawF A) ((L.length:Int) - 1) (R.map HV.x) i).own ++ [o'],(disK (rawF A) ((L.length:Int) - 1) (R.map HV.x) i).lift ++ [l]⟩ → (gt (usesB (R.map HV.x)) i = false → o = o') → DsS w0 w' q va A ((L.length:Int) - 1) (R.map HV.x) (i + 1):=fun {w' vl' vs' vi' Y2 o l Z o'} X' hd' hZ hs' ho=>by
  rw [hs'] at hst
  refine ⟨X',vl',vs',vi',Y ++ Y2,ow ++ [o],by rw [hst];exact hd',by rw [hst,List.map_append,hY,hZ],by rw [List.length_append,hol];rfl,fun j hj hu=>?_⟩
  rw [hst]
  by_cases e:j < i
  ·show gt (ow ++ [o]) j = gt ((disK (rawF A) ((L.length:Int) - 1) (R.map HV.x) i).own ++ [o']) j
   rw [bK (by omega),bK (by omega)]
   exact how j e hu
  ·have:j = i:=by omega
   subst this
   show gt (ow ++ [o]) j = gt ((disK (rawF A) ((L.length:Int) - 1) (R.map HV.x) j).own ++ [o']) j
   have g1:=bT ow o
   have g2:=bT (disK (rawF A) ((L.length:Int) - 1) (R.map HV.x) j).own o'
   rw [hol] at g1
   rw [d1] at g2
   rw [g1,g2,ho hu]
 generalize hS:disK (rawF A) ((L.length:Int) - 1) (R.map HV.x) i = S at *
 obtain ⟨vu,hb,hvu⟩:=hU.ex
 apply CA;unfold oI
 refine iNil (iFa (iLdB (hb.ext X) (i:=2) (v:=v2) rfl ?_))
 refine iAtH (hR.ext X) rfl hi ?_
 refine iNew4 fun q6 w1 hq x1 hB1=>?_
 refine iStAB hB1 rfl rfl (fun y hy=>?_) fun w2 u2 hB2=>?_
 ·simp only [HV.cs,List.mem_cons,List.not_mem_nil,or_false] at hy
  rcases hy with rfl | rfl | rfl | rfl
  ·rfl
  ·rfl
  ·rfl
  ·exact SlK.cellZ (hR.fm _ hm)
 have x02:Ext w w2:=x1.upd u2 (by omega)
 have X2:=X.trans x02
 have hd2:=hd.ext x02
 have hRy:∀ {w':World},Ext w0 w' → RawS w' (gt R i).v (gt R i).x.N:=fun x=>(hR.ext x).fm _ hm
 generalize hy:gt R i = y at *
 have hB2:Blk aC w2 q6 [.int .i64 y.x.rule,.int .i64 y.x.first,.int .i64 y.x.second,y.v]:=hB2
 have hC:FmS w0 y.v C:=eE (hN ▸ hRy (Ext.refl _))
 have hNl:y.x.N.length ≤ 1000000:=by rw [hN,aG];omega
 have hN0:0 < y.x.N.length:=by rw [hN,aG];exact C.size_pos
 have m6:¬ vl.ownBlock = some q6:=fun e=>by have:=(OwK.blk hd.ln.row _ e).2;omega
 have l2:=hB2.lt
 refine iNil (iFa (iLdB (hb.ext X2) (i:=3) (v:=vu) rfl ?_))
 refine iIa (j:=(i:Int)) (hvu.ext X2).sl (by omega) (by rw [List.length_map];omega) fun p hp=>?_
 rw [Int.toNat_natCast,List.getElem?_map,List.getElem?_eq_getElem (by omega),Option.map_some,← gt_eq (by omega)] at hp
 refine iLd hp (iLenI ((hU.mem _ mD).1.ext X2).sl (iEq (iCndP (fun hu0=>?_) (fun hu0=>?_))))
 · -- the line stays
  have hu1:gt (usesB (R.map HV.x)) i = false:=hus.1 (List.length_eq_zero_iff.1 (by omega))
  have ut:∀ {j:Nat},j < i → gt (usesB ((R.map HV.x).take i)) j = gt (usesB (R.map HV.x)) j:=fun hj=>kB hj (by rw [List.length_map];omega)
  have hmv:mvH y.x ow = mvH y.x S.own:=by
   rw [hu1] at hua
   unfold bE at hua
   unfold mvH
   split
   ·rename_i e3
    obtain ⟨⟨a1,a2⟩,b1,b2⟩:=hin.2.1 e3
    rw [if_neg (by omega),if_pos e3,ut (by omega),ut (by omega)] at hua
    have hua:=Bool.or_eq_false_iff.1 hua.symm
    rw [how _ (by omega) hua.1,how _ (by omega) hua.2]
   ·split
    ·rename_i e3 e4
     have:=hin.2.2 e4
     rw [if_neg (by omega),if_neg e3,if_pos e4,ut (by omega)] at hua
     rw [how _ (by omega) hua.symm]
    ·rfl
  refine ⟨Ext,QG,iLdA hB2 rfl ⟨fun w4 e=>iLdA (hB2.ext e) rfl rfl,iNil (iFa (iLdB hd2.blk (i:=2) (v:=vs) rfl ⟨fun w5 e=>iLdB (hd2.blk.ext e) (i:=2) (v:=vs) rfl rfl,?_⟩))⟩⟩
  have tail:∀ {w12:World} {q7:Nat} {v':Value},Ext w2 w12 → Blk aC w12 q7 (HV.cs ⟨mvH y.x ow,v'⟩) → RawW 0 aA w12 v' y.x.N → w2.heap.size ≤ q7 → LineT w12 (.pointer (some ⟨q,0,none⟩)) (.pointer (some ⟨q6,0,none⟩)) (.pointer (some ⟨q7,0,none⟩)) fun _ w'=>DsS w0 w' q va A ((L.length:Int) - 1) (R.map HV.x) (i + 1):=fun {w12 q7 v'} x hb7 hv' hq7=>by
   refine WP (y:=y) (A:=A) (C:=C) (N:=y.x.N) (X2.trans x) (hd2.ext x) hA hC ⟨hsA,sC⟩ (by omega) (by omega) (hB2.ext x) (r:=(mvH y.x ow).rule) (f:=(mvH y.x ow).first) (s:=(mvH y.x ow).second) hb7 hv' m6 (fun e=>by have:=(OwK.blk hd2.ln.row _ e).2;omega) fun w' vl' vs' vi' Y2 X' hd' hY2=>?_
   rw [hYl] at hd' hY2
   refine fin X' hd' hY2 ?_ fun _=>rfl
   unfold cN
   rw [if_pos hu1,hN,← hmv]
   congr 3
   have e:(mvH y.x ow).N = rawF C:=(mvH_N _ _).trans hN
   rw [← hN,← mvH_N y.x ow]
  have cell4:∀ {v':Value} {x':HL},aF v' = true → ∀ z ∈ (HV.cs ⟨x',v'⟩).toArray.toList,aF z = true:=fun hv z hz=>by
   simp only [HV.cs,List.mem_cons,List.not_mem_nil,or_false] at hz
   rcases hz with rfl | rfl | rfl | rfl
   ·rfl
   ·rfl
   ·rfl
   ·exact hv
  have r3:y.x.rule = 3 → (0 ≤ y.x.first ∧ y.x.first < (ow.length:Int)) ∧ 0 ≤ y.x.second ∧ y.x.second < (ow.length:Int):=fun e=>by
   have:=hin.2.1 e;omega
  have r4:y.x.rule = 4 → 0 ≤ y.x.first ∧ y.x.first < (ow.length:Int):=fun e=>by
   have:=hin.2.2 e;omega
  intro w6 x6
  constructor
  ·refine iCall ((nU (y:=y) (hRy (X2.trans x6)) hNl hN0 (hd2.ext x6).s.sl r3 r4).mono ?_)
   rintro _ w7 ⟨x7,v',rfl,h7⟩
   intro w8 x8
   refine iNew4 fun q7 w9 hq7 x9 hB9=>⟨x9,fun w10 x10=>?_⟩
   refine iStAB (hB9.ext x10) rfl rfl (cell4 (OwK.cell h7)) fun w11 u11 hB11=>?_
   intro w12 x12
   have s1:=((x6.trans x7).trans x8).size
   have c11:=u11.ch (S:=fun c=>c = q7) rfl
   have h10:=OwK.ext h7 ((x8.trans x9).trans x10)
   have h11:RawW 0 aA w12 v' y.x.N:=OwK.mono (OwK.ext (OwK.ch h10 c11 fun c hc hS=>by subst hS;exact OwK.ne_blk h10 (hB9.ext x10) (by decide) hc) x12) (Nat.zero_le _)
   have hB12:=hB11.ext x12
   exact tail (((((x6.trans x7).trans x8).trans x9).trans x10 |>.thenCh c11 fun c hc=>by omega).trans x12) (by simpa using hB12) h11 (by omega)
  ·refine iNew4 fun q7 w9 hq7 x9 hB9=>⟨x9,fun w10 x10=>?_⟩
   have x10':=(x6.trans x9).trans x10
   refine iCall ((nU (y:=y) (hRy (X2.trans x10')) hNl hN0 (hd2.ext x10').s.sl r3 r4).mono ?_)
   rintro _ w7 ⟨x7,v',rfl,h7⟩
   intro w8 x8
   refine iStAB (hB9.ext ((x10.trans x7).trans x8)) rfl rfl (cell4 (OwK.cell h7)) fun w11 u11 hB11=>?_
   intro w12 x12
   have s1:=x6.size
   have c11:=u11.ch (S:=fun c=>c = q7) rfl
   have h10:=OwK.ext h7 x8
   have h11:RawW 0 aA w12 v' y.x.N:=OwK.mono (OwK.ext (OwK.ch h10 c11 fun c hc hS=>by subst hS;exact OwK.ne_blk h10 (hB9.ext ((x10.trans x7).trans x8)) (by decide) hc) x12) (Nat.zero_le _)
   have hB12:=hB11.ext x12
   exact tail (((x10'.trans x7).trans x8 |>.thenCh c11 fun c hc=>by omega).trans x12) (by simpa using hB12) h11 (by omega)
 ·have hu1:¬ gt (usesB (R.map HV.x)) i = false:=fun e=>hu0 (by rw [hus.2 e];rfl)
  have hr:y.x.rule = 2 ∨ y.x.rule = 3:=hrl (by cases e:gt (usesB (R.map HV.x)) i;exact absurd e hu1;rfl)
  refine iJnX (fun xs w'=>xs = [.bool (decide (y.x.rule = 2 ∧ y.x.first = (L.length:Int) - 1))] ∧ Ext w2 w') (fun J hJ=>?_) ?_
  ·refine ⟨Ext,QG,iFa (iLdB hB2 (i:=0) (v:=.int .i64 y.x.rule) rfl ⟨fun w' e=>iLdB (hB2.ext e) (i:=0) (v:=.int .i64 y.x.rule) rfl rfl,iEq (iCndP (fun e=>?_) (fun e=>?_))⟩)⟩
   ·refine iFa (iLdB hB2 (i:=1) (v:=.int .i64 y.x.first) rfl ⟨fun w' e=>iLdB (hB2.ext e) (i:=1) (v:=.int .i64 y.x.first) rfl rfl,?_⟩)
    refine iNil (iFa (iLdB (hb.ext X2) (i:=1) (v:=v1) rfl ⟨fun w' e=>iLdB (hb.ext (X2.trans e)) (i:=1) (v:=v1) rfl rfl,?_⟩))
    refine iQEZ (v:=.int .i64 (L.length:Int)) (fun w' e=>?_) (iSub (by omega) (iEq fun w5 x5=>hJ _ _ ⟨?_,x5⟩))
    ·have:=mO (hH.ext (X2.trans e)).row
     rw [List.length_map] at this
     exact this
    ·congr 2
     exact decide_eq_decide.2 ⟨fun h=>⟨e,h⟩,fun h=>h.2⟩
   ·exact fun w5 x5=>hJ _ _ ⟨by rw [decide_eq_false (fun h=>e h.1)],x5⟩
  rintro _ w3 ⟨rfl,x3⟩
  intro _
  simp only [gx]
  have X3:=X2.trans x3
  have hd3:=hd2.ext x3
  have hB3:=hB2.ext x3
  refine iCndP (fun e=>?_) (fun e=>?_)
  ·refine iCall ((NI X3 hd3 hA hsA (by omega) (by omega)).mono ?_)
   rintro _ w4 ⟨X4,vl',vs',vi',Y2,hd4,hY2⟩
   rw [hYl] at hd4 hY2
   refine fin X4 hd4 hY2 (o':=0) ?_ fun h=>absurd h hu1
   unfold cN
   rw [if_neg hu1,if_pos e]
  ·refine iFa (iLdB hB3 (i:=0) (v:=.int .i64 y.x.rule) rfl (iEq (iCndP (fun e2=>?_) (fun e2=>?_))))
   ·have n6:=hB3.ne hd3.blk (by decide)
    have st6:∀ w',DRel q w3.heap.size vl.ownBlock w3 w' → Blk aC w' q6 [.int .i64 y.x.rule,.int .i64 y.x.first,.int .i64 y.x.second,y.v]:=fun w' e=>MF e hB3 n6 m6 hB3.lt
    refine ⟨DRel q w3.heap.size vl.ownBlock,j4 _ _ _,?_⟩
    refine iFa (iLdB hB3 (i:=0) (v:=.int .i64 y.x.rule) rfl ⟨fun w' e=>iLdB (st6 w' e) (i:=0) (v:=.int .i64 y.x.rule) rfl rfl,?_⟩)
    refine iFa (iLdB hB3 (i:=1) (v:=.int .i64 y.x.first) rfl ⟨fun w' e=>iLdB (st6 w' e) (i:=1) (v:=.int .i64 y.x.first) rfl rfl,?_⟩)
    refine iFa (iLdB hB3 (i:=3) (v:=y.v) rfl ⟨fun w' e=>iLdB (st6 w' e) (i:=3) (v:=y.v) rfl rfl,?_⟩)
    refine iFa (iLdB hB3 (i:=3) (v:=y.v) rfl ⟨fun w' e=>iLdB (st6 w' e) (i:=3) (v:=y.v) rfl rfl,?_⟩)
    intro w4 x4
    refine iCall ((mV (hRy (X3.trans x4)) hN0 hNl).mono ?_)
    rintro v86 w5 ⟨x5,h86⟩
    refine ⟨(j4 _ _ _).ext _ _ x5,fun w6 x6=>?_⟩
    have x36:=(x4.trans x5).trans x6
    have hd6:=hd3.ext x36
    refine iCall ((cF (X3.trans x36) hd6 (OwK.mono (OwK.ext h86 x6) (Nat.zero_le _)) (by omega)).mono ?_)
    rintro _ w7 ⟨rfl,X7,c7,vl7,y1,hy1,hd7,-⟩
    refine ⟨DsV.drel hd6 hd7 c7 (.inl rfl),fun w8 x8=>?_⟩
    refine iCall ((ER (X7.trans x8) (hd7.ext x8) hA hC ⟨hsA,sC⟩ (by rw [len1];omega) (by omega)).mono ?_)
    rintro _ w9 ⟨X9,vl',vs',vi',Y2,hd9,hY2⟩
    intro w10 x10
    have hd10:=hd9.ext x10
    rw [len1,hYl] at hd10 hY2
    rw [show ((S.out.length + 1:Nat):Int) + 1 = (S.out.length:Int) + 2 by omega] at hd10
    refine fin (Y2:=y1 :: Y2) (Z:=[⟨2,y.x.first,0,y.x.N⟩] ++ weakL (rawF A) y.x.N S.out.length) (o':=0) (X9.trans x10) (by rw [show Y ++ y1 :: Y2 = Y ++ [y1] ++ Y2 by simp];exact hd10) ?_ ?_ fun h=>absurd h hu1
    ·rw [List.map_cons,hy1,hY2,e2,hN]
     unfold weakL
     simp
    ·unfold cN
     rw [if_neg hu1,if_neg e,if_pos e2]
   ·have e3:y.x.rule = 3:=hr.resolve_left e2
    obtain ⟨⟨a1,a2⟩,b1,b2⟩:=hin.2.1 e3
    have hj1:y.x.second.toNat < R.length:=by omega
    obtain ⟨E,hE,hEN⟩:=hL.fm _ hj1
    have m1:gt R y.x.second.toNat ∈ R:=by rw [gt_eq hj1];exact List.getElem_mem _
    have hfE:FmS w0 (gt R y.x.second.toNat).v E:=eE (hEN ▸ hR.fm _ m1)
    refine ⟨Ext,QG,iLdA hB3 rfl ⟨fun w' e=>iLdA (hB3.ext e) rfl rfl,?_⟩⟩
    refine iNil (iFa (iLdB (hb.ext X3) (i:=2) (v:=v2) rfl ⟨fun w' e=>iLdB (hb.ext (X3.trans e)) (i:=2) (v:=v2) rfl rfl,?_⟩))
    refine iFa (iLdB hB3 (i:=2) (v:=.int .i64 y.x.second) rfl ⟨fun w' e=>iLdB (hB3.ext e) (i:=2) (v:=.int .i64 y.x.second) rfl rfl,?_⟩)
    refine iFldE (j:=y.x.second.toNat) (f:=3) (hR.ext X3).row (by omega) hj1 (by decide) (by rw [BO hj1 3 (by decide)];rfl) fun p hp=>hp w3 (Ext.refl _) _ ⟨fun w' e=>hp w' e _ rfl,?_⟩
    intro w4 x4
    refine iCall ((QU (y:=y) (X3.trans x4) (hd3.ext x4) hA hfE hC ⟨hsA,sC,hE⟩ (by omega) (by omega) (by omega) (by omega)).mono ?_)
    rintro _ w5 ⟨X5,vl',vs',vi',Y2,hd5,hY2⟩
    intro w6 x6
    have hd6:=hd5.ext x6
    rw [hYl] at hd6 hY2
    refine fin (o':=0) (X5.trans x6) hd6 hY2 ?_ fun h=>absurd h hu1
    unfold cN
    rw [if_neg hu1,if_neg e,if_neg e2,bR hj1,hEN,hN]
end Go.Proofs.YtbfpohbmgjcjmaaGreatDoor

namespace Go.Proofs.YtbfpohbmgjcjmaaGreatDoor
open Go.Vc
theorem VV {t:Str} {H:List (List RN)} {L:List HL} (ht:sysNo t < 10) (hH:¬ H.all isN = false):codeH t H L true = if ¬ (1 ≤ L.length ∧ L.length ≤ 200) then 3 else if 0 ≤ badH (sysNo t) H L then 5 else 0:=by
 unfold codeH
 rw [if_neg (fun h=>h ht),if_neg hH]
 by_cases h3:L.length = 0 ∨ 200 < L.length
 ·rw [if_pos h3,if_pos (by omega)]
 ·rw [if_neg h3,if_neg (show ¬ ¬ (1 ≤ L.length ∧ L.length ≤ 200) by omega)]
  by_cases h4:0 ≤ badH (sysNo t) H L
  ·rw [if_pos ⟨rfl,h4⟩,if_pos h4]
  ·rw [if_neg (fun h=>h4 h.2),if_neg h4]
theorem YF {v:Value} {Y:List HV} {w:World} (h:RdH w v Y):Ret Tryz.prog c8 #[v,.func (.func cH) #[] #[]] w (.bool ((Y.map HV.x).any fun x=>decide (40 < x.N.length))):=by
 have hln:=h.row.len
 have hi:Cal Tryz.prog eA #[v,.func (.func cH) #[] #[]] w fun r w'=>Ext w w' ∧ ∃ z:Int,r = .int .i64 z ∧ (0 ≤ z ↔ ∃ y ∈ Y,40 < y.x.N.length):=by
  apply kW;unfold dY
  refine iLenK h.row ?_
  refine iLp (fun i:Nat=>[.int .i64 (i:Int)]) (fun i w'=>i ≤ Y.length ∧ Ext w w' ∧ ∀ j,j < i → ¬ 40 < (gt Y j).x.N.length) (fun i=>Y.length - i) 0 rfl ⟨Nat.zero_le _,Ext.refl _,fun j hj=>absurd hj (Nat.not_lt_zero j)⟩ ?_
  rintro i w2 Kn ⟨hi,x2,hall⟩ hKn
  intro _
  simp only [gx]
  refine iLt (iCndP (fun hlt=>?_) (fun hlt=>?_))
  ·have hil:i < Y.length:=by omega
   have hm:gt Y i ∈ Y:=by rw [gt_eq hil];exact List.getElem_mem _
   refine iAtH (h.ext x2) rfl hil ?_
   have h1:Ret Tryz.prog cH #[.agg (gt Y i).cs.toArray] w2 (.bool (decide (40 < (gt Y i).x.N.length))):=by
    apply uL;unfold jL
    refine iNew4 fun q w3 hq x3 hB=>?_
    refine iFa (iLdB hB (i:=3) (v:=(gt Y i).v) rfl ?_)
    refine iLenK ((h.ext (x2.trans x3)).fm _ hm) (iLt ⟨?_,x3⟩)
    congr 1
    exact decide_eq_decide.2 (by omega)
   refine iRet h1 fun w3 x3=>iCndP (fun hc=>?_) (fun hc=>?_)
   ·exact ⟨x2.trans x3,_,rfl,fun _=>⟨_,hm,hc⟩,fun _=>by omega⟩
   ·refine iAdd (by omega) ?_
    refine hKn (i + 1) _ ⟨hil,x2.trans x3,fun j hj=>?_⟩ (by omega)
    by_cases e:j = i
    ·rw [e];exact hc
    ·exact hall j (by omega)
  ·refine ⟨x2,_,rfl,fun h=>by omega,fun ⟨y,hy,hc⟩=>?_⟩
   obtain ⟨j,hj,rfl⟩:=List.getElem_of_mem hy
   rw [← gt_eq hj] at hc
   exact absurd hc (hall j (by omega))
 apply jS;unfold dD
 refine iCall (hi.mono ?_)
 rintro _ w1 ⟨x1,z,rfl,hz⟩
 refine iLe ⟨?_,x1⟩
 congr 1
 rw [Bool.eq_iff_iff,decide_eq_true_eq,hz,List.any_eq_true]
 exact ⟨fun ⟨y,hy,h⟩=>⟨y.x,List.mem_map.2 ⟨y,hy,rfl⟩,decide_eq_true h⟩,fun ⟨x,hx,h⟩=>by
  obtain ⟨y,hy,rfl⟩:=List.mem_map.1 hx
  exact ⟨y,hy,of_decide_eq_true h⟩⟩
theorem RdH.none (w:World):RdH w (.slice none 0 0) []:=⟨(OwK.nil 4 0 aC w).sl,fun y hy=>by cases hy⟩
theorem vJ {t:Str} {v1 v2:Value} {L:List VN} {R:List HV} {w:World} (hT:SchOk w) (hH:RwN w v1 L) (hLl:L.length ≤ 6) (hLs:∀ p ∈ L,p.2.length ≤ 1000000) (hR:RdH w v2 R) (hRs:∀ y ∈ R,y.x.N.length ≤ 1000000):
  Cal Tryz.prog kM #[sv t,v1,v2] w fun r w'=>Ext w w' ∧ ∃ u Y,r = .tuple #[u,.int .i64 (m5 t (L.map Prod.snd) (R.map HV.x))] ∧ RdH w' u Y ∧ Y.map HV.x = if m5 t (L.map Prod.snd) (R.map HV.x) = 0 then outH (L.map Prod.snd) (R.map HV.x) else []:=by
 have hRln:=hR.row.len
 apply wV;unfold kV
 unfold m5
 rw [Q6]
 refine iRet (iW hH hLs) fun w1 x1=>?_
 generalize hc:(if ¬ sysNo t < 10 then (2:Int) else if (L.map Prod.snd).all isN = false then 1 else 0) = c
 have hc3:c = 2 ∨ c = 1 ∨ c = 0:=by
  rw [← hc]
  split
  ·exact .inl rfl
  ·split
   ·exact .inr (.inl rfl)
   ·exact .inr (.inr rfl)
 refine iNe (iCndP (fun h=>?_) (fun h=>?_))
 ·rw [if_pos h,if_pos (by omega)]
  exact ⟨x1,_,[],rfl,RdH.none _,by rw [if_neg h];rfl⟩
 have h:c = 0:=Classical.not_not.1 h
 rw [h] at hc
 rw [h]
 have ht:sysNo t < 10:=Classical.byContradiction fun e=>by rw [if_pos e] at hc;cases hc
 rw [if_neg (fun h=>h ht)] at hc
 have hall:¬ (L.map Prod.snd).all isN = false:=fun e=>by rw [if_pos e] at hc;cases hc
 rw [if_neg (show ¬ ((0:Int) ≠ 0) from fun h=>h rfl)]
 rw [if_neg (show ¬ ((if ¬ (1 ≤ (R.map HV.x).length ∧ (R.map HV.x).length ≤ 200) then (3:Int) else 0) = 2 ∨ (if ¬ (1 ≤ (R.map HV.x).length ∧ (R.map HV.x).length ≤ 200) then (3:Int) else 0) = 1) by split <;> decide)]
 refine iLenS (hH.ext x1).row (iEq ?_)
 rw [List.length_map,List.length_map]
 refine iCndP (fun h0=>?_) (fun h0=>?_)
 ·have h0:L.length = 0:=by omega
  rw [if_pos h0]
  exact ⟨x1,_,[],rfl,RdH.none _,by rw [if_neg (by decide)];rfl⟩
 have h0:¬ L.length = 0:=by omega
 rw [if_neg h0]
 refine iBs1 rfl (SlK.cellZ hR.row) fun cb w2 hcb x2 hB2=>?_
 have hl2:Sl w2 (.slice (some ⟨cb,0,none⟩) 1 1) [v2]:=Sl.ofBlk (n:=1) hB2 rfl (by decide)
 have X2:=x1.trans x2
 refine iCall ((tF ht (hT.ext X2) (hH.ext X2) hLl hl2 (hR.ext X2) hRs).mono ?_)
 rintro _ w3 ⟨x3,v29,rfl,hpr⟩
 have X3:=X2.trans x3
 have hct:=VV (L:=R.map HV.x) ht hall
 rw [List.length_map] at hct
 rw [← hct] 
 generalize hc1:codeH t (L.map Prod.snd) (R.map HV.x) true = c1 at *
 refine iE20 (iE21 (iNe (iCndP (fun e=>?_) (fun e=>?_))))
 ·rw [if_pos e]
  exact ⟨X3,_,[],rfl,RdH.none _,by rw [if_neg e];rfl⟩
 rw [if_neg e]
 have e:c1 = 0:=Classical.not_not.1 e
 rw [e] at hc1
 obtain ⟨-,hHn,l1,l2,hg⟩:=kG hc1
 rw [List.length_map] at l1 l2
 have hbad:badH (sysNo t) (L.map Prod.snd) (R.map HV.x) = -1:=oN fun k _ hk=>hg k (by omega)
 obtain ⟨b,D,hDl,hv29,hU⟩:=hpr ⟨by omega,by omega⟩ (by rw [hbad];decide)
 have hm:gt L (L.length - 1) ∈ L:=by rw [gt_eq (by omega)];exact List.getElem_mem _
 obtain ⟨A,-,sA,hA⟩:=dI (hHn _ (List.mem_map.2 ⟨_,hm,rfl⟩))
 have hg':∀ k,k < R.length → goodH (sysNo t) (L.map Prod.snd) (R.map HV.x) k (gt R k).x = true:=fun k hk=>by rw [← bR hk];exact hg k (by rw [List.length_map];exact hk)
 have hL:=VL (R:=R) (by omega) hg'
 rw [List.length_map] at hL
 refine iLenS (hH.ext X3).row (iSub (by rw [List.length_map];omega) ?_)
 rw [List.length_map]
 refine iIa (j:=(L.length:Int) - 1) (hH.ext X3).row (by omega) (by rw [List.length_map];omega) fun p hp=>?_
 rw [show ((L.length:Int) - 1).toNat = L.length - 1 by omega,List.getElem?_map,List.getElem?_eq_getElem (by omega),Option.map_some,← gt_eq (by omega)] at hp
 have hfA:FmS w3 (gt L (L.length - 1)).1 A:=eE (hA ▸ (hH.ext X3).raw _ hm)
 refine iLd hp ?_
 refine f8 (cs:=#[(gt L (L.length - 1)).1,.slice none 0 0,.slice none 0 0,.slice none 0 0]) (by simp [Instr.fill,aH (SlK.cellZ hfA)]) ?_
 refine iNew4 fun q w4 hq x4 hB4=>?_
 refine iLenK (hR.ext (X3.trans x4)).row ?_
 have hd0:DsS w3 w4 q (gt L (L.length - 1)).1 A ((L.length:Int) - 1) (R.map HV.x) 0:=⟨x4,_,_,_,[],[],⟨by omega,hB4,OwH.none _ _,Ow.nil _ _ _,Ow.nil _ _ _,fun c hc=>by cases hc⟩,rfl,rfl,fun j hj=>absurd hj (Nat.not_lt_zero j)⟩
 have hout:outH (L.map Prod.snd) (R.map HV.x) = (disK (rawF A) ((L.length:Int) - 1) (R.map HV.x) R.length).out:=by
  unfold outH
  rw [List.length_map,List.length_map,← hA]
  congr 3
  rw [gt_eq (by rw [List.length_map];omega),List.getElem_map,← gt_eq (by omega)]
 refine iLp (fun i:Nat=>[.int .i64 (i:Int)]) (fun i w'=>i ≤ R.length ∧ DsS w3 w' q (gt L (L.length - 1)).1 A ((L.length:Int) - 1) (R.map HV.x) i) (fun i=>R.length - i) 0 rfl ⟨Nat.zero_le _,hd0⟩ ?_
 rintro i w6 Kn ⟨hi,hd⟩ hKn
 intro _
 simp only [gx]
 refine iLt (iCndP (fun hlt=>?_) (fun hlt=>?_))
 ·have hil:i < R.length:=by omega
  refine iIa (j:=0) (hv29.ext hd.x) (by decide) (by simp) fun p hp=>iLd hp ?_
  refine iCall ((SP hU hDl (hH.ext X3) (hR.ext X3) hL hfA (by omega) hil hd (by omega)).mono ?_)
  rintro _ w7 hd7
  refine iAdd (by omega) ?_
  exact hKn (i + 1) _ ⟨hil,hd7⟩ (by omega)
 have:i = R.length:=by omega
 subst this
 obtain ⟨X6,vl,vs,vi,Y,ow,hd,hY,-,-⟩:=hd
 have X06:=X3.trans X6
 rw [← hout] at hY
 rw [← hY,List.length_map]
 refine iJnX (fun xs w'=>xs = [.bool (decide (200 < Y.length) || (Y.map HV.x).any fun x=>decide (40 < x.N.length))] ∧ Ext w6 w') (fun J hJ=>?_) ?_
 ·refine iNil (iFa (iLdB hd.blk (i:=1) (v:=vl) rfl (iLenK hd.ln.row.sl (iLt (iCndP (fun h2=>?_) (fun h2=>?_))))))
  ·exact hJ _ _ ⟨by rw [decide_eq_true (show 200 < Y.length by omega)];rfl,Ext.refl _⟩
  ·refine iNil (iFa (iLdB hd.blk (i:=1) (v:=vl) rfl (iRet (YF hd.ln.rd) fun w7 x7=>hJ _ _ ⟨?_,x7⟩)))
   rw [decide_eq_false (show ¬ 200 < Y.length by omega),Bool.false_or]
 rintro _ w9 ⟨rfl,x9⟩
 intro _
 simp only [gx]
 refine iCnd (fun hb=>?_) (fun hb=>?_)
 ·rw [Bool.or_eq_true,decide_eq_true_eq] at hb
  rw [if_pos hb]
  exact ⟨X06.trans x9,_,[],rfl,RdH.none _,by rw [if_neg (by decide)];rfl⟩
 ·rw [Bool.or_eq_false_iff,decide_eq_false_iff_not] at hb
  rw [if_neg (fun h=>h.elim hb.1 fun h=>by rw [hb.2] at h;cases h),if_pos rfl]
  refine iNil (iFa (iLdB (hd.blk.ext x9) (i:=1) (v:=vl) rfl ?_))
  exact ⟨X06.trans x9,vl,Y,rfl,(hd.ln.ext x9).rd,rfl⟩
end Go.Proofs.YtbfpohbmgjcjmaaGreatDoor

namespace Go.Vc
theorem Blk.sltZ {w:World} {e:TypeId} {b n:Nat} {L:List Str} (h:Blk e w b (strs L)) (hn:L.length = n) (hm:n ≤ 1000):SlT w (.slice (some ⟨b,0,none⟩) n n) L:=Sl.ofBlk (n:=n) h (by rw [cB,hn]) (by omega)
def subN (g:Nat → Fm) (q:RN):List RN:=if q.1 = 0 then rawF (g q.2.toNat) else [q]
theorem kI (g:Nat → Fm):∀ f:Fm,rawF (inst g f) = (rawF f).flatMap (subN g)
 | .var v=>by simp [inst,rawF,subN]
 | .fls=>by simp [inst,rawF,subN]
 | .and a b=>by simp [inst,rawF,subN,kI g a,kI g b]
 | .or a b=>by simp [inst,rawF,subN,kI g a,kI g b]
 | .imp a b=>by simp [inst,rawF,subN,kI g a,kI g b]
 | .box a=>by simp [inst,rawF,subN,kI g a]
 | .dia a=>by simp [inst,rawF,subN,kI g a]
def Fm.vlt (n:Nat):Fm → Bool
 | .var v=>decide (v < n)
 | .fls=>true
 | .and a b=>a.vlt n && b.vlt n
 | .or a b=>a.vlt n && b.vlt n
 | .imp a b=>a.vlt n && b.vlt n
 | .box a=>a.vlt n
 | .dia a=>a.vlt n
theorem nA {n:Nat}:∀ {f:Fm},f.vlt n = true → ∀ q ∈ rawF f,q.1 = 0 → 0 ≤ q.2 ∧ q.2 < (n:Int)
 | .var v,h,q,hq,_=>by
  rw [List.mem_singleton.1 hq]
  have:=of_decide_eq_true h
  exact ⟨Int.natCast_nonneg v,by show (v:Int) < n;omega⟩
 | .fls,_,q,hq,e=>by rw [List.mem_singleton.1 hq] at e;cases e
 | .and a b,h,q,hq,e=>by
  have h:=Bool.and_eq_true_iff.1 h
  rcases List.mem_cons.1 hq with rfl | hq
  ·cases e
  ·exact (List.mem_append.1 hq).elim (fun hq=>nA h.1 q hq e) fun hq=>nA h.2 q hq e
 | .or a b,h,q,hq,e=>by
  have h:=Bool.and_eq_true_iff.1 h
  rcases List.mem_cons.1 hq with rfl | hq
  ·cases e
  ·exact (List.mem_append.1 hq).elim (fun hq=>nA h.1 q hq e) fun hq=>nA h.2 q hq e
 | .imp a b,h,q,hq,e=>by
  have h:=Bool.and_eq_true_iff.1 h
  rcases List.mem_cons.1 hq with rfl | hq
  ·cases e
  ·exact (List.mem_append.1 hq).elim (fun hq=>nA h.1 q hq e) fun hq=>nA h.2 q hq e
 | .box a,h,q,hq,e=>by
  rcases List.mem_cons.1 hq with rfl | hq
  ·cases e
  ·exact nA (f:=a) h q hq e
 | .dia a,h,q,hq,e=>by
  rcases List.mem_cons.1 hq with rfl | hq
  ·cases e
  ·exact nA (f:=a) h q hq e
theorem iE {n:Nat} {g:Nat → Fm} (hg:∀ v,v < n → (g v).good):∀ {f:Fm},f.vlt n = true → (inst g f).good
 | .var v,h=>hg v (of_decide_eq_true h)
 | .fls,_=>trivial
 | .and _ _,h=>⟨iE hg (Bool.and_eq_true_iff.1 h).1,iE hg (Bool.and_eq_true_iff.1 h).2⟩
 | .or _ _,h=>⟨iE hg (Bool.and_eq_true_iff.1 h).1,iE hg (Bool.and_eq_true_iff.1 h).2⟩
 | .imp _ _,h=>⟨iE hg (Bool.and_eq_true_iff.1 h).1,iE hg (Bool.and_eq_true_iff.1 h).2⟩
 | .box a,h=>iE (f:=a) hg h
 | .dia a,h=>iE (f:=a) hg h
theorem iN {n m:Nat} (hm:1 ≤ m) {g:Nat → Fm} (hg:∀ v,v < n → (g v).size ≤ m):∀ {f:Fm},f.vlt n = true → (inst g f).size ≤ f.size * m
 | .var v,h=>by
  have:=hg v (of_decide_eq_true h)
  show (g v).size ≤ 1 * m
  omega
 | .fls,_=>by show 1 ≤ 1 * m;omega
 | .and a b,h=>by
  have h1:=iN hm hg (Bool.and_eq_true_iff.1 h).1
  have h2:=iN hm hg (Bool.and_eq_true_iff.1 h).2
  show 1 + (inst g a).size + (inst g b).size ≤ (1 + a.size + b.size) * m
  rw [Nat.add_mul,Nat.add_mul];omega
 | .or a b,h=>by
  have h1:=iN hm hg (Bool.and_eq_true_iff.1 h).1
  have h2:=iN hm hg (Bool.and_eq_true_iff.1 h).2
  show 1 + (inst g a).size + (inst g b).size ≤ (1 + a.size + b.size) * m
  rw [Nat.add_mul,Nat.add_mul];omega
 | .imp a b,h=>by
  have h1:=iN hm hg (Bool.and_eq_true_iff.1 h).1
  have h2:=iN hm hg (Bool.and_eq_true_iff.1 h).2
  show 1 + (inst g a).size + (inst g b).size ≤ (1 + a.size + b.size) * m
  rw [Nat.add_mul,Nat.add_mul];omega
 | .box a,h=>by
  have h1:=iN (f:=a) hm hg h
  show 1 + (inst g a).size ≤ (1 + a.size) * m
  rw [Nat.add_mul];omega
 | .dia a,h=>by
  have h1:=iN (f:=a) hm hg h
  show 1 + (inst g a).size ≤ (1 + a.size) * m
  rw [Nat.add_mul];omega
theorem MO {k:Nat} (hk:k < 19):(schF k).vlt 3 = true:=by
 have key:∀ k:Fin 19,(schF k.val).vlt 3 = true:=by decide
 exact key ⟨k,hk⟩
end Go.Vc
namespace Go.Proofs.YtbfpohbmgjcjmaaGreatDoor
open Go.Vc
theorem QA {n:Nat} {f:Fm} {g:Nat → Fm} {v0 v1:Value} {us:List Value} {w:World} (h0:FmS w v0 f) (hf:f.vlt n = true) (h1:Sl w v1 us) (hu:∀ v,v < n → ∃ u,us[v]? = some u ∧ FmS w u (g v) ∧ (g v).size ≤ 1000) (hsz:f.size ≤ 1000):
  Cal Tryz.prog xC #[v0,v1] w fun r w'=>Ext w w' ∧ FmW w.heap.size w' r (inst g f):=by
 apply RS;unfold GG
 have hfl:(rawF f).length = f.size:=aG f
 have h0':RawS w v0 (rawF f):=FmS.rawS h0
 refine iBsA0 fun z0 w1 _ x1 ho1=>?_
 refine iLp (fun s:Value × Nat=>[s.1,.int .i64 (s.2:Int)]) (fun s w'=>s.2 ≤ (rawF f).length ∧ Ext w w' ∧ RawW w.heap.size aA w' s.1 (((rawF f).take s.2).flatMap (subN g)) ∧ (((rawF f).take s.2).flatMap (subN g)).length ≤ 1000 * s.2) (fun s=>(rawF f).length - s.2) (z0,0) rfl ⟨Nat.zero_le _,x1,ho1,by simp⟩ ?_
 rintro ⟨z,i⟩ w3 Kn ⟨hi,x3,hz,hl⟩ hKn
 have hi:i ≤ (rawF f).length:=hi
 have hz:RawW w.heap.size aA w3 z (((rawF f).take i).flatMap (subN g)):=hz
 have hl:(((rawF f).take i).flatMap (subN g)).length ≤ 1000 * i:=hl
 intro _
 simp only [gx]
 refine iLenK (SlK.ext h0' x3) (iLt (iCndP (fun hlt=>?_) (fun hlt=>?_)))
 rotate_left
 ·have:i = (rawF f).length:=by omega
  subst this
  rw [List.take_length,← kI] at hz
  refine ⟨x3,?_⟩
  have hz:OwK 2 w.heap.size aA w3 z (rawF (inst g f)).length (aU (rawF (inst g f))):=hz
  rw [aG,a9] at hz
  exact hz
 have hil:i < (rawF f).length:=by omega
 obtain ⟨a0,a1⟩:=iD hil
 have tk:((rawF f).take (i + 1)).flatMap (subN g) = ((rawF f).take i).flatMap (subN g) ++ subN g (rawF f)[i]:=by
  rw [List.take_succ_eq_append_getElem hil,List.flatMap_append];simp
 have hq:=nA hf (rawF f)[i] (List.getElem_mem hil)
 generalize hqe:(rawF f)[i] = q at *
 refine iFld (f:=0) (SlK.ext h0' x3) rfl hil (by decide) a0 ?_
 refine iEq (iCndP (fun e=>?_) (fun e=>?_))
 ·obtain ⟨q1,q2⟩:=hq e
  obtain ⟨u,hu1,hu2,hu3⟩:=hu q.2.toNat (by omega)
  refine iFld (f:=1) (SlK.ext h0' x3) rfl hil (by decide) a1 ?_
  have hlt:=(List.getElem?_eq_some_iff.1 hu1).1
  refine iIa (j:=q.2) (h1.ext x3) q1 (by omega) fun p hp=>?_
  rw [hu1] at hp
  refine iLd hp ?_
  have hur:RawS w3 u (rawF (g q.2.toNat)):=FmS.rawS (SlK.ext hu2 x3)
  have hul:(rawF (g q.2.toNat)).length ≤ 1000:=by rw [aG];exact hu3
  refine iAppK cA cC rfl (by decide) hz hur (uV _) (by omega) (by omega) x3.size fun z' w4 ho hg _=>?_
  refine iAdd (by omega) ?_
  have es:subN g q = rawF (g q.2.toNat):=if_pos e
  rw [es] at tk
  refine hKn (z',i + 1) _ ⟨hil,x3.grown hg fun c hc=>(OwK.blk hz c hc).1,?_,?_⟩ (by show (rawF f).length - (i + 1) < (rawF f).length - i;omega)
  ·show OwK 2 w.heap.size aA w4 z' (((rawF f).take (i + 1)).flatMap (subN g)).length (aU (((rawF f).take (i + 1)).flatMap (subN g)))
   rw [tk,List.length_append,kL]
   exact ho
  ·show (((rawF f).take (i + 1)).flatMap (subN g)).length ≤ 1000 * (i + 1)
   rw [tk,List.length_append];omega
 ·refine iLdK (cs:=#[.int .i64 q.1,.int .i64 q.2]) (SlK.ext h0' x3) rfl hil rfl (fun j hj=>by rcases j with _ | _ | j;exact a0;exact a1;omega) ?_
  refine iBsA fun qb w5 hqb x5 hB=>?_
  have hz5:=OwK.ext hz x5
  refine iAppK cA cC rfl (by decide) hz5 (SlK.ofBlk (n:=1) (k:=2) hB rfl (by decide)) (fun u hu=>?_) (by omega) (by omega) (Nat.le_trans x3.size x5.size) fun z' w6 ho hg _=>?_
  ·simp only [List.mem_cons,List.not_mem_nil,or_false] at hu
   rcases hu with rfl | rfl <;> rfl
  refine iAdd (by omega) ?_
  have es:subN g q = [q]:=if_neg e
  rw [es] at tk
  refine hKn (z',i + 1) _ ⟨hil,(x3.trans x5).grown hg fun c hc=>(OwK.blk hz5 c hc).1,?_,?_⟩ (by show (rawF f).length - (i + 1) < (rawF f).length - i;omega)
  ·show OwK 2 w.heap.size aA w6 z' (((rawF f).take (i + 1)).flatMap (subN g)).length (aU (((rawF f).take (i + 1)).flatMap (subN g)))
   rw [tk,List.length_append,kL]
   have ec:aU [q] = [.int .i64 q.1,.int .i64 q.2]:=by simp [aU,rcell]
   rw [ec]
   exact ho
  ·show (((rawF f).take (i + 1)).flatMap (subN g)).length ≤ 1000 * (i + 1)
   rw [tk,List.length_append,List.length_singleton];omega
theorem LG {e:TypeId} {w0:World} {vc:Value} {bs:List Nat} (hc:SlB w0 vc bs) {b:Nat} {w:World} (hS:Vc.Src e w0 vc b w):Drw Tryz.prog zL #[.pointer (some ⟨b,0,none⟩)] e w0 vc b w fun r _=>∃ t,r = sv t:=by
 apply MX;unfold zF
 refine iCall ((aI hc hS 30).mono ?_)
 rintro _ w1 ⟨⟨x,rfl,_,_⟩,hS1,hch1⟩
 refine iEq (iCndP (fun _=>?_) (fun _=>?_))
 ·refine iBsCZ [[],[105,110,116],[71,114,122]] (by kernel_rfl) fun q w2 hq x2 hT=>?_
  have hS2:=hS1.later x2
  have hqb:¬ q = b:=by have:=hS1.lt;omega
  refine iCall ((aI hc hS2 3).mono ?_)
  rintro _ w3 ⟨⟨y,rfl,hy,_⟩,hS3,hch3⟩
  have hy:=hy (by decide)
  refine iIaT ((hT.ch hch3 hqb).sltZ (n:=3) rfl (by decide)) (show y < 3 by omega) fun p hp=>iLd hp ?_
  exact ⟨⟨_,rfl⟩,hS3,aE (aT hch1 x2) hch3⟩
 ·refine iBsCZ [[73,110,116],[67,76],[75],[68],[84],[75,52],[83,52],[83,53],[75,66],[71,76]] (by kernel_rfl) fun q w2 hq x2 hT=>?_
  have hS2:=hS1.later x2
  have hqb:¬ q = b:=by have:=hS1.lt;omega
  refine iCall ((aI hc hS2 10).mono ?_)
  rintro _ w3 ⟨⟨y,rfl,hy,_⟩,hS3,hch3⟩
  have hy:=hy (by decide)
  refine iIaT ((hT.ch hch3 hqb).sltZ (n:=10) rfl (by decide)) (show y < 10 by omega) fun p hp=>iLd hp ?_
  exact ⟨⟨_,rfl⟩,hS3,aE (aT hch1 x2) hch3⟩
theorem f9 {e:TypeId} (hneN:aA ≠ e) {w0:World} {vc:Value} {bs:List Nat} (hc:SlB w0 vc bs) {b:Nat} (m:Bool) {w:World} (hS:Vc.Src e w0 vc b w):Drw Tryz.prog rX #[.pointer (some ⟨b,0,none⟩),.bool m] e w0 vc b w fun r w'=>∃ f:Fm,f.good ∧ f.size ≤ 3 ∧ FmW w.heap.size w' r f:=by
 apply PB;unfold A6
 refine iCall ((aI hc hS 3).mono ?_)
 rintro _ w1 ⟨⟨x,rfl,hx,_⟩,hS1,hch1⟩
 have hx:=hx (by decide)
 refine iAdd (by omega) ?_
 have hd:=N5 hneN hc (k:=3) (by decide) m (1 + x) hS1 (by omega) (by omega)
 rw [show ((1 + x:Nat):Int) = 1 + (x:Int) by omega] at hd
 refine iCall (hd.mono ?_)
 rintro r w2 ⟨⟨f,g1,g2,g3⟩,hS2,hch2⟩
 exact ⟨⟨f,g1,by omega,OwK.mono g3 hch1.size⟩,hS2,aE hch1 hch2⟩
end Go.Proofs.YtbfpohbmgjcjmaaGreatDoor

namespace Go.Vc
theorem ZQ {t:Str}:∀ n ∈ sysT t,n < 19:=fun n hn=>by
 by_cases h:sysNo t < 10
 ·unfold sysT at hn
  rw [if_pos h] at hn
  exact SV h hn
 ·have e:=MT.2 h
  rw [List.length_eq_zero_iff.1 e] at hn
  cases hn
end Go.Vc
namespace Go.Proofs.YtbfpohbmgjcjmaaGreatDoor
open Go.Vc
abbrev eZ:TypeId:=82
structure DrS (w0:World) (vc:Value) (b lo:Nat) (w:World) (zh zl va vs:Value) (Hs:List (Value × Fm)) (A:Fm) (T:List Nat) (R:List HV):Prop where
 src:Vc.Src eZ w0 vc b w
 hyp:Ow lo aB w zh (Hs.map Prod.fst)
 hf:∀ p ∈ Hs,FmW 0 w p.1 p.2
 hg:∀ p ∈ Hs,p.2.good ∧ p.2.size ≤ 100
 a:FmW 0 w va A
 sch:Ow 0 t_i64 w vs (ints (nats T))
 ln:OwH lo w zl R
 ok:∀ k,k < R.length → (∃ C:Fm,C.good ∧ C.size ≤ 200 ∧ (gt R k).x.N = rawF C) ∧ inH Hs.length k (gt R k).x
section
variable {w0 w w':World} {vc zh zl va vs:Value} {b lo:Nat} {Hs:List (Value × Fm)} {A:Fm} {T:List Nat} {R:List HV}
theorem DrS.ext (h:DrS w0 vc b lo w zh zl va vs Hs A T R) (x:Ext w w'):DrS w0 vc b lo w' zh zl va vs Hs A T R:=
 ⟨h.src.later x,h.hyp.ext x,fun p hp=>OwK.ext (h.hf p hp) x,h.hg,OwK.ext h.a x,h.sch.ext x,h.ln.ext x,h.ok⟩
theorem DrS.draw (h:DrS w0 vc b lo w zh zl va vs Hs A T R) (hS:Vc.Src eZ w0 vc b w') (c:Ch (fun c=>c = b) w w'):DrS w0 vc b lo w' zh zl va vs Hs A T R:=
 ⟨hS,OwK.src h.hyp h.src (by decide) c,fun p hp=>OwK.src (h.hf p hp) h.src (by decide) c,h.hg,OwK.src h.a h.src (by decide) c,OwK.src h.sch h.src (by decide) c,⟨OwK.src h.ln.row h.src (by decide) c,fun y hy=>OwK.src (h.ln.fm y hy) h.src (by decide) c⟩,h.ok⟩
theorem DrS.put {zl':Value} {R':List HV} (h:DrS w0 vc b lo w zh zl va vs Hs A T R) (hlo:w0.heap.size ≤ lo) (k:LCh lo w w') (o:OwH lo w' zl' R') (ok:∀ k,k < R'.length → (∃ C:Fm,C.good ∧ C.size ≤ 200 ∧ (gt R' k).x.N = rawF C) ∧ inH Hs.length k (gt R' k).x):DrS w0 vc b lo w' zh zl' va vs Hs A T R':=
 ⟨h.src.ch k (fun hS=>by
  obtain ⟨_,cs,hS⟩:=hS
  exact h.src.ne hS (by decide) rfl) fun c hc=>Nat.le_trans hlo hc.1,OwK.lch h.hyp k (by decide),fun p hp=>OwK.lch (h.hf p hp) k (by decide),h.hg,OwK.lch h.a k (by decide),OwK.lch h.sch k (by decide),o,ok⟩
theorem DrS.img {m:Nat} {vi:Value} {us:List Value} (h:DrS w0 vc b lo w zh zl va vs Hs A T R) (hi:Ow m aB w vi us) (hm:w0.heap.size ≤ m) (hb:∀ c,zh.ownBlock = some c → c < m) (x:Ch (fun c=>vi.ownBlock = some c) w w'):DrS w0 vc b lo w' zh zl va vs Hs A T R:=by
 have key:∀ {k lo' n:Nat} {e:TypeId} {u:Value} {ys:List Value},OwK k lo' e w u n ys → e ≠ aB → OwK k lo' e w' u n ys:=fun hu hne=>OwK.ch hu x fun c hc hS=>by
  obtain ⟨cur,hh⟩:=Ow.ty hi hS
  exact OwK.ne_blk hu (show Blk aB w c cur.toList by unfold Blk;rw [hh]) hne hc
 exact ⟨h.src.ch x (fun hS=>by
  obtain ⟨cur,hh⟩:=Ow.ty hi hS
  exact h.src.ne (show Blk aB w b cur.toList by unfold Blk;rw [hh]) (by decide) rfl) fun c hc=>Nat.le_trans hm (hi.blk c hc).1,
  h.hyp.ch x fun c hc hS=>by have:=(hi.blk c hS).1;have:=hb c hc;omega,fun p hp=>key (h.hf p hp) (by decide),h.hg,key h.a (by decide),key h.sch (by decide),⟨key h.ln.row (by decide),fun y hy=>key (h.ln.fm y hy) (by decide)⟩,h.ok⟩
theorem DrS.fm {k:Nat} (h:DrS w0 vc b lo w zh zl va vs Hs A T R) (hk:k < R.length) {C:Fm} (hC:(gt R k).x.N = rawF C):FmS w (gt R k).v C:=
 eE (hC ▸ h.ln.rd.fm _ (by rw [gt_eq hk];exact List.getElem_mem _))
theorem DrS.call {v4:Value} {C:Fm} {rule first second:Int} {K:Value → World → Prop} (h:DrS w0 vc b lo w zh zl va vs Hs A T R) (hlo:w0.heap.size ≤ lo) (hw:lo ≤ w.heap.size) (hC:FmS w v4 C) (gC:C.good) (sC:C.size ≤ 200) (hR:R.length ≤ 1000) (hin:inH Hs.length R.length ⟨rule,first,second,rawF C⟩)
  (hK:∀ u w' y,LCh lo w w' → DrS w0 vc b lo w' zh u va vs Hs A T (R ++ [y]) → y.x = ⟨rule,first,second,rawF C⟩ → K u w'):callV Tryz.prog (.func (.func iA) #[] #[]) [zl,.int .i64 rule,.int .i64 first,.int .i64 second,v4] w fun v w'=>xEx v 0 fun x=>xEx v 1 fun _=>K x w':=by
 refine iCall ((cI h.ln (N:=rawF C) (FmS.rawS hC) (by rw [aG];omega) (by omega) hw).mono ?_)
 rintro _ w1 ⟨k1,u,y,rfl,hy,o1⟩
 refine iE20 (iE21 (hK u w1 y k1 (h.put hlo k1 o1 fun j hj=>?_) hy))
 rw [len1] at hj
 by_cases e:j < R.length
 ·rw [bK e];exact h.ok j e
 ·have:j = R.length:=by omega
  subst this
  rw [bT,hy]
  exact ⟨⟨C,gC,sC,rfl⟩,hin⟩
end
theorem TR {w0 w:World} {vc zh zl va vs:Value} {bs:List Nat} {b lo:Nat} {Hs:List (Value × Fm)} {A:Fm} {t:Str} {R:List HV} {m:Bool} {K:Value → World → Prop} (hc:SlB w0 vc bs) (h:DrS w0 vc b lo w zh zl va vs Hs A (sysT t) R) (hlo:w0.heap.size ≤ lo) (hw:lo ≤ w.heap.size) (h0:0 < (sysT t).length) (hR:R.length ≤ 1000)
  (hK:∀ u w' y,w.heap.size ≤ w'.heap.size → DrS w0 vc b lo w' zh u va vs Hs A (sysT t) (R ++ [y]) → K u w'):
  xLenS vs fun v175=>callV Tryz.prog (.func (.func tZ) #[] #[]) [.pointer (some ⟨b,0,none⟩),v175] w fun v176 w22=>xIa 1 vs v176 fun v177=>xLd w22 v177 fun v178=>callV Tryz.prog (.func (.func uP) #[] #[]) [] w22 fun v179 w23=>
   lp (fun K24 xs24 w25=>∀ _:Nat → Value,xLt .i64 (gx xs24 0) (.int .i64 3) fun v181=>cnd v181 (callV Tryz.prog (.func (.func rX) #[] #[]) [.pointer (some ⟨b,0,none⟩),.bool m] w25 fun v188 w26=>xIa 1 v179 (gx xs24 0) fun v189=>xSt w26 v189 v188 fun w27=>xAdd .i64 (gx xs24 0) (.int .i64 1) fun v183=>K24 [v183] w27)
    (callV Tryz.prog (.func (.func pR) #[] #[]) [v178] w25 fun v194 w28=>callV Tryz.prog (.func (.func xC) #[] #[]) [v194,v179] w28 fun v196 w29=>callV Tryz.prog (.func (.func iA) #[] #[]) [zl,.int .i64 1,v178,.int .i64 0,v196] w29 fun v197 w30=>xEx v197 0 fun v198=>xEx v197 1 fun _=>K v198 w30)) [.int .i64 0] w23:=by
 refine iLenI h.sch.sl ?_
 rw [cQ]
 refine iCall ((aI hc h.src _).mono ?_)
 rintro _ w22 ⟨⟨y,rfl,hy,_⟩,hS22,hch22⟩
 have hy:=hy (by omega)
 have h22:=h.draw hS22 hch22
 have hyl:y < (sysT t).length:=by omega
 refine iIaN h22.sch.sl (j:=y) (by rw [cQ];exact hyl) fun p hp=>iLd hp ?_
 have ek:(nats (sysT t)).getD y 0 = (((sysT t)[y]:Nat):Int):=by simp [nats,hyl]
 rw [ek]
 have hk:(sysT t)[y] < 19:=ZQ _ (List.getElem_mem hyl)
 generalize (sysT t)[y] = k at *
 refine iCall ((rY w22).mono ?_)
 rintro v179 w23 ⟨x23,us,hus,hi23⟩
 have h23:=h22.ext x23
 have hzb:∀ c,zh.ownBlock = some c → c < w22.heap.size:=fun c hc=>(h22.hyp.blk c hc).2
 have s22:=hch22.size
 have hm:w0.heap.size ≤ w22.heap.size:=Nat.le_trans hlo (Nat.le_trans hw s22)
 refine iLp (fun i:Nat=>[.int .i64 (i:Int)]) (fun i w'=>i ≤ 3 ∧ (w22.heap.size ≤ w'.heap.size ∧ DrS w0 vc b lo w' zh zl va vs Hs A (sysT t) R) ∧ ∃ us:List Value,us.length = 6 ∧ Ow w22.heap.size aB w' v179 us ∧ ∀ v,v < i → ∃ u f,us[v]? = some u ∧ FmW 0 w' u f ∧ f.good ∧ f.size ≤ 3) (fun i=>3 - i) 0 rfl ⟨Nat.zero_le _,⟨x23.size,h23⟩,us,hus,hi23,fun v hv=>absurd hv (Nat.not_lt_zero v)⟩ ?_
 rintro i w25 Kn ⟨hi,⟨s25,h25⟩,us,hus,hI,hU⟩ hKn
 intro _
 simp only [gx]
 refine iLt (iCndP (fun hlt=>?_) (fun hlt=>?_))
 ·refine iCall ((f9 (by decide) hc m h25.src).mono ?_)
  rintro v188 w26 ⟨⟨f,gf,sf,hf⟩,hS26,hch26⟩
  have h26:=h25.draw hS26 hch26
  have hI26:Ow w22.heap.size aB w26 v179 us:=OwK.src hI h25.src (by decide) hch26
  refine iWrO hI26 rfl (by omega) (OwK.cell hf) fun w27 hI27 hch27=>?_
  have h27:=h26.img hI26 hm hzb hch27
  have kp:∀ {u:Value} {f:Fm} {lo':Nat},FmW lo' w26 u f → FmW 0 w27 u f:=fun {u f lo'} hu=>OwK.mono (OwK.ch hu hch27 fun c hc hS=>by
   obtain ⟨cur,hh⟩:=Ow.ty hI26 hS
   exact OwK.ne_blk hu (show Blk aB w26 c cur.toList by unfold Blk;rw [hh]) (by decide) hc) (Nat.zero_le _)
  refine iAdd (by omega) ?_
  refine hKn (i + 1) _ ⟨by omega,⟨by have:=hch26.size;have:=hch27.size;omega,h27⟩,us.set i v188,by rw [List.length_set];exact hus,hI27,fun v hv=>?_⟩ (by omega)
  by_cases e:v = i
  ·subst e
   exact ⟨v188,f,by rw [List.getElem?_set_self (by omega)],kp hf,gf,sf⟩
  ·obtain ⟨u,f',u1,u2,u3,u4⟩:=hU v (by omega)
   exact ⟨u,f',by rw [List.getElem?_set_ne (by omega)];exact u1,kp (OwK.src u2 h25.src (by decide) hch26),u3,u4⟩
 ·have:i = 3:=by omega
  subst this
  obtain ⟨u0,f0,a0,b0,c0,d0⟩:=hU 0 (by decide)
  obtain ⟨u1,f1,a1,b1,c1,d1⟩:=hU 1 (by decide)
  obtain ⟨u2,f2,a2,b2,c2,d2⟩:=hU 2 (by decide)
  refine iCall ((nV hk w25).mono ?_)
  rintro v194 w28 ⟨x28,h194⟩
  have hsz:(schF k).size ≤ 40:=wA ⟨k,hk⟩
  have gg:∀ v,v < 3 → ((fun v=>if v = 0 then f0 else if v = 1 then f1 else f2:Nat → Fm) v).good ∧ ((fun v=>if v = 0 then f0 else if v = 1 then f1 else f2:Nat → Fm) v).size ≤ 3:=fun v hv=>by
   rcases v with _ | _ | _ | v
   ·exact ⟨c0,d0⟩
   ·exact ⟨c1,d1⟩
   ·exact ⟨c2,d2⟩
   ·omega
  refine iCall ((QA (n:=3) (g:=fun v=>if v = 0 then f0 else if v = 1 then f1 else f2) h194.sl (MO hk) (hI.sl.ext x28) (fun v hv=>?_) (by omega)).mono ?_)
  ·rcases v with _ | _ | _ | v
   ·exact ⟨u0,a0,(OwK.ext b0 x28).sl,by show f0.size ≤ 1000;omega⟩
   ·exact ⟨u1,a1,(OwK.ext b1 x28).sl,by show f1.size ≤ 1000;omega⟩
   ·exact ⟨u2,a2,(OwK.ext b2 x28).sl,by show f2.size ≤ 1000;omega⟩
   ·omega
  rintro v196 w29 ⟨x29,h196⟩
  have x2529:=x28.trans x29
  have i1:=iE (fun v hv=>(gg v hv).1) (MO hk)
  have i2:=iN (m:=3) (by decide) (fun v hv=>(gg v hv).2) (MO hk)
  refine DrS.call (h25.ext x2529) hlo (by have:=x2529.size;omega) h196.sl i1 (by omega) hR ⟨(fun e=>absurd (show (1:Int) = 2 from e) (by decide)),(fun e=>absurd (show (1:Int) = 3 from e) (by decide)),(fun e=>absurd (show (1:Int) = 4 from e) (by decide))⟩ fun u w' y k' h' _=>?_
  exact hK u w' y (by have:=k'.size;have:=x2529.size;omega) h'
end Go.Proofs.YtbfpohbmgjcjmaaGreatDoor

namespace Go.Proofs.YtbfpohbmgjcjmaaGreatDoor
open Go.Vc
theorem inH1 {h k:Nat} {a c:Int} {N:List RN}:inH h k ⟨1,a,c,N⟩:=⟨(fun e=>absurd (show (1:Int) = 2 from e) (by decide)),(fun e=>absurd (show (1:Int) = 3 from e) (by decide)),(fun e=>absurd (show (1:Int) = 4 from e) (by decide))⟩
theorem inH2 {h k:Nat} {a c:Int} {N:List RN} (h1:0 ≤ a ∧ a < (h:Int)):inH h k ⟨2,a,c,N⟩:=⟨fun _=>h1,(fun e=>absurd (show (2:Int) = 3 from e) (by decide)),(fun e=>absurd (show (2:Int) = 4 from e) (by decide))⟩
theorem inH3 {h k:Nat} {a c:Int} {N:List RN} (h1:(0 ≤ a ∧ a < (k:Int)) ∧ 0 ≤ c ∧ c < (k:Int)):inH h k ⟨3,a,c,N⟩:=⟨(fun e=>absurd (show (3:Int) = 2 from e) (by decide)),fun _=>h1,(fun e=>absurd (show (3:Int) = 4 from e) (by decide))⟩
theorem inH4 {h k:Nat} {a c:Int} {N:List RN} (h1:0 ≤ a ∧ a < (k:Int)):inH h k ⟨4,a,c,N⟩:=⟨(fun e=>absurd (show (4:Int) = 2 from e) (by decide)),(fun e=>absurd (show (4:Int) = 3 from e) (by decide)),fun _=>h1⟩
def DrO (w:World) (r:Value):Prop:=∃ (t:Str) (zh zl:Value) (L:List VN) (R:List HV),r = .tuple #[sv t,zh,zl] ∧ (Ow 0 aB w zh (L.map Prod.fst) ∧ ∀ p ∈ L,RawW 0 aA w p.1 p.2) ∧ L.length ≤ 6 ∧ (∀ p ∈ L,p.2.length ≤ 1000000) ∧ OwH 0 w zl R ∧ ∀ y ∈ R,y.x.N.length ≤ 1000000
theorem DrS.out {w0 w:World} {vc zh zl va vs:Value} {b lo:Nat} {Hs:List (Value × Fm)} {A:Fm} {T:List Nat} {R:List HV} (h:DrS w0 vc b lo w zh zl va vs Hs A T R) (hl:Hs.length ≤ 6) (t:Str):DrO w (.tuple #[sv t,zh,zl]):=by
 refine ⟨t,zh,zl,Hs.map fun p=>(p.1,rawF p.2),R,rfl,⟨?_,fun p hp=>?_⟩,by rw [List.length_map];exact hl,fun p hp=>?_,OwH.mono h.ln (Nat.zero_le _),fun y hy=>?_⟩
 ·rw [List.map_map];exact h.hyp.mono (Nat.zero_le _)
 ·obtain ⟨q,hq,rfl⟩:=List.mem_map.1 hp
  exact FmW.rawZ (h.hf q hq)
 ·obtain ⟨q,hq,rfl⟩:=List.mem_map.1 hp
  have:=(h.hg q hq).2
  show (rawF q.2).length ≤ _
  rw [aG];omega
 ·obtain ⟨j,hj,rfl⟩:=List.getElem_of_mem hy
  obtain ⟨⟨C,_,sC,hC⟩,_⟩:=h.ok j hj
  rw [← gt_eq hj,hC,aG];omega
theorem TJ {w0 w:World} {vc zh zl va vs:Value} {b lo n:Nat} {Hs:List (Value × Fm)} {A:Fm} {T:List Nat} {R:List HV} {K:List Value → World → Prop} (h:DrS w0 vc b lo w zh zl va vs Hs A T R) (hlo:w0.heap.size ≤ lo) (hw:lo ≤ w.heap.size) (hn:R.length = n) (hR:n ≤ 500)
  (hK:∀ u (i:Int) w' R',w.heap.size ≤ w'.heap.size → DrS w0 vc b lo w' zh u va vs Hs A T R' → n ≤ R'.length → R'.length ≤ n + 1 → K [u,.int .i64 i] w'):
  lp (fun K40 xs40 w41=>∀ _:Nat → Value,xLenS (gx xs40 0) fun v71=>xLt .i64 (gx xs40 1) v71 fun v72=>cnd v72 (lp (fun K42 xs42 w43=>∀ _:Nat → Value,xLenS (gx xs42 0) fun v77=>xLt .i64 (gx xs42 1) v77 fun v78=>cnd v78 (xIa 4 (gx xs42 0) (gx xs40 1) fun v83=>xFa 3 v83 fun v84=>xLd w43 v84 fun v85=>jn (fun J44=>xIa 2 v85 (.int .i64 0) fun v87=>xFa 0 v87 fun v88=>xLd w43 v88 fun v89=>xEq .i64 v89 (.int .i64 4) fun v90=>
    cnd v90 (xIa 4 (gx xs42 0) (gx xs42 1) fun v96=>xFa 3 v96 fun v97=>xLd w43 v97 fun v98=>∀ w46,Ext w43 w46 → callV Tryz.prog (.func (.func uB) #[] #[]) [v85] w46 fun v93 w47=>Ext w46 w47 ∧ callQ Tryz.prog (.func (.func r6) #[] #[]) [v93,v98] w47 fun v99=>cnd v99 (xLenS (gx xs42 0) fun v103=>xEq .i64 v103 (.int .i64 (n:Int)) fun v105=>∀ w48,Ext w47 w48 → J44 [v105] w48) (∀ w49,Ext w47 w49 → J44 [.bool false] w49)) (∀ w50,Ext w43 w50 → ∀ w51,Ext w50 w51 → J44 [.bool false] w51)) (fun xs44 w45=>
    ∀ _:Nat → Value,cnd (gx xs44 0) (callV Tryz.prog (.func (.func rR) #[] #[]) [v85] w45 fun v112 w52=>callV Tryz.prog (.func (.func iA) #[] #[]) [gx xs42 0,.int .i64 3,gx xs40 1,gx xs42 1,v112] w52 fun v113 w53=>xEx v113 0 fun v114=>xEx v113 1 fun _=>xAdd .i64 (gx xs42 1) (.int .i64 1) fun v80=>K42 [v114,v80] w53) (xAdd .i64 (gx xs42 1) (.int .i64 1) fun v80=>K42 [gx xs42 0,v80] w45))) (xAdd .i64 (gx xs40 1) (.int .i64 1) fun v74=>K40 [gx xs42 0,v74] w43)) [gx xs40 0,.int .i64 0] w41) (K xs40 w41)) [zl,.int .i64 0] w:=by
 refine iLp (fun s:Value × Nat=>[s.1,.int .i64 (s.2:Int)]) (fun s w'=>s.2 ≤ n + 1 ∧ w.heap.size ≤ w'.heap.size ∧ ∃ R',DrS w0 vc b lo w' zh s.1 va vs Hs A T R' ∧ n ≤ R'.length ∧ R'.length ≤ n + 1) (fun s=>n + 1 - s.2) (zl,0) rfl ⟨Nat.zero_le _,Nat.le_refl _,R,h,by omega,by omega⟩ ?_
 rintro ⟨z1,i⟩ w41 K1 ⟨hi,s41,R1,h41,n1,n2⟩ hK1
 have hi:i ≤ n + 1:=hi
 have h41:DrS w0 vc b lo w41 zh z1 va vs Hs A T R1:=h41
 intro _
 simp only [gx]
 refine iLenK h41.ln.row.sl (iLt (iCndP (fun hlt=>?_) (fun _=>hK z1 (i:Int) _ R1 s41 h41 n1 n2)))
 have hi1:i < R1.length:=by omega
 refine iLp (fun s:Value × Nat=>[s.1,.int .i64 (s.2:Int)]) (fun s w'=>s.2 ≤ n + 1 ∧ w.heap.size ≤ w'.heap.size ∧ ∃ R',DrS w0 vc b lo w' zh s.1 va vs Hs A T R' ∧ n ≤ R'.length ∧ R'.length ≤ n + 1 ∧ i < R'.length) (fun s=>n + 1 - s.2) (z1,0) rfl ⟨Nat.zero_le _,s41,R1,h41,n1,n2,hi1⟩ ?_
 rintro ⟨z2,j⟩ w43 K2 ⟨hj,s43,R2,h43,m1,m2,m3⟩ hK2
 have hj:j ≤ n + 1:=hj
 have h43:DrS w0 vc b lo w43 zh z2 va vs Hs A T R2:=h43
 intro _
 simp only [gx]
 refine iLenK h43.ln.row.sl (iLt (iCndP (fun hlt2=>?_) (fun hlt2=>?_)))
 rotate_left
 ·refine iAdd (by omega) ?_
  exact hK1 (z2,i + 1) _ ⟨by show i + 1 ≤ n + 1;omega,s43,R2,h43,m1,m2⟩ (by show n + 1 - (i + 1) < n + 1 - i;omega)
 have hj1:j < R2.length:=by omega
 obtain ⟨⟨F,gF,sF,hF⟩,-⟩:=h43.ok i m3
 obtain ⟨⟨G,gG,sG,hG⟩,-⟩:=h43.ok j hj1
 have fF:=h43.fm m3 hF
 have fG:=h43.fm hj1 hG
 have hFp:=F.size_pos
 refine iFdH (j:=i) h43.ln.rd rfl m3 (by decide) (u:=(gt R2 i).v) rfl ?_
 refine iJnX (fun xs w'=>∃ c:Bool,xs = [.bool c] ∧ Ext w43 w' ∧ (c = true → R2.length = n ∧ ∃ P,F = .imp G P)) (fun J hJ=>?_) ?_
 ·refine iFld (j:=0) (f:=0) fF rfl hFp (by decide) (aO fF).1 ?_
  refine iEq (iCndP (fun e=>?_) (fun _=>fun w50 x50 w51 x51=>hJ _ _ ⟨false,rfl,x50.trans x51,fun h=>by cases h⟩))
  obtain ⟨P,Q,rfl⟩:∃ P Q,F = .imp P Q:=by
   have e:(F.kind:Int) = 4:=e
   cases F with
   | imp P Q=>exact ⟨P,Q,rfl⟩
   | var _=>exact absurd (show (0:Int) = 4 from e) (by decide)
   | fls=>exact absurd (show (1:Int) = 4 from e) (by decide)
   | and _ _=>exact absurd (show (2:Int) = 4 from e) (by decide)
   | or _ _=>exact absurd (show (3:Int) = 4 from e) (by decide)
   | box _=>exact absurd (show (5:Int) = 4 from e) (by decide)
   | dia _=>exact absurd (show (6:Int) = 4 from e) (by decide)
  have sP:(Fm.imp P Q).size = 1 + P.size + Q.size:=rfl
  refine iFdH (j:=j) h43.ln.rd rfl hj1 (by decide) (u:=(gt R2 j).v) rfl ?_
  intro w46 x46
  refine iCall ((iS (SlK.ext fF x46) (g:=P) (gs:=[Q]) rfl (by omega)).mono ?_)
  rintro v93 w47 ⟨x47,h93⟩
  refine ⟨x47,?_⟩
  have x4347:=x46.trans x47
  refine iRetQ (fun w' x'=>cW (SlK.ext h93 x') (SlK.ext fG (x4347.trans x')) (by omega)) ?_
  refine iCndP (fun e2=>?_) (fun _=>fun w49 x49=>hJ _ _ ⟨false,rfl,x4347.trans x49,fun h=>by cases h⟩)
  refine iLenK h43.ln.row.sl (iEq fun w48 x48=>hJ _ _ ⟨_,rfl,x4347.trans x48,fun h=>?_⟩)
  have h:=of_decide_eq_true h
  exact ⟨by omega,Q,by rw [e2]⟩
 rintro _ w45 ⟨c,rfl,x45,hc⟩
 intro _
 simp only [gx]
 have h45:=h43.ext x45
 have s45:=x45.size
 refine iCnd (fun e=>?_) (fun _=>?_)
 ·obtain ⟨hl,P,rfl⟩:=hc e
  have sP:(Fm.imp G P).size = 1 + G.size + P.size:=rfl
  refine iCall ((gM (SlK.ext fF x45) (g:=G) (h:=P) rfl (by omega)).mono ?_)
  rintro v112 w52 ⟨x52,h112⟩
  refine DrS.call (h45.ext x52) hlo (by have:=x52.size;omega) h112 gF.2 (by omega) (by omega) (inH3 ⟨by omega,by omega⟩) fun u w53 y k53 h53 _=>?_
  refine iAdd (by omega) ?_
  exact hK2 (u,j + 1) _ ⟨by show j + 1 ≤ n + 1;omega,by have:=k53.size;have:=x52.size;omega,_,h53,by rw [len1];omega,by rw [len1];omega,by rw [len1];omega⟩ (by show n + 1 - (j + 1) < n + 1 - j;omega)
 ·refine iAdd (by omega) ?_
  exact hK2 (z2,j + 1) _ ⟨by show j + 1 ≤ n + 1;omega,by omega,R2,h45,m1,m2,m3⟩ (by show n + 1 - (j + 1) < n + 1 - j;omega)
end Go.Proofs.YtbfpohbmgjcjmaaGreatDoor

namespace Go.Proofs.YtbfpohbmgjcjmaaGreatDoor
open Go.Vc
theorem WM {z0 z1 z3 a b d:Value} {K:Value → Prop} (ha:aF a = true) (hb:aF b = true) (hd:aF d = true) (h:K (.agg #[a,b,.int .i64 0,d])):aR #[z0,z1,.int .i64 0,z3] #[(0,1),(1,1),(2,1),(3,1)] [(0,a),(1,b),(3,d)] K:=
 f8 (cs:=#[a,b,.int .i64 0,d]) (by simp [Instr.fill,aH ha,aH hb,aH hd]) h
theorem LI:∀ {R:List HV} {j f:Nat} {u:Value} {y:HV},j < R.length → f < 4 → y.cs = (gt R j).cs.set f u → (bD R).set (j * 4 + f) u = bD (R.set j y)
 | [],_,_,_,_,h,_,_=>by simp at h
 | x :: R,0,f,u,y,_,hf,hy=>by
  show (x.cs ++ bD R).set (0 * 4 + f) u = y.cs ++ bD R
  rw [Nat.zero_mul,Nat.zero_add,List.set_append_left _ _ (by simp [HV.cs];omega)]
  congr 1
  exact hy.symm
 | x :: R,j + 1,f,u,y,h,hf,hy=>by
  have:=LI (R:=R) (j:=j) (f:=f) (u:=u) (y:=y) (by simpa using h) hf hy
  show (x.cs ++ bD R).set ((j + 1) * 4 + f) u = x.cs ++ bD (R.set j y)
  rw [List.set_append_right _ _ (by show 4 ≤ (j + 1) * 4 + f;omega),← this]
  congr 2
  show (j + 1) * 4 + f - 4 = j * 4 + f
  omega
theorem iWrH {e:TypeId} {lo:Nat} {w:World} {v x:Value} {R:List HV} {y:HV} {z:Int} {j f:Nat} {k:IntKind} {K:World → Prop} (hs:OwK 4 lo e w v R.length (bD R)) (hz:z = (j:Int)) (hj:j < R.length) (hf:f < 4) (hx:aF x = true) (hy:y.cs = (gt R j).cs.set f x)
  (h:∀ w',OwK 4 lo e w' v (R.set j y).length (bD (R.set j y)) → Ch (fun c=>v.ownBlock = some c) w w' → K w'):xIa 4 v (.int k z) fun p=>xFa f p fun q=>xSt w q x K:=by
 subst hz
 have hmul:(j + 1) * 4 ≤ R.length * 4:=Nat.mul_le_mul_right _ (by omega)
 obtain ⟨hl,⟨-,h0⟩ | ⟨g,cap,cur,hv,hg,hh,h1,h2,h3,h4⟩⟩:=hs
 ·omega
 ·subst hv
  have hs:w.ownsRow lo e 4 (.slice (some ⟨g,0,none⟩) R.length cap) R.length (bD R):=⟨hl,.inr ⟨g,cap,cur,rfl,hg,hh,h1,h2,h3,h4⟩⟩
  refine ⟨_,_,_,_,_,rfl,rfl,by omega,by omega,?_⟩
  rw [Int.toNat_natCast,bF]
  refine ⟨_,rfl,?_⟩
  rw [bF,Nat.zero_add]
  have hjf:j * 4 + f < (bD R).length:=by rw [yN];omega
  refine iSt ((hs.cellAt (j * 4 + f) (by omega)).trans (List.getElem?_eq_getElem hjf)) (hs.frozenAt _) hx ?_
  refine h _ ?_ ((Upd.setCell w g _ x).ch rfl)
  have:=(hs.stored (j * 4 + f) x).1
  rw [LI hj hf hy] at this
  rw [List.length_set]
  exact this
theorem ND {w0 w:World} {vc:Value} {bs:List Nat} (hc:SlB w0 vc bs) {b:Nat} (hS:Vc.Src eZ w0 vc b w) (hw0:w0.heap.size ≤ w.heap.size):
  Cal Tryz.prog B8 #[.pointer (some ⟨b,0,none⟩)] w fun r w'=>DrO w' r ∧ Vc.Src eZ w0 vc b w':=by
 apply OI;unfold BK
 refine iCall ((LG hc hS).mono ?_)
 rintro _ w1 ⟨⟨t,rfl⟩,hS1,hch1⟩
 refine iCall ((tB t w1).mono ?_)
 rintro v25 w2 ⟨x2,hsc2⟩
 refine iLenI hsc2.sl ?_
 rw [cQ]
 refine iLt ?_
 generalize decide ((10:Int) < ((sysT t).length:Int)) = m
 refine iBs0 fun v29 w3 _ x3 ho3=>?_
 refine TU fun v30 w4 x4 ho4=>?_
 have x24:=(x2.trans x3).trans x4
 have hS4:=hS1.later x24
 have s1:=hch1.size
 have h29:=ho3.ext x4
 refine iCall ((f9 (by decide) hc m hS4).mono ?_)
 rintro v33 w5 ⟨⟨A,gA,sA,hA5⟩,hS5,hch5⟩
 have kp:∀ {k lo' n:Nat} {e:TypeId} {u:Value} {ys:List Value} {w' w'':World},OwK k lo' e w' u n ys → Vc.Src eZ w0 vc b w' → e ≠ eZ → Ch (fun c=>c = b) w' w'' → OwK k lo' e w'' u n ys:=fun hu hs hne hch=>OwK.src hu hs hne hch
 have h29:Ow w2.heap.size aB w5 v29 []:=kp h29 hS4 (by decide) hch5
 have h30:OwK 4 w3.heap.size aC w5 v30 0 []:=kp ho4 hS4 (by decide) hch5
 have hsc5:Ow 0 t_i64 w5 v25 (ints (nats (sysT t))):=kp ((hsc2.ext x3).ext x4) hS4 (by decide) hch5
 refine iCall ((f9 (by decide) hc m hS5).mono ?_)
 rintro v36 w6 ⟨⟨B,gB,sB,hB6⟩,hS6,hch6⟩
 have h29:Ow w2.heap.size aB w6 v29 []:=kp h29 hS5 (by decide) hch6
 have h30:OwK 4 w3.heap.size aC w6 v30 0 []:=kp h30 hS5 (by decide) hch6
 have hsc6:Ow 0 t_i64 w6 v25 (ints (nats (sysT t))):=kp hsc5 hS5 (by decide) hch6
 have hA6:FmW w4.heap.size w6 v33 A:=kp hA5 hS5 (by decide) hch6
 have sAB:(Fm.imp A B).size = 1 + A.size + B.size:=rfl
 refine iCall ((aK hA6.sl hB6.sl (by omega)).mono ?_)
 rintro v40 w7 ⟨x7,hAB7⟩
 refine iBs2 rfl (OwK.cell hAB7) (OwK.cell hA6) fun c w8 hc8 x8 hB8=>?_
 have x68:=x7.trans x8
 have h29:=h29.ext x68
 have s28:w2.heap.size ≤ w8.heap.size:=by have:=x3.size;have:=x4.size;have:=hch5.size;have:=hch6.size;have:=x68.size;omega
 refine iAppA pL pJ rfl h29 (Sl.ofBlk (n:=2) hB8 rfl (by decide)) (fun u hu=>?_) (by simp) (by simp) s28 fun v43 w9 ho9 hg9 hn9=>?_
 ·simp only [List.mem_cons,List.not_mem_nil,or_false] at hu
  rcases hu with rfl | rfl
  ·exact OwK.cell hAB7
  ·exact OwK.cell hA6
 have c9:=bJ (S:=fun c=>v29.ownBlock = some c) hg9 fun c hc=>hc
 have kq:∀ {k lo' n:Nat} {e:TypeId} {u:Value} {ys:List Value},OwK k lo' e w8 u n ys → e ≠ aB → OwK k lo' e w9 u n ys:=fun hu hne=>OwK.ch hu c9 fun c hc hS=>by
  obtain ⟨cur,hh⟩:=Ow.ty h29 hS
  exact OwK.ne_blk hu (show Blk aB w8 c cur.toList by unfold Blk;rw [hh]) hne hc
 have lo02:w0.heap.size ≤ w2.heap.size:=by have:=x2.size;omega
 have hS9:Vc.Src eZ w0 vc b w9:=(hS6.later x68).ch c9 (fun hS=>by
  obtain ⟨cur,hh⟩:=Ow.ty h29 hS
  exact (hS6.later x68).ne (show Blk aB w8 b cur.toList by unfold Blk;rw [hh]) (by decide) rfl) fun c hc=>Nat.le_trans lo02 (h29.blk c hc).1
 have hD9:DrS w0 vc b w2.heap.size w9 v43 v30 v33 v25 [(v40,.imp A B),(v33,A)] A (sysT t) []:=
  ⟨hS9,ho9,fun p hp=>by
   simp only [List.mem_cons,List.not_mem_nil,or_false] at hp
   rcases hp with rfl | rfl
   ·exact kq (OwK.mono (OwK.ext hAB7 x8) (Nat.zero_le _)) (by decide)
   ·exact kq (OwK.mono (OwK.ext hA6 x68) (Nat.zero_le _)) (by decide),fun p hp=>by
   simp only [List.mem_cons,List.not_mem_nil,or_false] at hp
   rcases hp with rfl | rfl
   ·exact ⟨⟨gA,gB⟩,by show (Fm.imp A B).size ≤ 100;omega⟩
   ·exact ⟨gA,by show A.size ≤ 100;omega⟩,kq (OwK.mono (OwK.ext hA6 x68) (Nat.zero_le _)) (by decide),kq (hsc6.ext x68) (by decide),⟨kq (OwK.mono (OwK.ext h30 x68) x3.size) (by decide),fun y hy=>by cases hy⟩,fun k hk=>absurd hk (Nat.not_lt_zero k)⟩
 have s29:w2.heap.size ≤ w9.heap.size:=Nat.le_trans s28 c9.size
 clear kq c9 hS9 h29 h30 hsc6 hsc5 hA6 hA5 hB6 hAB7 hB8 ho9 ho4 ho3 hg9
 refine iCall ((aI hc hD9.src 2).mono ?_)
 rintro _ w10 ⟨⟨q,rfl,_,_⟩,hS10,hch10⟩
 have hD10:=hD9.draw hS10 hch10
 have s10:=hch10.size
 refine iEq (iJnX (fun xs w'=>∃ zh Hs,xs = [zh] ∧ DrS w0 vc b w2.heap.size w' zh v30 v33 v25 Hs A (sysT t) [] ∧ w2.heap.size ≤ w'.heap.size ∧ 2 ≤ Hs.length ∧ Hs.length ≤ 6) (fun J hJ=>?_) ?_)
 ·refine iCndP (fun _=>?_) (fun _=>hJ _ _ ⟨v43,_,rfl,hD10,by omega,by simp,by simp⟩)
  refine iCall ((f9 (by decide) hc m hD10.src).mono ?_)
  rintro v50 w13 ⟨⟨C,gC,sC,hC13⟩,hS13,hch13⟩
  have hD13:=hD10.draw hS13 hch13
  have s13:=hch13.size
  refine iP pL pJ rfl hD13.hyp (OwK.cell hC13) (by simp) (by simp) (by omega) fun v52 w15 ho15 hg15 _=>?_
  have c15:=bJ (S:=fun c=>v43.ownBlock = some c) hg15 fun c hc=>hc
  have kq:∀ {k lo' n:Nat} {e:TypeId} {u:Value} {ys:List Value},OwK k lo' e w13 u n ys → e ≠ aB → OwK k lo' e w15 u n ys:=fun hu hne=>OwK.ch hu c15 fun c hc hS=>by
   obtain ⟨cur,hh⟩:=Ow.ty hD13.hyp hS
   exact OwK.ne_blk hu (show Blk aB w13 c cur.toList by unfold Blk;rw [hh]) hne hc
  refine hJ _ _ ⟨v52,[(v40,.imp A B),(v33,A)] ++ [(v50,C)],rfl,⟨hD13.src.ch c15 (fun hS=>by
   obtain ⟨cur,hh⟩:=Ow.ty hD13.hyp hS
   exact hD13.src.ne (show Blk aB w13 b cur.toList by unfold Blk;rw [hh]) (by decide) rfl) fun c hc=>Nat.le_trans lo02 (hD13.hyp.blk c hc).1,?_,fun p hp=>?_,fun p hp=>?_,kq hD13.a (by decide),kq hD13.sch (by decide),⟨kq hD13.ln.row (by decide),fun y hy=>by cases hy⟩,fun k hk=>absurd hk (Nat.not_lt_zero k)⟩,by have:=c15.size;omega,by simp,by simp⟩
  ·rw [List.map_append];exact ho15
  ·rcases List.mem_append.1 hp with hp | hp
   ·exact kq (hD13.hf p hp) (by decide)
   ·rw [List.mem_singleton.1 hp];exact kq (OwK.mono hC13 (Nat.zero_le _)) (by decide)
  ·rcases List.mem_append.1 hp with hp | hp
   ·exact hD13.hg p hp
   ·rw [List.mem_singleton.1 hp];exact ⟨gC,by show C.size ≤ 100;omega⟩
 rintro _ w12 ⟨zh,Hs,rfl,hD12,s12,hl1,hl2⟩
 intro _
 simp only [gx]
 clear hD10 hD9
 refine iCall ((aI hc hD12.src 7).mono ?_)
 rintro _ w16 ⟨⟨kk,rfl,hkk,_⟩,hS16,hch16⟩
 have hkk:=hkk (by decide)
 have hD16:=hD12.draw hS16 hch16
 have s16:=hch16.size
 refine iAdd (by omega) ?_
 refine iLp (fun s:Value × Nat=>[s.1,.int .i64 (s.2:Int)]) (fun s w'=>s.2 ≤ 8 ∧ w2.heap.size ≤ w'.heap.size ∧ ∃ R,DrS w0 vc b w2.heap.size w' zh s.1 v33 v25 Hs A (sysT t) R ∧ R.length + 2 * s.2 ≤ 16) (fun s=>s.2) (v30,2 + kk) (by show [v30,Value.int .i64 ((2 + kk:Nat):Int)] = [v30,.int .i64 (2 + (kk:Int))];congr 3) ⟨by show 2 + kk ≤ 8;omega,by omega,[],hD16,by show 0 + 2 * (2 + kk) ≤ 16;omega⟩ ?_
 rintro ⟨zl,k⟩ w18 Kn ⟨hk8,s18,R,hD,hRk⟩ hKn
 have hD:DrS w0 vc b w2.heap.size w18 zh zl v33 v25 Hs A (sysT t) R:=hD
 have hRk:R.length + 2 * k ≤ 16:=hRk
 intro _
 simp only [gx]
 refine iJnX (fun xs w'=>xs = [.bool (decide (0 < k ∧ 0 < (sysT t).length))] ∧ w' = w18) (fun J hJ=>?_) ?_
 ·refine iLt (iCndP (fun e=>?_) (fun e=>?_))
  ·refine iLenI hD.sch.sl (iLt (hJ _ _ ⟨?_,rfl⟩))
   rw [cQ]
   congr 2
   exact decide_eq_decide.2 ⟨fun h=>⟨by omega,by omega⟩,fun h=>by omega⟩
  ·exact hJ _ _ ⟨by rw [decide_eq_false (fun h=>e (by omega))],rfl⟩
 rintro _ w20 ⟨rfl,rfl⟩
 intro _
 simp only [gx]
 have go:∀ {z':Value} {R':List HV} {w':World},w2.heap.size ≤ w'.heap.size → DrS w0 vc b w2.heap.size w' zh z' v33 v25 Hs A (sysT t) R' → R'.length ≤ R.length + 2 → 0 < k → xSub .i64 (.int .i64 (k:Int)) (.int .i64 1) fun v64=>Kn [z',v64] w':=fun {z' R' w'} s h hl hk=>by
  refine iSub (by omega) ?_
  rw [show (k:Int) - 1 = ((k - 1:Nat):Int) by omega]
  exact hKn (z',k - 1) _ ⟨by show k - 1 ≤ 8;omega,s,R',h,by show R'.length + 2 * (k - 1) ≤ 16;omega⟩ (by show k - 1 < k;omega)
 refine iCndP (fun hk0=>?_) (fun _=>?_)
 ·obtain ⟨hk0,hT0⟩:=hk0
  refine iLenK hD.ln.row.sl ?_
  refine iCall ((aI hc hD.src 6).mono ?_)
  rintro _ w21 ⟨⟨x,rfl,_,_⟩,hS21,hch21⟩
  have hD21:=hD.draw hS21 hch21
  have s21:=hch21.size
  refine iEq (iCndP (fun _=>?_) (fun _=>?_))
  ·refine TR hc hD21 lo02 (by omega) hT0 (by omega) fun u w' y s' h'=>?_
   exact go (by omega) h' (by rw [len1];omega) hk0
  refine iEq (iCndP (fun _=>?_) (fun _=>?_))
  ·refine iJnX (fun xs w'=>∃ c:Bool,xs = [.bool c] ∧ Ext w21 w' ∧ (c = true → 0 < R.length ∧ (gt R (R.length - 1)).x.N.length < 30)) (fun J hJ=>?_) ?_
   ·refine iLt (iCndP (fun e=>?_) (fun _=>hJ _ _ ⟨false,rfl,Ext.refl _,fun h=>by cases h⟩))
    have hR0:0 < R.length:=by omega
    refine iCnd (fun _=>?_) (fun _=>hJ _ _ ⟨false,rfl,Ext.refl _,fun h=>by cases h⟩)
    refine iCall ((iM (h:=Hs.length) hD21.ln.rd (by omega) (by omega) fun k hk=>(hD21.ok k hk).2).mono ?_)
    rintro v209 w33 ⟨x33,D,hDl,hDr,hDk⟩
    refine iSub (by omega) ?_
    refine iIa (j:=(R.length:Int) - 1) hDr.sl (by omega) (by rw [List.length_map];omega) fun p hp=>?_
    rw [show ((R.length:Int) - 1).toNat = R.length - 1 by omega,List.getElem?_map,List.getElem?_eq_getElem (by omega),Option.map_some,← gt_eq (by omega)] at hp
    refine iLd hp (iLenI (hDk _ (by omega)).1.sl (iEq (iCndP (fun _=>?_) (fun _=>hJ _ _ ⟨false,rfl,x33,fun h=>by cases h⟩))))
    refine iSub (by omega) ?_
    have hm:gt R (R.length - 1) ∈ R:=by rw [gt_eq (by omega)];exact List.getElem_mem _
    refine iFdH (j:=R.length - 1) (hD21.ln.rd.ext x33) (by omega) (by omega) (by decide) (u:=(gt R (R.length - 1)).v) rfl ?_
    refine iLenK ((hD21.ln.rd.ext x33).fm _ hm) (iLt (hJ _ _ ⟨_,rfl,x33,fun h=>⟨hR0,by have:=of_decide_eq_true h;omega⟩⟩))
   rintro _ w32 ⟨c,rfl,x32,hcc⟩
   intro _
   simp only [gx]
   have hD32:=hD21.ext x32
   have s32:=x32.size
   refine iCnd (fun e=>?_) (fun _=>go (by omega) hD32 (by omega) hk0)
   obtain ⟨hR0,h30⟩:=hcc e
   obtain ⟨⟨C,gC,sC,hC⟩,-⟩:=hD32.ok (R.length - 1) (by omega)
   rw [hC,aG] at h30
   refine iSub (by omega) (iSub (by omega) ?_)
   refine iFdH (j:=R.length - 1) hD32.ln.rd (by omega) (by omega) (by decide) (u:=(gt R (R.length - 1)).v) rfl ?_
   refine iCall ((jK (k:=5) (c:=.box C) rfl rfl (hD32.fm (by omega) hC) (by show 1 + C.size ≤ _;omega)).mono ?_)
   rintro v237 w34 ⟨x34,h237⟩
   have s34:=x34.size
   refine DrS.call (hD32.ext x34) lo02 (by omega) h237.sl (show (Fm.box C).good from gC) (by show 1 + C.size ≤ 200;omega) (by omega) (inH4 ⟨by omega,by omega⟩) fun u w' y k' h' _=>?_
   exact go (by have:=k'.size;omega) h' (by rw [len1];omega) hk0
  refine iEq (iJnX (fun xs w'=>∃ c:Bool,xs = [.bool c] ∧ w' = w21) (fun J hJ=>iCndP (fun _=>hJ _ _ ⟨true,rfl,rfl⟩) (fun _=>iEq (hJ _ _ ⟨_,rfl,rfl⟩))) ?_)
  rintro _ w37 ⟨c,rfl,rfl⟩
  intro _
  simp only [gx]
  refine iCnd (fun _=>?_) (fun _=>?_)
  ·refine iLenS hD21.hyp.sl ?_
   rw [List.length_map]
   refine iCall ((aI hc hD21.src _).mono ?_)
   rintro _ w38 ⟨⟨i,rfl,hi,_⟩,hS38,hch38⟩
   have hi:=hi (by omega)
   have hD38:=hD21.draw hS38 hch38
   have s38:=hch38.size
   have hil:i < Hs.length:=by omega
   have hm:gt Hs i ∈ Hs:=by rw [gt_eq hil];exact List.getElem_mem _
   refine iIa (j:=(i:Int)) hD38.hyp.sl (by omega) (by rw [List.length_map];omega) fun p hp=>?_
   rw [Int.toNat_natCast,List.getElem?_map,List.getElem?_eq_getElem hil,Option.map_some,← gt_eq hil] at hp
   refine iLd hp ?_
   have g:=hD38.hg _ hm
   refine DrS.call hD38 lo02 (by omega) (hD38.hf _ hm).sl g.1 (by omega) (by omega) (inH2 ⟨by omega,by omega⟩) fun u w' y k' h' _=>?_
   exact go (by have:=k'.size;omega) h' (by rw [len1];omega) hk0
  ·refine TJ hD21 lo02 (by omega) rfl (by omega) fun z1 i1 w41 R1 s41 h41 n1 n2=>?_
   simp only [gx]
   refine iJnX (fun xs w'=>∃ c:Bool,xs = [.bool c] ∧ w' = w41 ∧ (c = true → R1.length = R.length ∧ 0 < R.length ∧ (gt R1 (R.length - 1)).x.N.length < 12)) (fun J hJ=>?_) ?_
   ·refine iLenK h41.ln.row.sl (iEq (iCndP (fun e=>?_) (fun _=>hJ _ _ ⟨false,rfl,rfl,fun h=>by cases h⟩)))
    refine iLt (iCndP (fun e2=>?_) (fun _=>hJ _ _ ⟨false,rfl,rfl,fun h=>by cases h⟩))
    have hm:gt R1 (R.length - 1) ∈ R1:=by rw [gt_eq (by omega)];exact List.getElem_mem _
    refine iSub (by omega) ?_
    refine iFdH (j:=R.length - 1) h41.ln.rd (by omega) (by omega) (by decide) (u:=(gt R1 (R.length - 1)).v) rfl ?_
    refine iLenK (h41.ln.rd.fm _ hm) (iLt (hJ _ _ ⟨_,rfl,rfl,fun h=>⟨by omega,by omega,by have:=of_decide_eq_true h;omega⟩⟩))
   rintro _ w55 ⟨c,rfl,rfl,hcc⟩
   intro _
   simp only [gx]
   refine iCnd (fun e=>?_) (fun _=>go (by omega) h41 (by omega) hk0)
   obtain ⟨hRR,hR0,h12⟩:=hcc e
   obtain ⟨⟨C,gC,sC,hC⟩,-⟩:=h41.ok (R.length - 1) (by omega)
   rw [hC,aG] at h12
   have sAC:(Fm.imp A C).size = 1 + A.size + C.size:=rfl
   have sCAC:(Fm.imp C (.imp A C)).size = 1 + C.size + (Fm.imp A C).size:=rfl
   have fC:=h41.fm (by omega) hC
   refine iSub (by omega) ?_
   refine iFdH (j:=R.length - 1) h41.ln.rd (by omega) (by omega) (by decide) (u:=(gt R1 (R.length - 1)).v) rfl ?_
   refine iSub (by omega) ?_
   refine iFdH (j:=R.length - 1) h41.ln.rd (by omega) (by omega) (by decide) (u:=(gt R1 (R.length - 1)).v) rfl ?_
   intro w56 x56
   refine iCall ((aK (OwK.ext h41.a x56).sl (SlK.ext fC x56) (by omega)).mono ?_)
   rintro v149 w57 ⟨x57,h149⟩
   refine ⟨x57,fun w58 x58=>?_⟩
   refine iCall ((aK (SlK.ext fC ((x56.trans x57).trans x58)) (OwK.ext h149 x58).sl (by omega)).mono ?_)
   rintro v150 w59 ⟨x59,h150⟩
   intro w60 x60
   have x4160:=(((x56.trans x57).trans x58).trans x59).trans x60
   have s60:=x4160.size
   refine DrS.call (h41.ext x4160) lo02 (by omega) (OwK.ext h150 x60).sl ⟨gC,gA,gC⟩ (by omega) (by omega) inH1 fun v152 w61 y1 k61 h61 hy1=>?_
   have s61:=k61.size
   intro w62 x62
   have h62:=h61.ext x62
   have s62:=x62.size
   refine iSub (by omega) (iSub (by omega) ?_)
   have hC':(gt (R1 ++ [y1]) (R.length - 1)).x.N = rawF C:=by rw [bK (by omega)];exact hC
   refine iFdH (j:=R.length - 1) h62.ln.rd (by omega) (by rw [len1];omega) (by decide) (u:=(gt (R1 ++ [y1]) (R.length - 1)).v) rfl ?_
   refine iCall ((aK h62.a.sl (h62.fm (by rw [len1];omega) hC') (by omega)).mono ?_)
   rintro v166 w63 ⟨x63,h166⟩
   have s63:=x63.size
   refine DrS.call (h62.ext x63) lo02 (by omega) h166.sl ⟨gA,gC⟩ (by omega) (by rw [len1];omega) (inH3 ⟨by rw [len1];omega,by rw [len1];omega⟩) fun u w' y k' h' _=>?_
   exact go (by have:=k'.size;omega) h' (by rw [len1,len1];omega) hk0
 ·have dmg:∀ {w' w'':World} {k0:Nat} {y':HV},DrS w0 vc b w2.heap.size w' zh zl v33 v25 Hs A (sysT t) R → OwK 4 w2.heap.size aC w'' zl (R.set k0 y').length (bD (R.set k0 y')) → Ch (fun c=>zl.ownBlock = some c) w' w'' → RawW 0 aA w'' y'.v y'.x.N → y'.x.N.length ≤ 1000000 → DrO w'' (.tuple #[sv t,zh,zl]) ∧ Vc.Src eZ w0 vc b w'':=fun {w' w'' k0 y'} h o c hy hyl=>by
   have key:∀ {k lo' n:Nat} {e:TypeId} {u:Value} {ys:List Value},OwK k lo' e w' u n ys → e ≠ aC → OwK k lo' e w'' u n ys:=fun hu hne=>OwK.ch hu c fun b hb hS=>by
    obtain ⟨cur,hh⟩:=OwK.ty h.ln.row hS
    exact OwK.ne_blk hu (show Blk aC w' b cur.toList by unfold Blk;rw [hh]) hne hb
   refine ⟨⟨t,zh,zl,Hs.map fun p=>(p.1,rawF p.2),R.set k0 y',rfl,⟨?_,fun p hp=>?_⟩,by rw [List.length_map];exact hl2,fun p hp=>?_,⟨OwK.mono o (Nat.zero_le _),fun y hy'=>?_⟩,fun y hy'=>?_⟩,h.src.ch c (fun hS=>by
    obtain ⟨cur,hh⟩:=OwK.ty h.ln.row hS
    exact h.src.ne (show Blk aC w' b cur.toList by unfold Blk;rw [hh]) (by decide) rfl) fun c hc=>Nat.le_trans lo02 (OwK.blk h.ln.row c hc).1⟩
   ·rw [List.map_map];exact OwK.mono (key h.hyp (by decide)) (Nat.zero_le _)
   ·obtain ⟨q,hq,rfl⟩:=List.mem_map.1 hp
    exact FmW.rawZ (key (h.hf q hq) (by decide))
   ·obtain ⟨q,hq,rfl⟩:=List.mem_map.1 hp
    have:=(h.hg q hq).2
    show (rawF q.2).length ≤ _
    rw [aG];omega
   ·rcases List.mem_or_eq_of_mem_set hy' with h' | h'
    ·exact key (h.ln.fm y h') (by decide)
    ·rw [h'];exact hy
   ·rcases List.mem_or_eq_of_mem_set hy' with h' | h'
    ·obtain ⟨j,hj,rfl⟩:=List.getElem_of_mem h'
     obtain ⟨⟨C,_,sC,hC⟩,_⟩:=h.ok j hj
     rw [← gt_eq hj,hC,aG];omega
    ·rw [h'];exact hyl
  refine iJnX (fun xs w'=>∃ c:Bool,xs = [.bool c] ∧ DrS w0 vc b w2.heap.size w' zh zl v33 v25 Hs A (sysT t) R ∧ (c = true → 0 < R.length)) (fun J hJ=>?_) ?_
  ·refine iLenK hD.ln.row.sl (iLt (iCndP (fun e=>?_) (fun _=>hJ _ _ ⟨false,rfl,hD,fun h=>by cases h⟩)))
   refine iCall ((aI hc hD.src 5).mono ?_)
   rintro _ w67 ⟨⟨x,rfl,_,_⟩,hS67,hch67⟩
   exact iEq (hJ _ _ ⟨_,rfl,hD.draw hS67 hch67,fun _=>by omega⟩)
  rintro _ w66 ⟨c,rfl,hD66,hcc⟩
  intro _
  simp only [gx]
  refine iJnX (fun _ w'=>DrO w' (.tuple #[sv t,zh,zl]) ∧ Vc.Src eZ w0 vc b w') (fun J hJ=>?_) ?_
  rotate_left
  ·intro _ w69 h _
   exact h
  refine iCnd (fun e=>?_) (fun _=>hJ _ _ ⟨hD66.out hl2 t,hD66.src⟩)
  have hR0:=hcc e
  refine iLenK hD66.ln.row.sl ?_
  refine iCall ((aI hc hD66.src _).mono ?_)
  rintro _ w70 ⟨⟨k0,rfl,hk0,_⟩,hS70,hch70⟩
  have hk0:=hk0 (by omega)
  have hkl:k0 < R.length:=by omega
  have hD70:=hD66.draw hS70 hch70
  refine iCall ((aI hc hD70.src 5).mono ?_)
  rintro _ w71 ⟨⟨q,rfl,_,_⟩,hS71,hch71⟩
  have hD71:=hD70.draw hS71 hch71
  obtain ⟨⟨C,gC,sC,hC⟩,-⟩:=hD71.ok k0 hkl
  have hm:gt R k0 ∈ R:=by rw [gt_eq hkl];exact List.getElem_mem _
  have keepF:∀ {w' w'':World} {u:Value} {N:List RN},DrS w0 vc b w2.heap.size w' zh zl v33 v25 Hs A (sysT t) R → Ch (fun c=>zl.ownBlock = some c) w' w'' → RawW 0 aA w' u N → RawW 0 aA w'' u N:=fun {w' w'' u N} h c hu=>OwK.ch hu c fun b hb hS=>by
   obtain ⟨cur,hh⟩:=OwK.ty h.ln.row hS
   exact OwK.ne_blk hu (show Blk aC w' b cur.toList by unfold Blk;rw [hh]) (by decide) hb
  have hN2:(gt R k0).x.N.length ≤ 200:=by rw [hC,aG];omega
  have hNl:(gt R k0).x.N.length ≤ 1000000:=by omega
  refine iEq (iJnX (fun _ w'=>DrO w' (.tuple #[sv t,zh,zl]) ∧ Vc.Src eZ w0 vc b w') (fun J1 hJ1=>?_) (fun _ w' h _=>hJ _ _ h))
  refine iCndP (fun _=>?_) (fun _=>?_)
  ·refine iCall ((aI hc hD71.src 6).mono ?_)
   rintro _ w74 ⟨⟨x,rfl,hx,_⟩,hS74,hch74⟩
   have hx:=hx (by decide)
   have hD74:=hD71.draw hS74 hch74
   refine iSub (by omega) ?_
   exact iWrH (y:=⟨⟨(gt R k0).x.rule,(x:Int) - 1,(gt R k0).x.second,(gt R k0).x.N⟩,(gt R k0).v⟩) hD74.ln.row rfl hkl (by decide) rfl rfl fun w75 o75 c75=>hJ1 _ _ (dmg hD74 o75 c75 (keepF hD74 c75 (hD74.ln.fm (gt R k0) hm)) hNl)
  refine iEq (iJnX (fun _ w'=>DrO w' (.tuple #[sv t,zh,zl]) ∧ Vc.Src eZ w0 vc b w') (fun J2 hJ2=>?_) (fun _ w' h _=>hJ1 _ _ h))
  refine iCndP (fun _=>?_) (fun _=>?_)
  ·refine iCall ((aI hc hD71.src 3).mono ?_)
   rintro _ w74 ⟨⟨x,rfl,hx,_⟩,hS74,hch74⟩
   have hD74:=hD71.draw hS74 hch74
   exact iWrH (y:=⟨⟨(gt R k0).x.rule,(gt R k0).x.first,(x:Int),(gt R k0).x.N⟩,(gt R k0).v⟩) hD74.ln.row rfl hkl (by decide) rfl rfl fun w75 o75 c75=>hJ2 _ _ (dmg hD74 o75 c75 (keepF hD74 c75 (hD74.ln.fm (gt R k0) hm)) hNl)
  refine iEq (iJnX (fun _ w'=>DrO w' (.tuple #[sv t,zh,zl]) ∧ Vc.Src eZ w0 vc b w') (fun J3 hJ3=>?_) (fun _ w' h _=>hJ2 _ _ h))
  refine iCndP (fun _=>?_) (fun _=>?_)
  ·refine iCall ((f9 (by decide) hc m hD71.src).mono ?_)
   rintro v306 w74 ⟨⟨f,gf,sf,hf⟩,hS74,hch74⟩
   have hD74:=hD71.draw hS74 hch74
   have hf':RawW 0 aA w74 v306 (rawF f):=FmW.rawZ (OwK.mono hf (Nat.zero_le _))
   exact iWrH (y:=⟨⟨(gt R k0).x.rule,(gt R k0).x.first,(gt R k0).x.second,rawF f⟩,v306⟩) hD74.ln.row rfl hkl (by decide) (OwK.cell hf) rfl fun w75 o75 c75=>hJ3 _ _ (dmg hD74 o75 c75 (keepF hD74 c75 hf') (by show (rawF f).length ≤ _;rw [aG];omega))
  refine iEq (iJnX (fun _ w'=>DrO w' (.tuple #[sv t,zh,zl]) ∧ Vc.Src eZ w0 vc b w') (fun J4 hJ4=>?_) (fun _ w' h _=>hJ3 _ _ h))
  refine iCndP (fun _=>?_) (fun _=>?_)
  ·refine iCall ((aI hc hD71.src 6).mono ?_)
   rintro _ w74 ⟨⟨x,rfl,hx,_⟩,hS74,hch74⟩
   have hD74:=hD71.draw hS74 hch74
   exact iWrH (y:=⟨⟨(x:Int),(gt R k0).x.first,(gt R k0).x.second,(gt R k0).x.N⟩,(gt R k0).v⟩) hD74.ln.row rfl hkl (by decide) rfl rfl fun w75 o75 c75=>hJ4 _ _ (dmg hD74 o75 c75 (keepF hD74 c75 (hD74.ln.fm (gt R k0) hm)) hNl)
  ·refine iFdH (j:=k0) hD71.ln.rd rfl hkl (by decide) (u:=(gt R k0).v) rfl ?_
   refine iCall ((OC (by decide) hc hD71.src (N:=(gt R k0).x.N) (hD71.ln.rd.fm _ hm) (by rw [hC,aG];have:=C.size_pos;omega)).mono ?_)
   rintro v280 w74 ⟨⟨M,hM,hM'⟩,hS74,hch74⟩
   have hD74:=hD71.draw hS74 hch74
   have hM'':RawW 0 aA w74 v280 M:=OwK.mono hM' (Nat.zero_le _)
   exact iWrH (y:=⟨⟨(gt R k0).x.rule,(gt R k0).x.first,(gt R k0).x.second,M⟩,v280⟩) hD74.ln.row rfl hkl (by decide) (OwK.cell hM') rfl fun w75 o75 c75=>hJ4 _ _ (dmg hD74 o75 c75 (keepF hD74 c75 hM'') (by show M.length ≤ _;omega))
theorem qS {vc:Value} {bs:List Nat} {w:World} (hc:SlB w vc bs):Cal Tryz.prog iH #[vc] w fun r w'=>Ext w w' ∧ ∃ (t:Str) (zh zl:Value) (L:List VN) (R:List HV),r = .tuple #[sv t,zh,zl] ∧ RwN w' zh L ∧ L.length ≤ 6 ∧ (∀ p ∈ L,p.2.length ≤ 1000000) ∧ RdH w' zl R ∧ ∀ y ∈ R,y.x.N.length ≤ 1000000:=by
 apply qX;unfold iJ
 refine iCall ((NF hc).mono ?_)
 rintro _ w1 ⟨b,rfl,hS1⟩
 refine iCall ((ND hc hS1 hS1.ext.size).mono ?_)
 rintro _ w2 ⟨⟨t,zh,zl,L,R,rfl,⟨h0,h1⟩,h2,h3,h4,h5⟩,hS2⟩
 refine iE30 (iE31 (iE32 ?_))
 refine iCall ((aI hc hS2 24).mono ?_)
 rintro _ w3 ⟨⟨x,rfl,_,_⟩,hS3,hch3⟩
 refine iEq (iCndP (fun _=>?_) (fun _=>?_))
 ·refine iBs0 fun v21 w4 _ x4 h21=>?_
  refine iCall ((nV (k:=8) (by decide) w4).mono ?_)
  rintro v22 w5 ⟨x5,h22⟩
  refine WM rfl rfl (OwK.cell h22) ?_
  refine iBs14 fun q w6 hq x6 hB=>?_
  refine ⟨((hS3.ext.trans x4).trans x5).trans x6,t,v21,_,[],[⟨⟨1,8,0,rawF (schF 8)⟩,v22⟩],rfl,⟨(h21.ext (x5.trans x6)).sl,fun p hp=>by cases hp⟩,by decide,(fun p hp=>by cases hp),⟨SlK.ofBlk (n:=1) hB rfl (by decide),fun y hy=>?_⟩,fun y hy=>?_⟩
  ·rw [List.mem_singleton.1 hy]
   exact FmS.rawS (OwK.ext h22 x6).sl
  ·rw [List.mem_singleton.1 hy]
   have:=wA ⟨8,by decide⟩
   show (rawF (schF 8)).length ≤ _
   rw [aG]
   have:(schF 8).size ≤ 40:=this
   omega
 ·refine ⟨hS3.ext,t,zh,zl,L,R,rfl,⟨Ow.sl (OwK.src h0 hS2 (by decide) hch3),fun p hp=>OwK.sl (OwK.src (h1 p hp) hS2 (by decide) hch3)⟩,h2,h3,⟨OwK.sl (OwK.src h4.row hS2 (by decide) hch3),fun y hy=>OwK.sl (OwK.src (h4.fm y hy) hS2 (by decide) hch3)⟩,h5⟩
end Go.Proofs.YtbfpohbmgjcjmaaGreatDoor

namespace Go.Proofs.YtbfpohbmgjcjmaaGreatDoor
open Go.Vc
theorem F5 {lo:Nat} {v va vb:Value} {L:List Str} {r t:Str} {a b:Fm} {w:World} (hv:TxW lo w v L) (ha:FmS w va a) (hb:FmS w vb b) (e:fT t = .imp a b) (hga:a.good) (hgb:b.good) (hp:a.plain = true) (hn:(Fm.imp a b).size ≤ 1000000) (hl:L.length ≤ 549755813888):
  Cal Tryz.prog sY #[.agg #[v,sv r],sv t,va,vb] w fun u w'=>Ext w w' ∧ ∃ x,u = .tuple #[x,.bool (aW L r t).2] ∧ ((aW L r t).2 = true → GlR w' x (aW L r t).1):=by
 apply HQ;unfold tD
 refine iNew2 fun q w1 hq x1 hB=>?_
 refine iFld (j:=0) (ha.ext x1) rfl a.size_pos (by decide) (aO ha).1 ?_
 have hba:=a.size_pos
 have hbb:=b.size_pos
 have one:∀ {w':World} {u:Value} {c:Fm} {bb:Nat} {e:TypeId},Blk e w' bb [u,sv r] → TxW 0 w' u (ins L t [c.body]) → GlR w' (.slice (some ⟨bb,0,none⟩) 1 1) [(ins L t [c.body],r)]:=fun h k=>GlR.one (p:=(_,r)) h k
 cases a with
 | box a=>cases hp
 | dia a=>cases hp
 | imp a c=>
  refine iEq (iCndF rfl (iEq (iCndF rfl (iEq (iCndF rfl (iEq (iCndF rfl ?_)))))))
  have hT:aW L r t = ([],false):=by unfold aW;rw [e]
  rw [hT]
  exact ⟨x1,_,rfl,fun h=>by cases h⟩
 | fls=>
  refine iEq (iCndT rfl ?_)
  have hT:aW L r t = ([(ins L t [],r)],true):=by unfold aW;rw [e]
  rw [hT]
  refine iLd2 hB ?_
  refine iCall ((aN (lo':=0) (ts:=[]) (hv.ext x1) (Ow.nil _ _ _) (by simp only [List.length_nil];omega)).mono ?_)
  rintro u w2 ⟨x2,v',rfl,ho⟩
  refine iBsA fun bb w3 hb3 x3 hB3=>?_
  exact ⟨(x1.trans x2).trans x3,_,rfl,fun _=>GlR.one (p:=(ins L t [],r)) hB3 (ho.ext x3)⟩
 | var p=>
  refine iEq (iCndF rfl (iEq (iCndT rfl ?_)))
  have hT:aW L r t = ([(ins L t [b.body],r)],decide ((Fm.var p).body ∈ L)):=by unfold aW;rw [e]
  rw [hT]
  refine iLd2 hB ?_
  simp only [Fm.size] at hn
  refine iRetQ (fun w' x'=>bS ((hb.ext x1).ext x') hgb (by omega)) ?_
  refine iFa (iLdB hB rfl ?_)
  intro w4 x4
  refine iBs1 rfl rfl fun bb w5 hb5 x5 hB5=>⟨x5,fun w6 x6=>?_⟩
  have X6:=x1.trans (x4.trans (x5.trans x6))
  refine iCall ((aN (ts:=[b.body]) (hv.ext X6) (Ow.ofBlk (n:=1) (hB5.ext x6) (Nat.zero_le _) rfl (by decide)) (by simp only [List.length_singleton];omega)).mono ?_)
  rintro u w7 ⟨x7,v',rfl,ho⟩
  refine ⟨x7,?_⟩
  have X7:=X6.trans x7
  refine iRetQ (fun w' x'=>bS (f:=.var p) ((ha.ext X7).ext x') hga (by simp [Fm.size])) ?_
  refine iRetQ (fun w' x'=>gX ((hv.ext X7).ext x').sl) ?_
  intro w8 x8
  refine iBsA fun b2 w9 hb9 x9 hB9=>⟨x9,fun w10 x10=>?_⟩
  have y:=(x8.trans x9).trans x10
  exact ⟨X7.trans y,_,rfl,fun _=>one (hB9.ext x10) ((ho.ext y).mono (Nat.zero_le _))⟩
 | and c d=>
  refine iEq (iCndF rfl (iEq (iCndF rfl (iEq (iCndT rfl ?_)))))
  have hT:aW L r t = ([(ins L t [(Fm.imp c (.imp d b)).body],r)],true):=by unfold aW;rw [e]
  rw [hT]
  refine iLd2 hB ?_
  simp only [Fm.size] at hn
  intro w11 x11
  have X11:=x1.trans x11
  refine iCall ((aM (f:=.and c d) (ha.ext X11) rfl (by simp only [Fm.size];omega)).mono ?_)
  rintro u1 w12 ⟨x12,hu1⟩
  refine ⟨x12,fun w13 x13=>?_⟩
  have X13:=(X11.trans x12).trans x13
  refine iCall ((aS (f:=.and c d) (ha.ext X13) rfl (by simp only [Fm.size];omega)).mono ?_)
  rintro u2 w14 ⟨x14,hu2⟩
  refine ⟨x14,fun w15 x15=>?_⟩
  have X15:=(X13.trans x14).trans x15
  refine iBs3 rfl (SlK.cellOk hu1) (SlK.cellOk hu2) (SlK.cellOk hb) fun b1 w16 hb16 x16 hB16=>⟨x16,fun w17 x17=>?_⟩
  have y17:=x16.trans x17
  have X17:=X15.trans y17
  refine iCall ((P9 (Sl.ofBlk (n:=3) (hB16.ext x17) rfl (by decide)) (hu1.ext ((x13.trans (x14.trans x15)).trans y17)) (hu2.ext (x15.trans y17)) (hb.ext X17) (by simp only [Fm.size];omega)).mono ?_)
  rintro u3 w18 ⟨x18,ho3⟩
  refine ⟨x18,?_⟩
  refine iRetQ (fun w' x'=>bS (f:=.imp c (.imp d b)) (OwK.sl (OwK.ext ho3 x')) ⟨hga.1,hga.2,hgb⟩ (by simp only [Fm.size];omega)) ?_
  intro w19 x19
  refine iBs1 rfl rfl fun b2 w20 hb20 x20 hB20=>⟨x20,fun w21 x21=>?_⟩
  have X21:=(X17.trans x18).trans (x19.trans (x20.trans x21))
  refine iCall ((aN (ts:=[(Fm.imp c (.imp d b)).body]) (hv.ext X21) (Ow.ofBlk (n:=1) (hB20.ext x21) (Nat.zero_le _) rfl (by decide)) (by simp only [List.length_singleton];omega)).mono ?_)
  rintro u w22 ⟨x22,v',rfl,ho⟩
  intro w23 x23
  refine iBsA fun b3 w24 hb24 x24 hB24=>fun w25 x25=>?_
  have y:=(x23.trans x24).trans x25
  exact ⟨(X21.trans x22).trans y,_,rfl,fun _=>one (hB24.ext x25) ((ho.ext y).mono (Nat.zero_le _))⟩
 | or c d=>
  refine iEq (iCndF rfl (iEq (iCndF rfl (iEq (iCndF rfl (iEq (iCndT rfl ?_)))))))
  have hT:aW L r t = ([(ins L t [(Fm.imp c b).body,(Fm.imp d b).body],r)],true):=by unfold aW;rw [e]
  rw [hT]
  refine iLd2 hB ?_
  simp only [Fm.size] at hn
  intro w11 x11
  have X11:=x1.trans x11
  refine iCall ((aM (f:=.or c d) (ha.ext X11) rfl (by simp only [Fm.size];omega)).mono ?_)
  rintro u1 w12 ⟨x12,hu1⟩
  refine ⟨x12,fun w13 x13=>?_⟩
  have X13:=(X11.trans x12).trans x13
  refine iBs2 rfl (SlK.cellOk hu1) (SlK.cellOk hb) fun b1 w14 hb14 x14 hB14=>⟨x14,fun w15 x15=>?_⟩
  have y15:=x14.trans x15
  have X15:=X13.trans y15
  refine iCall ((uQ (a:=c) (b:=b) (Sl.ofBlk (n:=2) (hB14.ext x15) rfl (by decide)) (hu1.ext (x13.trans y15)) (hb.ext X15) (by simp only [Fm.size];omega)).mono ?_)
  rintro u3 w16 ⟨x16,ho3⟩
  refine ⟨x16,?_⟩
  refine iRetQ (fun w' x'=>bS (f:=.imp c b) (OwK.sl (OwK.ext ho3 x')) ⟨hga.1,hgb⟩ (by simp only [Fm.size];omega)) ?_
  intro w17 x17
  have X17:=X15.trans (x16.trans x17)
  refine iCall ((aS (f:=.or c d) (ha.ext X17) rfl (by simp only [Fm.size];omega)).mono ?_)
  rintro u2 w18 ⟨x18,hu2⟩
  refine ⟨x18,fun w19 x19=>?_⟩
  have X19:=(X17.trans x18).trans x19
  refine iBs2 rfl (SlK.cellOk hu2) (SlK.cellOk hb) fun b2 w20 hb20 x20 hB20=>⟨x20,fun w21 x21=>?_⟩
  have y21:=x20.trans x21
  have X21:=X19.trans y21
  refine iCall ((uQ (a:=d) (b:=b) (Sl.ofBlk (n:=2) (hB20.ext x21) rfl (by decide)) (hu2.ext (x19.trans y21)) (hb.ext X21) (by simp only [Fm.size];omega)).mono ?_)
  rintro u4 w22 ⟨x22,ho4⟩
  refine ⟨x22,?_⟩
  refine iRetQ (fun w' x'=>bS (f:=.imp d b) (OwK.sl (OwK.ext ho4 x')) ⟨hga.2,hgb⟩ (by simp only [Fm.size];omega)) ?_
  intro w23 x23
  refine iBs2 rfl rfl rfl fun b3 w24 hb24 x24 hB24=>⟨x24,fun w25 x25=>?_⟩
  have X25:=(X21.trans x22).trans (x23.trans (x24.trans x25))
  refine iCall ((aN (ts:=[(Fm.imp c b).body,(Fm.imp d b).body]) (hv.ext X25) (Ow.ofBlk (n:=2) (hB24.ext x25) (Nat.zero_le _) rfl (by decide)) (by simp only [List.length_cons,List.length_nil];omega)).mono ?_)
  rintro u w26 ⟨x26,v',rfl,ho⟩
  intro w27 x27
  refine iBsA fun b4 w28 hb28 x28 hB28=>fun w29 x29=>?_
  have y:=(x27.trans x28).trans x29
  exact ⟨(X25.trans x26).trans y,_,rfl,fun _=>GlR.one (p:=(_,r)) (hB28.ext x29) ((ho.ext y).mono (Nat.zero_le _))⟩
theorem JO {lo:Nat} {v va:Value} {L:List Str} {r t:Str} {w:World} (hv:TxW lo w v L) (ha:FmS w va (fT t)) (hg:(fT t).good) (hp:(fT t).plain = true) (hn:(fT t).size ≤ 1000000) (hl:L.length ≤ 549755813888):
  Cal Tryz.prog xE #[.agg #[v,sv r],sv t,va] w fun u w'=>Ext w w' ∧ ∃ x,u = .tuple #[x,.bool (aW L r t).2] ∧ ((aW L r t).2 = true → GlR w' x (aW L r t).1):=by
 apply LB;unfold xW
 refine iNew2 fun q w1 hq x1 hB=>?_
 refine iCall ((n5 (ha.ext x1) hg (by omega)).mono ?_)
 rintro u w2 ⟨x2,ho⟩
 have X2:=x1.trans x2
 have hB:=hB.ext x2
 refine iFld (j:=0) (ha.ext X2) rfl (fT t).size_pos (by decide) (aO ha).1 ?_
 cases e:fT t with
 | box a=>rw [e] at hp;cases hp
 | dia a=>rw [e] at hp;cases hp
 | var p=>
  refine iEq (iCndF rfl (iEq (iCndF rfl (iEq (iCndF rfl ?_)))))
  have hT:aW L r t = ([],false):=by unfold aW;rw [e]
  rw [hT]
  exact ⟨X2,_,rfl,fun h=>by cases h⟩
 | fls=>
  refine iEq (iCndF rfl (iEq (iCndF rfl (iEq (iCndF rfl ?_)))))
  have hT:aW L r t = ([],false):=by unfold aW;rw [e]
  rw [hT]
  exact ⟨X2,_,rfl,fun h=>by cases h⟩
 | and a b=>
  rw [e] at ho
  refine iEq (iCndT rfl ?_)
  have hT:aW L r t = ([(ins L t [a.body,b.body],r)],true):=by unfold aW;rw [e]
  rw [hT]
  refine iLd2 hB ?_
  refine iCall ((aN (ts:=[a.body,b.body]) (hv.ext X2) ho (by simp only [List.length_cons,List.length_nil];omega)).mono ?_)
  rintro u w3 ⟨x3,v',rfl,ho3⟩
  refine iBsA fun b4 w4 hb4 x4 hB4=>?_
  exact ⟨(X2.trans x3).trans x4,_,rfl,fun _=>GlR.one (p:=(_,r)) hB4 (ho3.ext x4)⟩
 | imp a b=>
  refine iEq (iCndF rfl (iEq (iCndF rfl (iEq (iCndT rfl ?_)))))
  refine iLd2 hB ?_
  rw [e] at hg hp hn ha
  intro w3 x3
  have X3:=X2.trans x3
  refine iCall ((aM (f:=.imp a b) (ha.ext X3) rfl (by omega)).mono ?_)
  rintro u1 w4 ⟨x4,hu1⟩
  refine ⟨x4,fun w5 x5=>?_⟩
  have X5:=(X3.trans x4).trans x5
  refine iCall ((aS (f:=.imp a b) (ha.ext X5) rfl (by omega)).mono ?_)
  rintro u2 w6 ⟨x6,hu2⟩
  refine ⟨x6,fun w7 x7=>?_⟩
  have X7:=(X5.trans x6).trans x7
  refine iCall ((F5 (hv.ext X7) (hu1.ext ((x5.trans x6).trans x7)) (hu2.ext x7) e hg.1 hg.2 (cM hp).1 hn hl).mono ?_)
  rintro u3 w8 ⟨x8,x,rfl,hx⟩
  refine iE20 (iE21 ?_)
  intro w9 x9
  exact ⟨(X7.trans x8).trans x9,x,rfl,fun h=>(hx h).ext x9⟩
 | or a b=>
  rw [e] at ho
  refine iEq (iCndF rfl (iEq (iCndT rfl ?_)))
  have hT:aW L r t = ([(ins L t [a.body],r),(ins L t [b.body],r)],true):=by unfold aW;rw [e]
  rw [hT]
  refine iLd2 hB ?_
  refine iIaG (L:=[a.body,b.body]) ho.sl (j:=0) rfl (by simp) ?_
  refine iLd2 hB ?_
  refine iIaG (L:=[a.body,b.body]) ho.sl (j:=1) rfl (by simp) ?_
  show ∀ w5,Ext w2 w5 → _
  have fin:∀ {w':World} {u1 u2:Value} {bb:Nat} {e:TypeId},Blk e w' bb [u1,sv r,u2,sv r] → TxW 0 w' u1 (ins L t [a.body]) → TxW 0 w' u2 (ins L t [b.body]) → GlR w' (.slice (some ⟨bb,0,none⟩) 2 2) [(ins L t [a.body],r),(ins L t [b.body],r)]:=fun h k l=>GlR.two (p:=(_,r)) (q:=(_,r)) h k l
  have row:∀ {w':World} {e:Nat} {s:Str},Blk aD w' e [sv s] → TxW 0 w' (.slice (some ⟨e,0,none⟩) 1 1) [s]:=fun h=>Ow.ofBlk (n:=1) h (Nat.zero_le _) rfl (by decide)
  have hl1:∀ s:Str,L.length + [s].length ≤ 1099511627776:=fun s=>by simp only [List.length_singleton];omega
  intro w5 x5
  have X5:=X2.trans x5
  refine ⟨?_,?_⟩
  ·refine iBs1 rfl rfl fun b1 w6 hb6 x6 hB6=>⟨x6,fun w7 x7=>⟨?_,?_⟩⟩
   ·have X7:=X5.trans (x6.trans x7)
    refine iCall ((aN (ts:=[a.body]) (hv.ext X7) (row (hB6.ext x7)) (hl1 _)).mono ?_)
    rintro u w8 ⟨x8,v',rfl,ho8⟩
    refine ⟨x8,fun w9 x9=>?_⟩
    refine iBs1 rfl rfl fun b2 w10 hb10 x10 hB10=>⟨x10,fun w11 x11=>?_⟩
    have y11:=(x9.trans x10).trans x11
    have X11:=(X7.trans x8).trans y11
    refine iCall ((aN (ts:=[b.body]) (hv.ext X11) (row (hB10.ext x11)) (hl1 _)).mono ?_)
    rintro u w12 ⟨x12,v'',rfl,ho12⟩
    intro w13 x13
    refine iBsA2 fun b3 w14 hb14 x14 hB14=>fun w15 x15=>?_
    have y15:=(x13.trans x14).trans x15
    exact ⟨(X11.trans x12).trans y15,_,rfl,fun _=>fin (hB14.ext x15) ((ho8.ext ((y11.trans x12).trans y15)).mono (Nat.zero_le _)) ((ho12.ext y15).mono (Nat.zero_le _))⟩
   ·refine iBs1 rfl rfl fun b2 w8 hb8 x8 hB8=>⟨x8,fun w9 x9=>?_⟩
    have X9:=(X5.trans (x6.trans x7)).trans (x8.trans x9)
    refine iCall ((aN (ts:=[a.body]) (hv.ext X9) (row (hB6.ext (x7.trans (x8.trans x9)))) (hl1 _)).mono ?_)
    rintro u w10 ⟨x10,v',rfl,ho10⟩
    refine ⟨x10,fun w11 x11=>?_⟩
    have X11:=(X9.trans x10).trans x11
    refine iCall ((aN (ts:=[b.body]) (hv.ext X11) (row (hB8.ext (x9.trans (x10.trans x11)))) (hl1 _)).mono ?_)
    rintro u w12 ⟨x12,v'',rfl,ho12⟩
    intro w13 x13
    refine iBsA2 fun b3 w14 hb14 x14 hB14=>fun w15 x15=>?_
    have y15:=(x13.trans x14).trans x15
    exact ⟨(X11.trans x12).trans y15,_,rfl,fun _=>fin (hB14.ext x15) ((ho10.ext ((x11.trans x12).trans y15)).mono (Nat.zero_le _)) ((ho12.ext y15).mono (Nat.zero_le _))⟩
  ·refine iBs1 rfl rfl fun b1 w6 hb6 x6 hB6=>⟨x6,fun w7 x7=>?_⟩
   refine iBs1 rfl rfl fun b2 w8 hb8 x8 hB8=>⟨x8,fun w9 x9=>?_⟩
   have X9:=(X5.trans (x6.trans x7)).trans (x8.trans x9)
   refine iCall ((aN (ts:=[a.body]) (hv.ext X9) (row (hB8.ext x9)) (hl1 _)).mono ?_)
   rintro u w10 ⟨x10,v',rfl,ho10⟩
   refine ⟨x10,fun w11 x11=>?_⟩
   have X11:=(X9.trans x10).trans x11
   refine iCall ((aN (ts:=[b.body]) (hv.ext X11) (row (hB6.ext (x7.trans ((x8.trans x9).trans (x10.trans x11))))) (hl1 _)).mono ?_)
   rintro u w12 ⟨x12,v'',rfl,ho12⟩
   intro w13 x13
   refine iBsA2 fun b3 w14 hb14 x14 hB14=>fun w15 x15=>?_
   have y15:=(x13.trans x14).trans x15
   exact ⟨(X11.trans x12).trans y15,_,rfl,fun _=>fin (hB14.ext x15) ((ho10.ext ((x11.trans x12).trans y15)).mono (Nat.zero_le _)) ((ho12.ext y15).mono (Nat.zero_le _))⟩
end Go.Proofs.YtbfpohbmgjcjmaaGreatDoor

namespace Go.Vc
theorem SlK.tr {Q:Str → Value → Prop} {k mb:Nat} {w w':World} {v:Value} {n:Nat} {xs:List Value} (h:SlK k w v n xs) (hm:MapB Q w mb) (hc:Ch (fun c=>c = mb) w w'):SlK k w' v n xs:=by
 obtain ⟨h0,a,c,hv,h2,h3,h4⟩:=h
 obtain ⟨es,clock,hb,_⟩:=hm
 refine ⟨h0,a,c,hv,h2,h3,?_⟩
 rcases h4 with rfl | ⟨b,o,ha,hcell⟩
 ·exact .inl rfl
 ·refine .inr ⟨b,o,ha,fun i hi=>?_⟩
  have h5:=hcell i hi
  rw [List.getElem?_eq_getElem (by omega)] at h5 ⊢
  have hne:b ≠ mb:=by
   rintro rfl
   simp only [World.cell?,hb] at h5
   cases h5
  have hlt:b < w.heap.size:=by
   rcases Nat.lt_or_ge b w.heap.size with h | h
   ·exact h
   ·simp only [World.cell?,Array.getElem?_eq_none h] at h5
    cases h5
  simp only [World.cell?] at h5 ⊢
  rw [hc.block b hlt hne]
  exact h5
def DQ (Q:Str → Value → Prop) (mb:Nat) (w:World) (b:Bool) (v:Value) (w':World):Prop:=v = .bool b ∧ MapB Q w' mb ∧ Ch (fun c=>c = mb) w w'
theorem DQ.ext {Q:Str → Value → Prop} {mb:Nat} {w0 w w1 w2:World} {b:Bool} {v:Value} (h:DQ Q mb w b v w1) (x:Ext w0 w) (y:Ext w1 w2):DQ Q mb w0 b v w2:=
 ⟨h.1,h.2.1.ext y,((x.ch (S:=fun c=>c = mb)).trans h.2.2 fun _ e=>.inl e).trans (y.ch (S:=fun _=>False)) fun _ e=>e.elim⟩
theorem DQ.thenCh {Q:Str → Value → Prop} {mb:Nat} {w0 w w1:World} {b:Bool} {v:Value} (h:DQ Q mb w b v w1) (x:Ch (fun c=>c = mb) w0 w):DQ Q mb w0 b v w1:=
 ⟨h.1,h.2.1,x.trans h.2.2 fun _ e=>.inl e⟩
theorem DQ.val {Q:Str → Value → Prop} {mb:Nat} {w w1:World} {b b':Bool} {v:Value} (h:DQ Q mb w b v w1) (e:b = b'):DQ Q mb w b' v w1:=e ▸ h
theorem KE {mb:Nat} {w0 w w1:World} (x:Ext w0 w) (h:Ch (fun c=>c = mb) w w1):Ch (fun c=>c = mb) w0 w1:=(x.ch (S:=fun c=>c = mb)).trans h fun _ e=>.inl e
def KnQ (k:Str) (v:Value):Prop:=∃ L r,k = keyT L r ∧ (∀ t ∈ L,GT t) ∧ GT r ∧ v = .bool (vB L r)
end Go.Vc
namespace Go.Proofs.YtbfpohbmgjcjmaaGreatDoor
open Go.Vc
theorem TxW.tr {Q:Str → Value → Prop} {lo mb:Nat} {w w':World} {v:Value} {L:List Str} (h:TxW lo w v L) (hm:MapB Q w mb) (hc:Ch (fun c=>c = mb) w w'):TxW lo w' v L:=h.ch hc (hm.ne_ow h.toK)
theorem MJ {Q:Str → Value → Prop} {x fv:Value} {ps:List Sq} {mb:Nat} {w:World} (B:Nat → Bool) (hm:MapB Q w mb) (hx:GlR w x ps)
  (hf:∀ i p,ps[i]? = some p → ∀ w',MapB Q w' mb → Ch (fun c=>c = mb) w w' → ∀ v,TxW 0 w' v p.1 → callV Tryz.prog fv [.agg #[v,sv p.2]] w' (DQ Q mb w' (B i))):
  Cal Tryz.prog cZ #[x,fv] w fun u w'=>∃ b,DQ Q mb w b u w' ∧ (b = true ↔ ∃ i,i < ps.length ∧ B i = true):=by
 apply jN;unfold dE
 have hx0:=hx
 obtain ⟨xs,hs,hps⟩:=hx
 have hln:=hs.len
 refine iCall (Cal.mono (R:=fun r w'=>∃ z:Int,r = .int .i64 z ∧ (0 ≤ z ↔ ∃ i,i < ps.length ∧ B i = true) ∧ MapB Q w' mb ∧ Ch (fun c=>c = mb) w w') ?_ ?_)
 ·apply kU;unfold d9
  refine iLenK hs ?_
  refine iLp (fun i:Nat=>[.int .i64 (i:Int)]) (fun i w'=>i ≤ ps.length ∧ MapB Q w' mb ∧ Ch (fun c=>c = mb) w w' ∧ ∀ j,j < i → B j = false) (fun i=>ps.length - i) 0 rfl ⟨Nat.zero_le _,hm,(Ext.refl w).ch,fun j hj=>by omega⟩ ?_
  rintro i w2 Kn ⟨hi,hm2,hc2,hno⟩ hKn
  intro _
  simp only [gx]
  refine iLt ?_
  refine iCndP (fun h=>?_) (fun h=>?_)
  ·have hil:i < ps.length:=by omega
   obtain ⟨v,h1,h2,h3⟩:=hps i ps[i] (List.getElem?_eq_getElem hil)
   refine iLdK (cs:=#[v,sv (ps[i]).2]) (hs.tr hm hc2) rfl hil rfl (fun j hj=>?_) ?_
   ·rcases j with _ | _ | j
    ·exact h1
    ·exact h2
    ·omega
   refine (hf i ps[i] (List.getElem?_eq_getElem hil) w2 hm2 hc2 v (TxW.tr h3 hm hc2)).mono ?_
   rintro u w3 ⟨rfl,hm3,hc3⟩
   have hc3:=hc2.trans hc3 fun _ e=>.inl e
   refine iCnd (fun h3=>?_) (fun h3=>?_)
   ·exact ⟨_,rfl,⟨fun _=>⟨i,hil,h3⟩,fun _=>by omega⟩,hm3,hc3⟩
   ·refine iAdd (by omega) ?_
    refine hKn (i + 1) _ ⟨by omega,hm3,hc3,fun j hj=>?_⟩ (by omega)
    by_cases hji:j = i
    ·subst hji;exact h3
    ·exact hno j (by omega)
  ·refine ⟨-1,by first | trivial | rfl,⟨fun h=>by omega,fun ⟨j,hj,hB⟩=>?_⟩,hm2,hc2⟩
   rw [hno j (by omega)] at hB;cases hB
 ·rintro r w1 ⟨z,rfl,hz,hm1,hc1⟩
  refine iLe ?_
  exact ⟨_,⟨rfl,hm1,hc1⟩,by rw [decide_eq_true_eq];exact hz⟩
theorem xO {Q:Str → Value → Prop} {x fv:Value} {L:List Str} {mb lo:Nat} {w:World} (B:Nat → Bool) (hm:MapB Q w mb) (hx:TxW lo w x L)
  (hf:∀ i,i < L.length → ∀ w',MapB Q w' mb → Ch (fun c=>c = mb) w w' → callV Tryz.prog fv [sv (gt L i)] w' (DQ Q mb w' (B i))):
  Cal Tryz.prog eV #[x,fv] w fun u w'=>∃ b,DQ Q mb w b u w' ∧ (b = true ↔ ∃ i,i < L.length ∧ B i = true):=by
 apply mS;unfold eP
 have hln:=hx.sl.len
 rw [cB] at hln
 refine iCall (Cal.mono (R:=fun r w'=>∃ z:Int,r = .int .i64 z ∧ (0 ≤ z ↔ ∃ i,i < L.length ∧ B i = true) ∧ MapB Q w' mb ∧ Ch (fun c=>c = mb) w w') ?_ ?_)
 ·apply f4;unfold cR
  refine fI hx.sl ?_
  refine iLp (fun i:Nat=>[.int .i64 (i:Int)]) (fun i w'=>i ≤ L.length ∧ MapB Q w' mb ∧ Ch (fun c=>c = mb) w w' ∧ ∀ j,j < i → B j = false) (fun i=>L.length - i) 0 rfl ⟨Nat.zero_le _,hm,(Ext.refl w).ch,fun j hj=>by omega⟩ ?_
  rintro i w2 Kn ⟨hi,hm2,hc2,hno⟩ hKn
  intro _
  simp only [gx]
  refine iLt ?_
  refine iCndP (fun h=>?_) (fun h=>?_)
  ·have hil:i < L.length:=by omega
   refine iIaG (TxW.tr hx hm hc2).sl rfl hil ?_
   refine (hf i hil w2 hm2 hc2).mono ?_
   rintro u w3 ⟨rfl,hm3,hc3⟩
   have hc3:=hc2.trans hc3 fun _ e=>.inl e
   refine iCnd (fun h3=>?_) (fun h3=>?_)
   ·exact ⟨_,rfl,⟨fun _=>⟨i,hil,h3⟩,fun _=>by omega⟩,hm3,hc3⟩
   ·refine iAdd (by omega) ?_
    refine hKn (i + 1) _ ⟨by omega,hm3,hc3,fun j hj=>?_⟩ (by omega)
    by_cases hji:j = i
    ·subst hji;exact h3
    ·exact hno j (by omega)
  ·refine ⟨-1,by first | trivial | rfl,⟨fun h=>by omega,fun ⟨j,hj,hB⟩=>?_⟩,hm2,hc2⟩
   rw [hno j (by omega)] at hB;cases hB
 ·rintro r w1 ⟨z,rfl,hz,hm1,hc1⟩
  refine iLe ?_
  exact ⟨_,⟨rfl,hm1,hc1⟩,by rw [decide_eq_true_eq];exact hz⟩
structure Dec (w:World) (db mb:Nat):Prop where
 blk:Blk 161 w db [.map (some mb)]
 map:MapB KnQ w mb
theorem Dec.ext {w w':World} {db mb:Nat} (h:Dec w db mb) (x:Ext w w'):Dec w' db mb:=⟨h.blk.ext x,h.map.ext x⟩
theorem Dec.tr {w w':World} {db mb:Nat} (h:Dec w db mb) (hm:MapB KnQ w' mb) (hc:Ch (fun c=>c = mb) w w'):Dec w' db mb:=⟨h.blk.ch hc (h.map.ne_blk h.blk),hm⟩
abbrev dp (db:Nat):Value:=.pointer (some ⟨db,0,none⟩)
def Pv (db mb:Nat) (L:List Str) (r:Str):Prop:=∀ (w:World) (v:Value),Dec w db mb → TxW 0 w v L → Cal Tryz.prog qI #[dp db,.agg #[v,sv r]] w (DQ KnQ mb w (vB L r))
theorem u_kn:Tryz.prog.underlying 159 = some (.map 9 4):=by kernel_rfl
theorem u_kns:Tryz.prog.underlying 9 = some .string:=by kernel_rfl
theorem z_kn:(Tryz.prog.info? 4).map (fun i=>i.zero) = some (some (.bool false)):=by kernel_rfl
theorem ZU (w:World):(zeroValue 4).run Tryz.prog w = .ok (.bool false) w:=by
 obtain ⟨i,hi,hz⟩:=Option.map_eq_some_iff.1 z_kn
 simp [zeroValue,kE hi,hz]
theorem sQ {db mb:Nat} {x:Value} {ps:List Sq} {w:World} (hD:Dec w db mb) (hx:GlR w x ps) (IH:∀ p ∈ ps,Pv db mb p.1 p.2):
  Cal Tryz.prog vF #[dp db,x] w fun u w'=>∃ b,DQ KnQ mb w b u w' ∧ (b = true ↔ ∀ p ∈ ps,VT p.1 p.2):=by
 apply JZ;unfold uZ
 refine iNew fun q w1 hq x1 hB=>?_
 have hD1:=hD.ext x1
 refine iCall ((MJ (B:=fun i=>!(match ps[i]? with | some p=>vB p.1 p.2 | none=>true)) hD1.map (hx.ext x1) fun i p hp w' hm' hc' v hv=>(iClo rfl ?_)).mono ?_)
 ·show Cal Tryz.prog rD #[.agg #[v,sv p.2],.pointer (some ⟨q,0,none⟩)] w' _
  apply GB;unfold rP
  refine iNew2 fun q2 w2 hq2 x2 hB2=>?_
  have hB':Blk 138 w2 q [dp db]:=(hB.ch hc' (hD1.map.ne_blk hB)).ext x2
  refine iLdB hB' rfl ?_
  refine iLd2 hB2 ?_
  refine iCall ((IH p (List.mem_of_getElem? hp) w2 v ((hD1.tr hm' hc').ext x2) (hv.ext x2)).mono ?_)
  rintro u w3 h3
  obtain ⟨rfl,-,-⟩:=id h3
  refine iNot ?_
  rw [hp]
  exact ⟨rfl,(h3.ext x2 (Ext.refl _)).2⟩
 ·rintro u w2 ⟨b,h2,hb⟩
  obtain ⟨rfl,-,-⟩:=id h2
  refine iNot ⟨!b,⟨rfl,(h2.ext x1 (Ext.refl _)).2⟩,?_⟩
  rw [Bool.not_eq_true',Bool.eq_false_iff,Ne,hb]
  constructor
  ·intro h p hp
   obtain ⟨i,hi,rfl⟩:=List.getElem_of_mem hp
   refine Classical.byContradiction fun hn=>h ⟨i,hi,?_⟩
   rw [List.getElem?_eq_getElem hi]
   simp only [Bool.not_eq_true']
   exact MS.2 hn
  ·rintro h ⟨i,hi,hB⟩
   rw [List.getElem?_eq_getElem hi] at hB
   simp only [Bool.not_eq_true'] at hB
   exact MS.1 hB (h _ (List.getElem_mem _))
theorem CZ {db mb:Nat} {v vc:Value} {L:List Str} {r:Str} {w:World} (hD:Dec w db mb) (hv:TxW 0 w v L) (hc:FmS w vc (fT r)) (h:SqT L r) (IH:∀ L' r',SqT L' r' → mT L' + wT r' < mT L + wT r → Pv db mb L' r')
  (hr:¬ r ∈ L) (hf:¬ Fm.fls.body ∈ L) (hno:∀ t ∈ L,(aW L r t).2 = false) (hr2:∀ a b,fT r ≠ .and a b ∧ fT r ≠ .imp a b):
  Cal Tryz.prog rO #[dp db,.agg #[v,sv r],vc] w (DQ KnQ mb w (vB L r)):=by
 apply F7;unfold q9
 refine iNew fun q w1 hq x1 hB=>?_
 refine iNew2 fun q2 w2 hq2 x2 hB2=>?_
 have X2:=x1.trans x2
 have hB:Blk 138 w2 q [dp db]:=hB.ext x2
 have hD2:=hD.ext X2
 have hv2:TxW 0 w2 v L:=hv.ext X2
 obtain ⟨hrg,hrp,hrb⟩:=h.right.at
 have hsz:=Fm.wt_size hrp
 have hwr:=h.wt_right
 have hll:=WD L
 have hsm:=h.small
 refine iJnX (fun xs w'=>∃ b,xs = [.bool b] ∧ MapB KnQ w' mb ∧ Ch (fun c=>c = mb) w2 w' ∧ (b = true ↔ ∃ a c,fT r = .or a c ∧ (VT L a.body ∨ VT L c.body))) (fun J hJ=>?_) ?_
 ·refine iFld (j:=0) (hc.ext X2) rfl (fT r).size_pos (by decide) (aO hc).1 ?_
  refine iEq ?_
  refine iCndP (fun hk=>?_) (fun hk=>?_)
  ·obtain ⟨a,c,e⟩:∃ a c,fT r = .or a c:=by
    cases e:fT r <;> rw [e] at hk <;> simp [Fm.kind] at hk
    exact ⟨_,_,rfl⟩
   refine iCall ((n5 (hc.ext X2) hrg (by omega)).mono ?_)
   rintro u w5 ⟨x5,ho⟩
   rw [e] at ho
   have hD5:=hD2.ext x5
   have hw:=wT_of e
   have hlo:=lt_or a c
   have hga:a.good ∧ c.good:=by rw [e] at hrg;exact hrg
   have hpa:=F0 (by rw [e] at hrp;exact hrp)
   have wa:=cO hga.1
   have wc:=cO hga.2
   have a2:=a.w2_ge
   have c2:=c.w2_ge
   refine iCall ((xO (L:=[a.body,c.body]) (B:=fun i=>vB L (gt [a.body,c.body] i)) hD5.map ho fun i hi w' hm' hc'=>(iClo rfl ?_)).mono ?_)
   ·show Cal Tryz.prog oQ #[sv (gt [a.body,c.body] i),.pointer (some ⟨q,0,none⟩),.pointer (some ⟨q2,0,none⟩)] w' _
    apply CG;unfold oZ
    have hB':Blk 138 w' q [dp db]:=(hB.ext x5).ch hc' (hD5.map.ne_blk (hB.ext x5))
    have hB2':Blk 165 w' q2 [v,sv r]:=(hB2.ext x5).ch hc' (hD5.map.ne_blk (hB2.ext x5))
    refine iLdB hB' rfl ?_
    refine iLd2 hB2' ?_
    intro w6 x6
    refine iRet (dW hv.cell) fun w7 x7=>⟨x7,fun w8 x8=>?_⟩
    have y:=x6.trans (x7.trans x8)
    have hsq:SqT L (gt [a.body,c.body] i) ∧ mT L + wT (gt [a.body,c.body] i) < mT L + wT r:=by
     have:i = 0 ∨ i = 1:=by simp at hi;omega
     rcases this with rfl | rfl
     ·exact ⟨⟨h.left,GT.of hga.1 hpa.1,by show mT L + wT a.body ≤ _;omega⟩,by show mT L + wT a.body < _;omega⟩
     ·exact ⟨⟨h.left,GT.of hga.2 hpa.2,by show mT L + wT c.body ≤ _;omega⟩,by show mT L + wT c.body < _;omega⟩
    refine iCall ((IH L _ hsq.1 hsq.2 w8 v ((hD5.tr hm' hc').ext y) ((TxW.tr (hv2.ext x5) hD5.map hc').ext y)).mono ?_)
    rintro u w9 h9
    intro w10 x10
    exact h9.ext y x10
   ·rintro u w6 ⟨b,h6,hb⟩
    obtain ⟨rfl,hm6,hc6⟩:=h6
    refine hJ _ _ ⟨b,rfl,hm6,KE x5 hc6,?_⟩
    rw [hb]
    constructor
    ·rintro ⟨i,hi,hB⟩
     have:i = 0 ∨ i = 1:=by simp at hi;omega
     rcases this with rfl | rfl
     ·exact ⟨a,c,e,.inl (fB.1 hB)⟩
     ·exact ⟨a,c,e,.inr (fB.1 hB)⟩
    ·rintro ⟨a',c',e',hV⟩
     rw [e] at e'
     cases e'
     rcases hV with hV | hV
     ·exact ⟨0,by simp,fB.2 hV⟩
     ·exact ⟨1,by simp,fB.2 hV⟩
  ·refine hJ _ _ ⟨false,rfl,hD2.map,(Ext.refl _).ch,⟨fun h=>(by cases h),fun ⟨a,c,e,_⟩=>?_⟩⟩
   rw [e] at hk
   exact absurd rfl hk
 ·rintro xs w4 ⟨b,rfl,hm4,hc4,hb⟩
  intro _
  simp only [gx]
  have hD4:=hD2.tr hm4 hc4
  cases b
  rotate_left
  ·refine iCndT rfl ⟨?_,hm4,KE X2 hc4⟩
   obtain ⟨a,c,e,hV⟩:=hb.1 rfl
   rw [fB.2 (VT.or h.right e hV)]
  refine iCndF rfl ?_
  have hB4:Blk 138 w4 q [dp db]:=hB.ch hc4 (hD2.map.ne_blk hB)
  have hB24:Blk 165 w4 q2 [v,sv r]:=hB2.ch hc4 (hD2.map.ne_blk hB2)
  have hv4:=TxW.tr hv2 hD2.map hc4
  refine iFa (iLdB hB24 rfl ?_)
  refine iCall ((xO (B:=fun i=>match oV L r (gt L i) with | some (p,q)=>vB p.1 p.2 && vB q.1 q.2 | none=>false) hm4 hv4 fun i hi w' hm' hc'=>(iClo rfl ?_)).mono ?_)
  ·show Cal Tryz.prog oL #[sv (gt L i),.pointer (some ⟨q,0,none⟩),.pointer (some ⟨q2,0,none⟩)] w' _
   apply CI;unfold oJ
   have hti:gt L i ∈ L:=by rw [gt_eq hi];exact List.getElem_mem _
   obtain ⟨htg,htp,htb⟩:=(h.left _ hti).at
   have htw:=h.wt_left hti
   have hts:=Fm.wt_size htp
   have htl:=N2 (h.left _ hti)
   refine iCall ((uT (by omega) w').mono ?_)
   rintro u w5 ⟨x5,ho5⟩
   have ho5:FmW w'.heap.size w5 u (fT (gt L i)):=ho5
   have hD':=hD4.tr hm' hc'
   have hB':Blk 138 w' q [dp db]:=hB4.ch hc' (hD4.map.ne_blk hB4)
   have hB2':Blk 165 w' q2 [v,sv r]:=hB24.ch hc' (hD4.map.ne_blk hB24)
   have hv':=TxW.tr hv4 hD4.map hc'
   cases hn:oV L r (gt L i) with
   | none=>
    have hnx:¬ ∃ x y z,fT (gt L i) = .imp (.imp x y) z:=by
     rintro ⟨x,y,z,e⟩
     unfold oV at hn
     rw [e] at hn
     cases hn
    refine iJnB true w5 (fun J hJ=>?_) (fun w6 x6=>?_)
    ·refine iFld (j:=0) ho5.sl rfl (fT (gt L i)).size_pos (by decide) (aO ho5.sl).1 ?_
     refine iNe ?_
     refine iCndP (fun _=>hJ _ (Ext.refl _)) (fun hk=>?_)
     obtain ⟨x,z,e⟩:∃ x z,fT (gt L i) = .imp x z:=by
      cases e:fT (gt L i) <;> rw [e] at hk <;> simp [Fm.kind] at hk
      exact ⟨_,_,rfl⟩
     refine iCall ((aM (f:=fT (gt L i)) (g:=x) (gs:=[z]) ho5.sl (by rw [e];rfl) (by omega)).mono ?_)
     rintro u2 w6 ⟨x6,hu2⟩
     refine iFld (j:=0) hu2 rfl x.size_pos (by decide) (aO hu2).1 ?_
     refine iNe ?_
     rw [decide_eq_true (p:=¬ ((x.kind:Int) = 4)) (fun hk2=>?_)]
     ·exact hJ _ x6
     ·cases x <;> simp [Fm.kind] at hk2
      exact hnx ⟨_,_,_,e⟩
    ·intro _
     simp only [gx]
     refine iCndT rfl ⟨rfl,hm'.ext (x5.trans x6),(x5.trans x6).ch⟩
   | some pq=>
    obtain ⟨p,s⟩:=pq
    obtain ⟨⟨sp,lp⟩,⟨ss,ls⟩,-,-⟩:=KC h hti hn
    obtain ⟨x,y,z,e,hpq⟩:∃ x y z,fT (gt L i) = .imp (.imp x y) z ∧ ((ins L (gt L i) [(Fm.imp y z).body],(Fm.imp x y).body),(ins L (gt L i) [z.body],r)) = (p,s):=by
     unfold oV at hn
     split at hn
     ·rename_i x y z e
      exact ⟨x,y,z,e,Option.some.inj hn⟩
     ·cases hn
    simp only [Prod.mk.injEq] at hpq
    obtain ⟨rfl,rfl⟩:=hpq
    rw [e] at htg htp hts htw
    simp only [Fm.size] at hts
    refine iJnB false w5 (fun J hJ=>?_) (fun w6 x6=>?_)
    ·refine iFld (j:=0) ho5.sl rfl (fT (gt L i)).size_pos (by decide) (aO ho5.sl).1 ?_
     rw [e]
     refine iNe (iCndF rfl ?_)
     refine iCall ((aM (f:=fT (gt L i)) (g:=.imp x y) (gs:=[z]) ho5.sl (by rw [e];rfl) (by rw [e];simp only [Fm.size];omega)).mono ?_)
     rintro u2 w6 ⟨x6,hu2⟩
     refine iFld (j:=0) hu2 rfl (Fm.imp x y).size_pos (by decide) (aO hu2).1 ?_
     refine iNe ?_
     exact hJ _ x6
    intro _
    simp only [gx]
    refine iCndF rfl ?_
    rw [e] at ho5
    refine iCall ((aM (f:=.imp (.imp x y) z) (OwK.sl (OwK.ext ho5 x6)) rfl (by simp only [Fm.size];omega)).mono ?_)
    rintro ux w7 ⟨x7,hux⟩
    refine iCall ((aS (f:=.imp (.imp x y) z) (OwK.sl (OwK.ext ho5 (x6.trans x7))) rfl (by simp only [Fm.size];omega)).mono ?_)
    rintro uz w8 ⟨x8,huz⟩
    have hux:=hux.ext x8
    have X8:Ext w' w8:=x5.trans ((x6.trans x7).trans x8)
    refine iJnX (fun xs w9=>∃ b,xs = [.bool b] ∧ b = (vB (ins L (gt L i) [(Fm.imp y z).body]) (Fm.imp x y).body && vB (ins L (gt L i) [z.body]) r) ∧ MapB KnQ w9 mb ∧ Ch (fun c=>c = mb) w' w9) (fun J hJ=>?_) ?_
    ·refine iLdB (hB'.ext X8) rfl ?_
     refine iLd2 (hB2'.ext X8) ?_
     intro w9 x9
     refine iCall ((aS (f:=.imp x y) (hux.ext x9) rfl (by simp only [Fm.size];omega)).mono ?_)
     rintro uy w10 ⟨x10,huy⟩
     refine ⟨x10,fun w11 x11=>?_⟩
     have y11:=x9.trans (x10.trans x11)
     refine iBs2 rfl (SlK.cellOk huy) (SlK.cellOk huz) fun b1 w12 hb12 x12 hB12=>⟨x12,fun w13 x13=>?_⟩
     have y13:=y11.trans (x12.trans x13)
     refine iCall ((uQ (a:=y) (b:=z) (Sl.ofBlk (n:=2) (hB12.ext x13) rfl (by decide)) (huy.ext (x11.trans (x12.trans x13))) (huz.ext y13) (by simp only [Fm.size];omega)).mono ?_)
     rintro u3 w14 ⟨x14,ho14⟩
     refine ⟨x14,?_⟩
     refine iRetQ (fun w'' x'=>bS (f:=.imp y z) (OwK.sl (OwK.ext ho14 x')) ⟨htg.1.2,htg.2⟩ (by simp only [Fm.size];omega)) ?_
     intro w15 x15
     refine iBs1 rfl rfl fun b2 w16 hb16 x16 hB16=>⟨x16,fun w17 x17=>?_⟩
     have y17:=y13.trans (x14.trans (x15.trans (x16.trans x17)))
     have X17:=X8.trans y17
     refine iCall ((aN (ts:=[(Fm.imp y z).body]) (hv'.ext X17) (Ow.ofBlk (lo:=0) (n:=1) (hB16.ext x17) (Nat.zero_le _) rfl (by decide)) (by simp only [List.length_singleton];omega)).mono ?_)
     rintro u4 w18 ⟨x18,v4,rfl,ho18⟩
     refine ⟨x18,?_⟩
     refine iRetQ (fun w'' x'=>bS (f:=.imp x y) ((hux.ext (y17.trans x18)).ext x') htg.1 (by simp only [Fm.size];omega)) ?_
     intro w19 x19
     refine iRet (dW ho18.cell) fun w20 x20=>⟨x20,fun w21 x21=>?_⟩
     have y21:=x19.trans (x20.trans x21)
     have X21:=(X17.trans x18).trans y21
     refine iCall ((IH _ _ sp lp w21 v4 (hD'.ext X21) ((ho18.ext y21).mono (Nat.zero_le _))).mono ?_)
     rintro u5 w22 h22
     obtain ⟨rfl,hm22,hc22⟩:=id h22
     have hD22:=(hD'.ext X21).tr hm22 hc22
     have hm21:=hm'.ext X21
     have tb:∀ {e:TypeId} {q:Nat} {cs:List Value},Blk e w' q cs → Blk e w22 q cs:=fun hq=>(hq.ext X21).ch hc22 (hm21.ne_blk (hq.ext X21))
     refine iCnd (fun hb=>?_) (fun hb=>?_)
     ·refine iLdB (tb hB') rfl ?_
      refine iLd2 (tb hB2') ?_
      have huz22:FmS w22 uz z:=SlK.tr (huz.ext ((y17.trans x18).trans y21)) hm21 hc22
      refine iRetQ (fun w'' x'=>bS (f:=z) (huz22.ext x') htg.2 (by omega)) ?_
      intro w23 x23
      refine iBs1 rfl rfl fun b3 w24 hb24 x24 hB24=>⟨x24,fun w25 x25=>?_⟩
      have y25:=x23.trans (x24.trans x25)
      have hv25:=(TxW.tr (hv'.ext X21) hm21 hc22).ext y25
      refine iCall ((aN (ts:=[z.body]) hv25 (Ow.ofBlk (lo:=0) (n:=1) (hB24.ext x25) (Nat.zero_le _) rfl (by decide)) (by simp only [List.length_singleton];omega)).mono ?_)
      rintro u6 w26 ⟨x26,v6,rfl,ho26⟩
      refine ⟨x26,fun w27 x27=>?_⟩
      have y27:=y25.trans (x26.trans x27)
      refine iCall ((IH _ _ ss ls w27 v6 (hD22.ext y27) ((ho26.ext x27).mono (Nat.zero_le _))).mono ?_)
      rintro u7 w28 h28
      intro w29 x29
      obtain ⟨rfl,hm29,hc29⟩:=(h28.ext y27 x29).thenCh (h22.ext X21 (Ext.refl _)).2.2
      exact hJ _ _ ⟨_,rfl,by rw [hb,Bool.true_and],hm29,hc29⟩
     ·intro w23 x23 w24 x24 w25 x25 w26 x26
      have h26:=h22.ext X21 (x23.trans (x24.trans (x25.trans x26)))
      exact hJ _ _ ⟨false,rfl,by rw [hb,Bool.false_and],h26.2.1,h26.2.2⟩
    ·rintro xs w9 ⟨b,rfl,hb,hm9,hc9⟩
     intro _
     simp only [gx]
     exact ⟨by rw [hb],hm9,hc9⟩
  ·rintro u w5 ⟨b,h5,hb5⟩
   refine (h5.thenCh (KE X2 hc4)).val ?_
   cases b
   ·refine (MS.2 (Z2 h hr hf hno hr2 (fun a c e=>?_) (fun t ht p s hn hV=>?_))).symm
    ·have hbb:=mt hb.2 (by decide)
     exact ⟨fun k=>hbb ⟨a,c,e,.inl k⟩,fun k=>hbb ⟨a,c,e,.inr k⟩⟩
    ·have hb5:=mt hb5.2 (by decide)
     obtain ⟨i,hi,rfl⟩:=List.getElem_of_mem ht
     refine hb5 ⟨i,hi,?_⟩
     rw [gt_eq hi,hn]
     simp only [Bool.and_eq_true]
     exact ⟨fB.2 hV.1,fB.2 hV.2⟩
   ·obtain ⟨i,hi,hBi⟩:=hb5.1 rfl
    have hti:gt L i ∈ L:=by rw [gt_eq hi];exact List.getElem_mem _
    split at hBi
    ·rename_i p s hn
     rw [Bool.and_eq_true] at hBi
     exact (fB.2 (((KC h hti hn).2.2.1 (fB.1 hBi.1)).1 (fB.1 hBi.2))).symm
    ·cases hBi
end Go.Proofs.YtbfpohbmgjcjmaaGreatDoor

namespace Go.Vc
theorem vB_of {b:Bool} {L:List Str} {r:Str} {ps:List Sq} (P:Prem L r ps) (hb:b = true ↔ ∀ p ∈ ps,VT p.1 p.2):b = vB L r:=
 Bool.eq_iff_iff.2 (hb.trans (P.iff.symm.trans fB.symm))
end Go.Vc
namespace Go.Proofs.YtbfpohbmgjcjmaaGreatDoor
open Go.Vc
theorem CB {db mb:Nat} {v:Value} {L:List Str} {r:Str} {w:World} (hD:Dec w db mb) (hv:TxW 0 w v L) (h:SqT L r) (IH:∀ L' r',SqT L' r' → mT L' + wT r' < mT L + wT r → Pv db mb L' r'):
  Cal Tryz.prog jI #[dp db,.agg #[v,sv r]] w (DQ KnQ mb w (vB L r)):=by
 apply DT;unfold qC
 refine iNew2 fun q w1 hq x1 hB=>?_
 have hv1:TxW 0 w1 v L:=hv.ext x1
 obtain ⟨hrg,hrp,hrb⟩:=h.right.at
 have hrs:=Fm.wt_size hrp
 have hrw:=h.wt_right
 have hrl:=N2 h.right
 have hll:=WD L
 have hsm:=h.small
 refine iJnB (decide (r ∈ L) || decide (Fm.fls.body ∈ L)) w1 (fun J hJ=>?_) (fun w3 x3=>?_)
 ·refine iFa (iLdB hB rfl ?_)
  refine iFa (iLdB hB rfl ?_)
  refine iRet (gX hv1.sl) fun w4 x4=>?_
  refine iCndP (fun hk=>?_) (fun hk=>?_)
  ·rw [decide_eq_true hk,Bool.true_or] at hJ;exact hJ _ x4
  ·rw [decide_eq_false hk,Bool.false_or] at hJ
   refine iFa (iLdB (hB.ext x4) rfl ?_)
   refine iRet (gX (t:=[70]) (hv1.ext x4).sl) fun w5 x5=>?_
   exact hJ _ (x4.trans x5)
 intro _
 simp only [gx]
 have X3:=x1.trans x3
 cases hb:decide (r ∈ L) || decide (Fm.fls.body ∈ L)
 rotate_left
 ·refine iCndT rfl ⟨?_,(hD.ext X3).map,X3.ch⟩
  rw [Bool.or_eq_true,decide_eq_true_eq,decide_eq_true_eq] at hb
  rw [fB.2 (VT.ax hb)]
 rw [Bool.or_eq_false_iff,decide_eq_false_iff_not,decide_eq_false_iff_not] at hb
 refine iCndF rfl ?_
 refine iFa (iLdB (hB.ext x3) rfl ?_)
 refine iCall ((uT (by omega) w3).mono ?_)
 rintro vc w6 ⟨x6,hc⟩
 have hc:FmW w3.heap.size w6 vc (fT r):=hc
 refine iCall ((n5 hc.sl hrg (by omega)).mono ?_)
 rintro vt w7 ⟨x7,ht⟩
 have X7:=X3.trans (x6.trans x7)
 have hB7:Blk 165 w7 q [v,sv r]:=hB.ext (x3.trans (x6.trans x7))
 have hv7:TxW 0 w7 v L:=hv.ext X7
 have hD7:=hD.ext X7
 have hc7:FmS w7 vc (fT r):=hc.sl.ext x7
 refine iFld (j:=0) hc7 rfl (fT r).size_pos (by decide) (aO hc7).1 ?_
 refine iEq (iCndP (fun hk=>?_) (fun hk=>?_))
 ·obtain ⟨a,b,e⟩:∃ a b,fT r = .and a b:=by
   cases e:fT r <;> rw [e] at hk <;> simp [Fm.kind] at hk
   exact ⟨_,_,rfl⟩
  rw [e] at ht
  have P:=XX h e
  refine iLd2 hB7 ?_
  refine iIaG (L:=[a.body,b.body]) ht.sl (j:=0) rfl (by simp) ?_
  refine iLd2 hB7 ?_
  refine iIaG (L:=[a.body,b.body]) ht.sl (j:=1) rfl (by simp) ?_
  show ∀ w8,Ext w7 w8 → _
  intro w8 x8
  refine iRet (dW (r':=a.body) hv.cell) fun w9 x9=>⟨x9,fun w10 x10=>?_⟩
  refine iRet (dW (r':=b.body) hv.cell) fun w11 x11=>?_
  intro w12 x12
  refine iBsA2 fun bb w13 hb13 x13 hB13=>fun w14 x14=>?_
  have y:=((x8.trans x9).trans (x10.trans x11)).trans (x12.trans (x13.trans x14))
  refine iCall ((sQ (hD7.ext y) (ps:=[(L,a.body),(L,b.body)]) (GlR.two (p:=(L,a.body)) (q:=(L,b.body)) (hB13.ext x14) (hv7.ext y) (hv7.ext y)) fun p hp=>IH _ _ (P.sq p hp) (P.lt p hp)).mono ?_)
  rintro u w15 ⟨b,h15,hb15⟩
  intro w16 x16
  exact (h15.ext (X7.trans y) x16).val (vB_of P hb15)
 refine iEq (iCndP (fun hk2=>?_) (fun hk2=>?_))
 ·obtain ⟨a,b,e⟩:∃ a b,fT r = .imp a b:=by
   cases e:fT r <;> rw [e] at hk2 <;> simp [Fm.kind] at hk2
   exact ⟨_,_,rfl⟩
  rw [e] at ht
  have P:=WK h e
  refine iLd2 hB7 ?_
  refine iIaG (L:=[a.body,b.body]) ht.sl (j:=0) rfl (by simp) ?_
  refine iIaG (L:=[a.body,b.body]) ht.sl (j:=1) rfl (by simp) ?_
  show ∀ w17,Ext w7 w17 → _
  intro w17 x17
  refine iBs1 rfl rfl fun bb w18 hb18 x18 hB18=>⟨x18,fun w19 x19=>?_⟩
  have y19:=x17.trans (x18.trans x19)
  refine iCall ((LE (ts:=[a.body]) (hv7.ext y19) (Ow.ofBlk (lo:=0) (n:=1) (hB18.ext x19) (Nat.zero_le _) rfl (by decide)) (by simp only [List.length_singleton];omega)).mono ?_)
  rintro u w20 ⟨x20,v',rfl,ho⟩
  refine ⟨x20,fun w21 x21=>?_⟩
  refine iRet (dW (r':=b.body) ho.cell) fun w22 x22=>?_
  intro w23 x23
  have y23:=x21.trans (x22.trans x23)
  have Y:=(X7.trans y19).trans (x20.trans y23)
  have psq:SqT (setT (L ++ [a.body])) b.body:=P.sq _ (List.mem_singleton_self _)
  have plt:mT (setT (L ++ [a.body])) + wT b.body < mT L + wT r:=P.lt _ (List.mem_singleton_self _)
  refine iCall ((IH _ _ psq plt w23 v' (hD.ext Y) ((ho.ext y23).mono (Nat.zero_le _))).mono ?_)
  rintro u w24 h24
  intro w25 x25
  refine (h24.ext Y x25).val (vB_of P ?_)
  simp only [List.mem_singleton,forall_eq]
  exact fB
 ·have hr2:∀ a b,fT r ≠ .and a b ∧ fT r ≠ .imp a b:=fun a b=>⟨fun e=>hk (by rw [e];rfl),fun e=>hk2 (by rw [e];rfl)⟩
  refine iFa (iLdB hB7 rfl ?_)
  refine fI hv7.sl ?_
  refine iLp (fun i:Nat=>[.int .i64 (i:Int)]) (fun i w'=>i ≤ L.length ∧ Ext w7 w' ∧ ∀ j,j < i → (aW L r (gt L j)).2 = false) (fun i=>L.length - i) 0 rfl ⟨Nat.zero_le _,Ext.refl _,fun j hj=>by omega⟩ ?_
  rintro i w8 Kn ⟨hi,x8,hno⟩ hKn
  intro _
  simp only [gx]
  have hv8:TxW 0 w8 v L:=hv7.ext x8
  have hB8:=hB7.ext x8
  refine iLt ?_
  refine iCndP (fun hlt=>?_) (fun hlt=>?_)
  ·have hil:i < L.length:=by omega
   have hti:gt L i ∈ L:=by rw [gt_eq hil];exact List.getElem_mem _
   obtain ⟨htg,htp,htb⟩:=(h.left _ hti).at
   have htw:=h.wt_left hti
   have hts:=Fm.wt_size htp
   have htl:=N2 (h.left _ hti)
   refine iIaG hv8.sl rfl hil ?_
   refine iLd2 hB8 ?_
   intro w9 x9
   refine iCall ((uT (t:=gt L i) (by omega) w9).mono ?_)
   rintro va w10 ⟨x10,ha⟩
   have ha:FmW w9.heap.size w10 va (fT (gt L i)):=ha
   refine ⟨x10,fun w11 x11=>?_⟩
   have y11:=x8.trans (x9.trans (x10.trans x11))
   refine iCall ((JO (hv7.ext y11) (ha.sl.ext x11) htg htp (by omega) (by omega)).mono ?_)
   rintro u w12 ⟨x12,x,rfl,hx⟩
   refine iE20 (iE21 ?_)
   intro w13 x13
   have y13:=y11.trans (x12.trans x13)
   refine iCnd (fun hk=>?_) (fun hk=>?_)
   ·have P:=YO h hti hk
    refine iCall ((sQ (hD7.ext y13) ((hx hk).ext x13) fun p hp=>IH _ _ (P.sq p hp) (P.lt p hp)).mono ?_)
    rintro u w14 ⟨b,h14,hb14⟩
    exact (h14.ext (X7.trans y13) (Ext.refl _)).val (vB_of P hb14)
   ·refine iAdd (by omega) ?_
    refine hKn (i + 1) _ ⟨hil,y13,fun j hj=>?_⟩ (by omega)
    by_cases hji:j = i
    ·subst hji;exact hk
    ·exact hno j (by omega)
  ·refine iLd2 hB8 ?_
   refine iCall ((CZ (hD7.ext x8) hv8 (hc7.ext x8) h IH hb.1 hb.2 (fun t ht=>?_) hr2).mono ?_)
   ·obtain ⟨j,hj,rfl⟩:=List.getElem_of_mem ht
    rw [← gt_eq hj]
    exact hno j (by omega)
   ·rintro u w9 h9
    exact h9.ext (X7.trans x8) (Ext.refl _)
theorem CL {db mb:Nat} {L:List Str} {r:Str} (h:SqT L r) (hd:∀ (w:World) (v:Value),Dec w db mb → TxW 0 w v L → Cal Tryz.prog jI #[dp db,.agg #[v,sv r]] w (DQ KnQ mb w (vB L r))):Pv db mb L r:=by
 intro w v hD hv
 apply DA;unfold qL
 have hkl:=VH h.left
 have hrl:=VF h.right
 have hsm:=h.small
 refine iNew2 fun q w1 hq x1 hB=>?_
 refine iFa (iLdB hB rfl ?_)
 refine iFa (iLdB hB rfl ?_)
 refine iBs1 rfl rfl fun b w2 hb x2 hB2=>?_
 refine f6 hv.cell rfl ?_
 have X2:=x1.trans x2
 refine iRet (JD (r:=r) (hv.ext X2).sl (Sl.ofBlk (n:=1) hB2 rfl (by decide)) (by omega)) fun w3 x3=>?_
 have X3:=X2.trans x3
 have hD3:=hD.ext X3
 refine iNil ?_
 refine iFa (iLdB hD3.blk rfl ?_)
 refine Y7 hD3.map u_kn u_kns ZU ?_ ?_
 ·refine iE20 (iE21 (iCndF rfl ?_))
  refine iLd2 (hB.ext (x2.trans x3)) ?_
  refine iCall ((hd w3 v hD3 (hv.ext X3)).mono ?_)
  rintro u w4 h4
  obtain ⟨rfl,hm4,hc4⟩:=id h4
  have hD4:=hD3.tr hm4 hc4
  refine iNil ?_
  refine iFa (iLdB hD4.blk rfl ?_)
  refine ZV hm4 u_kn u_kns ⟨L,r,rfl,h.left,h.right,rfl⟩ fun w5 hm5 hc5=>?_
  exact ⟨rfl,hm5,(KE X3 hc4).trans hc5 fun _ e=>.inl e⟩
 ·rintro u ⟨L',r',e,g1,g2,rfl⟩
  obtain ⟨rfl,rfl⟩:=TH h.left g1 h.right g2 e
  exact iE20 (iE21 (iCndT rfl ⟨rfl,hD3.map,X3.ch⟩))
theorem ok_Pv {db mb:Nat}:∀ (n:Nat) (L:List Str) (r:Str),SqT L r → mT L + wT r < n → Pv db mb L r:=by
 intro n
 induction n with
 | zero=>intro L r _ h;omega
 | succ n ih=>
  intro L r h hn
  exact CL h fun w v hD hv=>CB hD hv h fun L' r' h' hlt=>ih L' r' h' (by omega)
theorem IW (w:World):Cal Tryz.prog xI #[] w fun v w'=>Ext w w' ∧ ∃ db mb,v = dp db ∧ Dec w' db mb ∧ w.heap.size ≤ mb:=by
 apply KP;unfold yB
 refine YY (Q:=KnQ) fun b w1 hb x1 hm=>?_
 refine f8 (cs:=#[.map (some b)]) (by simp [Instr.fill,Value.cells]) ?_
 refine iNew fun q w2 hq x2 hB=>?_
 exact ⟨x1.trans x2,q,b,rfl,⟨by simpa [Value.cells] using hB,hm.ext x2⟩,by omega⟩
theorem M0 {v:Value} {L:List Str} {r:Str} {w:World} (hv:TxW 0 w v L) (h:SqT (setT L) r) (hl:L.length ≤ 549755813888):Ret Tryz.prog BE #[v,sv r] w (.bool (vB (setT L) r)):=by
 apply OV;unfold BA
 refine iCall ((IW w).mono ?_)
 rintro d w1 ⟨x1,db,mb,rfl,hD,hmb⟩
 refine iCall (Cal.mono (R:=DQ KnQ mb w1 (vB (setT L) r)) ?_ ?_)
 ·show Cal Tryz.prog nL #[dp db,v,sv r] w1 _
  apply AU;unfold nI
  refine iCall ((CQ (A:=L) (B:=[]) (hv.ext x1).sl (Sl.nil w1) hv.cell rfl (by simp only [List.length_nil];omega)).mono ?_)
  rintro u w2 ⟨x2,ho⟩
  rw [List.append_nil] at ho
  refine f6 ho.cell rfl ?_
  refine iCall ((ok_Pv _ _ _ h (Nat.lt_succ_self _) w2 u (hD.ext x2) (ho.mono (Nat.zero_le _))).mono ?_)
  rintro u w3 h3
  exact h3.ext x2 (Ext.refl _)
 ·rintro u w2 ⟨rfl,_,hc⟩
  exact ⟨rfl,x1.thenCh hc fun c e=>by omega⟩
end Go.Proofs.YtbfpohbmgjcjmaaGreatDoor

namespace Go.Vc
def Fm.v6:Fm → Prop
 | .var v=>v ≤ 5
 | .fls=>True
 | .and a b=>a.v6 ∧ b.v6
 | .or a b=>a.v6 ∧ b.v6
 | .imp a b=>a.v6 ∧ b.v6
 | .box _=>False
 | .dia _=>False
def evT (r:Nat):Fm → Bool
 | .var v=>r.testBit v
 | .fls=>false
 | .and a b=>evT r a && evT r b
 | .or a b=>evT r a || evT r b
 | .imp a b=>!evT r a || evT r b
 | .box _=>false
 | .dia _=>false
theorem iOrUF {a b:Nat} {K:Value → Prop} (ha:a < 2 ^ 64) (hb:b < 2 ^ 64) (h:K (.int .u64 ((a ||| b:Nat):Int))):xBits iOr .u64 (.int .u64 (a:Int)) (.int .u64 (b:Int)) K:=by
 refine ⟨_,_,rfl,rfl,?_⟩
 have hab:a ||| b < 2 ^ 64:=Nat.or_lt_two_pow ha hb
 have:iOr .u64 (a:Int) (b:Int) = ((a ||| b:Nat):Int):=by
  rw [show iOr .u64 (a:Int) (b:Int) = IntKind.u64.wrap ((BitVec.ofInt 64 (a:Int) ||| BitVec.ofInt 64 (b:Int)).toNat:Nat) from rfl,mE,mE]
  rw [BitVec.toNat_or,BitVec.toNat_ofNat,BitVec.toNat_ofNat,Nat.mod_eq_of_lt ha,Nat.mod_eq_of_lt hb]
  exact IntWalk.u64_in _ (by omega)
 rw [this];exact h
theorem aAE {j:Nat} {yk:IntKind} {K:Value → Prop} (hj:j < 64) (h:K (.int .u64 ((2 ^ j:Nat):Int))):xSh iShl .u64 (.int .u64 1) (.int yk (j:Int)) K:=by
 refine ⟨_,_,_,rfl,rfl,by omega,?_⟩
 have h2:(2:Nat) ^ j < 2 ^ 64:=Nat.pow_lt_pow_right (by omega) hj
 have:iShl .u64 1 (j:Int) = ((2 ^ j:Nat):Int):=by
  simp only [iShl,IntKind.bits,Int.toNat_natCast,show min j 64 = j by omega]
  rw [Int.one_mul,show ((2:Int) ^ j) = ((2 ^ j:Nat):Int) by simp]
  generalize 2 ^ j = m at *
  exact IntWalk.u64_in _ (by omega)
 rw [this];exact h
end Go.Vc
namespace Go.Proofs.YtbfpohbmgjcjmaaGreatDoor
open Go.Vc
theorem FQ (v:Nat) (hv:v ≤ 5) (w:World):Cal Tryz.prog sW #[.int .i64 (v:Int)] w fun r w'=>Ext w w' ∧ ∃ m:Nat,r = .int .u64 (m:Int) ∧ m < 2 ^ 64 ∧ ∀ i,i < 64 → m.testBit i = i.testBit v:=by
 apply HW;unfold tU
 refine iLp (fun s:Nat × Nat=>[.int .u64 (s.1:Int),.int .i64 (s.2:Int)]) (fun s w'=>s.2 ≤ 64 ∧ Ext w w' ∧ s.1 < 2 ^ 64 ∧ ∀ i,i < 64 → s.1.testBit i = (decide (i < s.2) && i.testBit v)) (fun s=>64 - s.2) (0,0) rfl ⟨Nat.zero_le _,Ext.refl _,by decide,fun i _=>by simp⟩ ?_
 rintro ⟨m,r⟩ w2 Kn ⟨hr,x2,hm,hb⟩ hKn
 have hr:r ≤ 64:=hr
 have hm:m < 2 ^ 64:=hm
 have hb:∀ i,i < 64 → m.testBit i = (decide (i < r) && i.testBit v):=hb
 intro _
 simp only [gx]
 refine iLt (iCndP (fun h3=>?_) (fun h3=>?_))
 ·have hr1:r < 64:=by omega
  refine iRet (CP r v (by omega) (by omega) w2) fun w3 x3=>?_
  have hstep:∀ i,(decide (i < r + 1) && i.testBit v) = ((decide (i < r) && i.testBit v) || (decide (r = i) && r.testBit v)):=fun i=>by
   by_cases h:r = i
   ·subst h;simp
   ·rw [decide_eq_false h,Bool.false_and,Bool.or_false,decide_eq_decide.2 (show i < r + 1 ↔ i < r by omega)]
  cases ht:r.testBit v with
  | true=>
   refine iCndT rfl ?_
   refine aAE hr1 ?_
   have hp:(2:Nat) ^ r < 2 ^ 64:=Nat.pow_lt_pow_right (by omega) hr1
   refine iOrUF hm hp ?_
   refine iAdd (by omega) ?_
   refine hKn (m ||| 2 ^ r,r + 1) _ ⟨by show r + 1 ≤ 64;omega,x2.trans x3,Nat.or_lt_two_pow hm hp,fun i hi=>?_⟩ (by show 64 - (r + 1) < 64 - r;omega)
   show (m ||| 2 ^ r).testBit i = (decide (i < r + 1) && i.testBit v)
   rw [Nat.testBit_or,Nat.testBit_two_pow,hb i hi,hstep,ht,Bool.and_true]
  | false=>
   refine iCndF rfl ?_
   refine iAdd (by omega) ?_
   refine hKn (m,r + 1) _ ⟨by show r + 1 ≤ 64;omega,x2.trans x3,hm,fun i hi=>?_⟩ (by show 64 - (r + 1) < 64 - r;omega)
   show m.testBit i = (decide (i < r + 1) && i.testBit v)
   rw [hb i hi,hstep,ht,Bool.and_false,Bool.or_false]
 ·obtain rfl:r = 64:=by omega
  exact ⟨x2,m,rfl,hm,fun i hi=>by rw [hb i hi,decide_eq_true hi,Bool.true_and]⟩
theorem NT:∀ (f:Fm) {v:Value} {w:World},FmS w v f → f.v6 → f.size ≤ 1000 → Cal Tryz.prog AY #[v] w fun r w'=>Ext w w' ∧ ∃ m:Nat,r = .int .u64 (m:Int) ∧ m < 2 ^ 64 ∧ ∀ i,i < 64 → m.testBit i = evT i f:=by
 intro f
 induction f with
 | var x=>
  intro v w hs hv hsz
  apply iL;unfold eY
  refine iFld (f:=0) (j:=0) hs rfl (show 0 < 1 by decide) (by decide) (aO hs).1 ?_
  refine iEq (iCndT rfl ?_)
  refine iFld (f:=1) (j:=0) hs rfl (show 0 < 1 by decide) (by decide) (aO hs).2 ?_
  exact iCall (FQ x hv w)
 | fls=>
  intro v w hs hv hsz
  apply iL;unfold eY
  refine iFld (f:=0) (j:=0) hs rfl (by decide) (by decide) (aO hs).1 ?_
  refine iEq (iCndF rfl (iEq (iCndT rfl ?_)))
  exact ⟨Ext.refl _,0,rfl,by decide,fun i _=>by simp [evT]⟩
 | box a _=>intro v w hs hv;exact hv.elim
 | dia a _=>intro v w hs hv;exact hv.elim
 | and a b iha ihb=>
  intro v w hs hv hsz
  have hsz:1 + a.size + b.size ≤ 1000:=hsz
  apply iL;unfold eY
  refine iFld (f:=0) (j:=0) hs rfl (show 0 < 1 + a.size + b.size by omega) (by decide) (aO hs).1 ?_
  refine iEq (iCndF rfl (iEq (iCndF rfl (iEq (iCndT rfl ?_)))))
  refine iCall ((aM (g:=a) (gs:=[b]) hs rfl (show 1 + a.size + b.size ≤ _ by omega)).mono ?_)
  rintro u1 w1 ⟨x1,h1⟩
  refine iCall ((iha h1 hv.1 (by omega)).mono ?_)
  rintro _ w2 ⟨x2,m1,rfl,l1,e1⟩
  refine iCall ((aS (g:=a) (h:=b) (hs.ext (x1.trans x2)) rfl (show 1 + a.size + b.size ≤ _ by omega)).mono ?_)
  rintro u3 w3 ⟨x3,h3⟩
  refine iCall ((ihb h3 hv.2 (by omega)).mono ?_)
  rintro _ w4 ⟨x4,m2,rfl,l2,e2⟩
  refine iAndU l1 l2 ?_
  exact ⟨((x1.trans x2).trans x3).trans x4,_,rfl,Nat.and_lt_two_pow _ l2,fun i hi=>by rw [Nat.testBit_and,e1 i hi,e2 i hi];rfl⟩
 | or a b iha ihb=>
  intro v w hs hv hsz
  have hsz:1 + a.size + b.size ≤ 1000:=hsz
  apply iL;unfold eY
  refine iFld (f:=0) (j:=0) hs rfl (show 0 < 1 + a.size + b.size by omega) (by decide) (aO hs).1 ?_
  refine iEq (iCndF rfl (iEq (iCndF rfl (iEq (iCndF rfl (iEq (iCndT rfl ?_)))))))
  refine iCall ((aM (g:=a) (gs:=[b]) hs rfl (show 1 + a.size + b.size ≤ _ by omega)).mono ?_)
  rintro u1 w1 ⟨x1,h1⟩
  refine iCall ((iha h1 hv.1 (by omega)).mono ?_)
  rintro _ w2 ⟨x2,m1,rfl,l1,e1⟩
  refine iCall ((aS (g:=a) (h:=b) (hs.ext (x1.trans x2)) rfl (show 1 + a.size + b.size ≤ _ by omega)).mono ?_)
  rintro u3 w3 ⟨x3,h3⟩
  refine iCall ((ihb h3 hv.2 (by omega)).mono ?_)
  rintro _ w4 ⟨x4,m2,rfl,l2,e2⟩
  refine iOrUF l1 l2 ?_
  exact ⟨((x1.trans x2).trans x3).trans x4,_,rfl,Nat.or_lt_two_pow l1 l2,fun i hi=>by rw [Nat.testBit_or,e1 i hi,e2 i hi];rfl⟩
 | imp a b iha ihb=>
  intro v w hs hv hsz
  have hsz:1 + a.size + b.size ≤ 1000:=hsz
  apply iL;unfold eY
  refine iFld (f:=0) (j:=0) hs rfl (show 0 < 1 + a.size + b.size by omega) (by decide) (aO hs).1 ?_
  refine iEq (iCndF rfl (iEq (iCndF rfl (iEq (iCndF rfl (iEq (iCndF rfl ?_)))))))
  refine iCall ((aM (g:=a) (gs:=[b]) hs rfl (show 1 + a.size + b.size ≤ _ by omega)).mono ?_)
  rintro u1 w1 ⟨x1,h1⟩
  refine iCall ((iha h1 hv.1 (by omega)).mono ?_)
  rintro _ w2 ⟨x2,m1,rfl,l1,e1⟩
  refine ⟨.int .u64 ((2 ^ 64 - 1 - m1:Nat):Int),fun w' _=>?_,?_⟩
  ·have e:bits .xor .u64 ((18446744073709551615:Nat):Int) (m1:Int) = ((2 ^ 64 - 1 - m1:Nat):Int):=by
    rw [bits_xor_u64_nat _ _ (by decide) (by omega)]
    congr 1
    exact Lib.xor_ones64 m1 l1
   rw [← e];rfl
  refine iCall ((aS (g:=a) (h:=b) (hs.ext (x1.trans x2)) rfl (show 1 + a.size + b.size ≤ _ by omega)).mono ?_)
  rintro u3 w3 ⟨x3,h3⟩
  refine iCall ((ihb h3 hv.2 (by omega)).mono ?_)
  rintro _ w4 ⟨x4,m2,rfl,l2,e2⟩
  have l3:2 ^ 64 - 1 - m1 < 2 ^ 64:=by omega
  refine iOrUF l3 l2 ?_
  refine ⟨((x1.trans x2).trans x3).trans x4,_,rfl,Nat.or_lt_two_pow l3 l2,fun i hi=>?_⟩
  rw [Nat.testBit_or,e2 i hi,show 2 ^ 64 - 1 - m1 = 2 ^ 64 - (m1 + 1) by omega,Nat.testBit_two_pow_sub_succ l1,e1 i hi,decide_eq_true hi,Bool.true_and]
  rfl
end Go.Proofs.YtbfpohbmgjcjmaaGreatDoor

namespace Go.Vc
theorem v6_of:∀ {f:Fm},f.good → f.plain = true → f.v6
 | .var v,h,_=>by have h:v < 6:=h;show v ≤ 5;omega
 | .fls,_,_=>trivial
 | .and _ _,h,k=>⟨v6_of h.1 (Bool.and_eq_true_iff.1 k).1,v6_of h.2 (Bool.and_eq_true_iff.1 k).2⟩
 | .or _ _,h,k=>⟨v6_of h.1 (Bool.and_eq_true_iff.1 k).1,v6_of h.2 (Bool.and_eq_true_iff.1 k).2⟩
 | .imp _ _,h,k=>⟨v6_of h.1 (Bool.and_eq_true_iff.1 k).1,v6_of h.2 (Bool.and_eq_true_iff.1 k).2⟩
 | .box _,_,k=>by cases k
 | .dia _,_,k=>by cases k
def rowM (r:Nat):MM:=⟨Unit,fun _ _=>False,fun _ p=>r.testBit p = true⟩
theorem zZ (r:Nat):∀ {f:Fm},f.v6 → ((rowM r).f f () ↔ evT r f = true)
 | .var _,_=>Iff.rfl
 | .fls,_=>by simp [MM.f,evT]
 | .and a b,h=>by
  have h1:=zZ r h.1
  have h2:=zZ r h.2
  show (rowM r).f a () ∧ (rowM r).f b () ↔ (evT r a && evT r b) = true
  rw [h1,h2,Bool.and_eq_true]
 | .or a b,h=>by
  have h1:=zZ r h.1
  have h2:=zZ r h.2
  show (rowM r).f a () ∨ (rowM r).f b () ↔ (evT r a || evT r b) = true
  rw [h1,h2,Bool.or_eq_true]
 | .imp a b,h=>by
  have h1:=zZ r h.1
  have h2:=zZ r h.2
  show ((rowM r).f a () → (rowM r).f b ()) ↔ (!evT r a || evT r b) = true
  rw [h1,h2]
  cases evT r a <;> cases evT r b <;> simp
 | .box _,h=>h.elim
 | .dia _,h=>h.elim
theorem ZL {f:Fm} (hv:f.v6) (h:SysV 1 f) {m:Nat} (hm:m < 2 ^ 64) (hb:∀ i,i < 64 → m.testBit i = evT i f):m = 18446744073709551615:=by
 have h:∀ M:MM,M.ok 1 → ∀ w,M.f f w:=h
 refine Nat.eq_of_testBit_eq fun i=>?_
 by_cases hi:i < 64
 ·rw [hb i hi,(zZ i hv).1 (h (rowM i) trivial ())]
  rw [show (18446744073709551615:Nat) = 2 ^ 64 - 1 from rfl,Nat.testBit_two_pow_sub_one,decide_eq_true hi]
 ·have hlt:2 ^ 64 ≤ 2 ^ i:=Nat.pow_le_pow_right (by decide) (by omega)
  rw [Nat.testBit_lt_two_pow (Nat.lt_of_lt_of_le hm hlt),Nat.testBit_lt_two_pow (Nat.lt_of_lt_of_le (by decide:(18446744073709551615:Nat) < 2 ^ 64) hlt)]
theorem XL {f:Fm} (hp:f.plain = true) (hs:f.size ≤ 20):f.w2 ≤ 1099511627776:=by
 have:=(Fm.wt_size hp).2
 have h2:f.wt ≤ 40:=by omega
 have:=Nat.pow_le_pow_right (n:=2) (by omega) h2
 simpa [Fm.w2] using this
end Go.Vc
namespace Go.Proofs.YtbfpohbmgjcjmaaGreatDoor
open Go.Vc
theorem kC:∀ f:Fm,oU (rawF f) = f.plain
 | .var _=>rfl
 | .fls=>rfl
 | .and a b=>by rw [Fm.plain,← kC a,← kC b];simp [oU,rawF,modN]
 | .or a b=>by rw [Fm.plain,← kC a,← kC b];simp [oU,rawF,modN]
 | .imp a b=>by rw [Fm.plain,← kC a,← kC b];simp [oU,rawF,modN]
 | .box a=>by simp [oU,rawF,modN,Fm.plain]
 | .dia a=>by simp [oU,rawF,modN,Fm.plain]
theorem vM {v u:Value} {f:Fm} {w:World} (hone:Sl w v [u]) (hs:FmS w u f) (hg:f.good) (hn:f.size ≤ 40):Ret Tryz.prog yY #[v] w (.int .i64 (if f.plain then 0 else 5)):=by
 have hR:RwN w v [(u,rawF f)]:=RwN.one hone (FmS.rawS hs)
 apply NN;unfold z5
 refine iRet (rJ hR (fun p hp=>by rw [List.mem_singleton.1 hp];show (rawF f).length ≤ _;rw [aG];omega)) fun w2 x2=>iNot ?_
 rw [show ([(u,rawF f)]:List VN).all (fun q=>isN q.2) = true by simp [yS.2 ⟨f,hg,hn,rfl⟩]]
 refine iCndF rfl ?_
 refine iRet (iQ (hR.ext x2) (fun N=>!oU N) fun q hq w' x'=>?_) fun w3 x3=>?_
 ·refine iRet (v:=.bool (!oU q.2)) ?_ fun w5 x5=>⟨rfl,x5⟩
  apply IJ;unfold vI
  exact iRet (MY (SlK.ext ((hR.ext x2).raw q hq) x')) fun w4 x4=>iNot ⟨rfl,x4⟩
 rw [show ([(u,rawF f)]:List VN).any (fun q=>!oU q.2) = !f.plain by simp [kC]]
 refine iCnd (fun h=>?_) (fun h=>?_)
 ·rw [Bool.not_eq_true'] at h
  rw [h];exact ⟨rfl,x2.trans x3⟩
 ·rw [Bool.not_eq_false'] at h
  rw [h];exact ⟨rfl,x2.trans x3⟩
theorem FJ {v:Value} {f:Fm} {w:World} (hs:FmS w v f) (hg:f.good) (hn:f.size ≤ 40) (hV:SysV 1 f):Cal Tryz.prog vN #[v] w fun r w'=>Ext w w' ∧ ∃ b c,r = .tuple #[.bool b,.int .i64 c] ∧ (c = 0 → b = true):=by
 apply ID;unfold wM
 refine iBs1 rfl (SlK.cellZ hs) fun b w1 _ x1 hB=>?_
 have hone:Sl w1 (.slice (some ⟨b,0,none⟩) 1 1) [v]:=Sl.ofBlk (n:=1) hB rfl (by decide)
 refine iRet (vM hone (SlK.ext hs x1) hg hn) fun w2 x2=>?_
 have X2:=x1.trans x2
 by_cases hp:f.plain = true
 ·rw [if_pos hp]
  have hv:=v6_of hg hp
  refine iNe (iCndF (by decide) ?_)
  refine iCall ((NT f (SlK.ext hs X2) hv (by omega)).mono ?_)
  rintro _ w3 ⟨x3,m,rfl,hm,hb⟩
  refine iEq ⟨X2.trans x3,_,_,rfl,fun _=>?_⟩
  rw [ZL hv hV hm hb]
  rfl
 ·rw [if_neg hp]
  refine iNe (iCndT (by decide) ?_)
  exact ⟨X2,_,_,rfl,fun h=>by cases h⟩
theorem C6 {v:Value} {f:Fm} {w:World} (hs:FmS w v f) (hg:f.good) (hn:f.size ≤ 40) (hV:Vld [] f):Cal Tryz.prog sT #[v] w fun r w'=>Ext w w' ∧ ∃ b c,r = .tuple #[.bool b,.int .i64 c] ∧ (c = 0 → b = true):=by
 apply HT;unfold sS
 refine iBs1 rfl (SlK.cellZ hs) fun b w1 _ x1 hB=>?_
 have hone:Sl w1 (.slice (some ⟨b,0,none⟩) 1 1) [v]:=Sl.ofBlk (n:=1) hB rfl (by decide)
 have hcode:Ret Tryz.prog l9 #[.slice (some ⟨b,0,none⟩) 1 1] w1 (.int .i64 (if f.plain then (if 20 < f.size then 3 else 0) else 5)):=by
  apply zI;unfold mG
  refine iRet (vM hone (SlK.ext hs x1) hg hn) fun w2 x2=>?_
  by_cases hp:f.plain = true
  ·rw [if_pos hp,if_pos hp]
   refine iNe (iCndF (by decide) ?_)
   refine iCall ((dT (vs:=[v]) (ps:=[(f.size,f.cells)]) (hone.ext x2) rfl (fun i h1 h2=>?_) (fun p hp u hu=>?_) (by simp;omega)).mono ?_)
   ·have:i = 0:=by simpa using h1
    subst this
    exact SlK.ext hs (x1.trans x2)
   ·rw [List.mem_singleton.1 hp] at hu
    exact f.cells_cell u hu
   rintro u w3 ⟨x3,ho⟩
   have ho:OwK 2 w2.heap.size aA w3 u f.size (f.cells ++ []):=ho
   refine iLenK ho.sl (iLt (iCndP (fun h=>?_) (fun h=>?_)))
   ·rw [if_pos (by omega)];exact ⟨rfl,x2.trans x3⟩
   ·rw [if_neg (by omega)];exact ⟨rfl,x2.trans x3⟩
  ·rw [if_neg hp,if_neg hp]
   exact iNe (iCndT (by decide) ⟨rfl,x2⟩)
 refine iRet hcode fun w2 x2=>?_
 have X2:=x1.trans x2
 by_cases hp:f.plain = true
 ·rw [if_pos hp]
  by_cases h20:20 < f.size
  ·rw [if_pos h20]
   exact iNe (iCndT (by decide) ⟨X2,_,_,rfl,fun h=>by cases h⟩)
  rw [if_neg h20]
  refine iNe (iCndF (by decide) ?_)
  refine iRet (bS (SlK.ext hs X2) hg (by omega)) fun w3 x3=>?_
  have h:SqT (setT []) f.body:=⟨fun t ht=>by simp [setT] at ht,GT.of hg hp,by
   have:=XL hp (show f.size ≤ 20 by omega)
   rw [cO hg]
   show 0 + _ ≤ _
   omega⟩
  refine iRet (M0 (L:=[]) (Ow.nil _ _ _) h (by simp)) fun w4 x4=>⟨(X2.trans x3).trans x4,_,_,rfl,fun _=>?_⟩
  refine fB.2 ?_
  show Vld (List.map fT []) (fT f.body)
  rw [aX hg]
  exact hV
 ·rw [if_neg hp]
  exact iNe (iCndT (by decide) ⟨X2,_,_,rfl,fun h=>by cases h⟩)
end Go.Proofs.YtbfpohbmgjcjmaaGreatDoor

namespace Go.Vc
def Fm.subs:Fm → List Fm
 | .var v=>[.var v]
 | .fls=>[.fls]
 | .and a b=>.and a b :: (a.subs ++ b.subs)
 | .or a b=>.or a b :: (a.subs ++ b.subs)
 | .imp a b=>.imp a b :: (a.subs ++ b.subs)
 | .box a=>.box a :: a.subs
 | .dia a=>.dia a :: a.subs
theorem Fm.subs_len:∀ f:Fm,f.subs.length = f.size
 | .var _=>rfl
 | .fls=>rfl
 | .and a b=>by simp [Fm.subs,Fm.size,a.subs_len,b.subs_len];omega
 | .or a b=>by simp [Fm.subs,Fm.size,a.subs_len,b.subs_len];omega
 | .imp a b=>by simp [Fm.subs,Fm.size,a.subs_len,b.subs_len];omega
 | .box a=>by simp [Fm.subs,Fm.size,a.subs_len];omega
 | .dia a=>by simp [Fm.subs,Fm.size,a.subs_len];omega
def SubAt (f:Fm):Prop:=∀ i,i < f.size → ∃ r,f.cells.drop (i * 2) = (gt f.subs i).cells ++ r ∧ i + (gt f.subs i).size ≤ f.size
theorem FU (f:Fm):f.cells.length = f.size * 2:=by rw [← a9,OF,aG]
theorem sub_zero (f:Fm) (h:gt f.subs 0 = f):∃ r,f.cells.drop (0 * 2) = (gt f.subs 0).cells ++ r ∧ 0 + (gt f.subs 0).size ≤ f.size:=⟨[],by rw [h];simp,by rw [h];omega⟩
theorem QJ {f a b:Fm} {k:Nat} (hs:f.subs = f :: (a.subs ++ b.subs)) (hc:f.cells = nd k 0 ++ (a.cells ++ b.cells)) (hz:f.size = 1 + a.size + b.size) (ha:SubAt a) (hb:SubAt b):SubAt f:=fun i hi=>by
 rcases i with _ | i
 ·exact sub_zero f (by rw [hs];rfl)
 ·have e:f.cells.drop ((i + 1) * 2) = (a.cells ++ b.cells).drop (i * 2):=by
   rw [hc,show (i + 1) * 2 = 2 + i * 2 by omega,← List.drop_drop]
   rfl
  have la:=a.subs_len
  by_cases h:i < a.size
  ·obtain ⟨r,h1,h2⟩:=ha i h
   have g:gt f.subs (i + 1) = gt a.subs i:=by
    rw [hs]
    show gt (a.subs ++ b.subs) i = _
    exact bK (by omega)
   refine ⟨r ++ b.cells,?_,by rw [g];omega⟩
   rw [e,g,List.drop_append_of_le_length (by rw [FU];omega),h1,List.append_assoc]
  ·obtain ⟨r,h1,h2⟩:=hb (i - a.size) (by omega)
   have g:gt f.subs (i + 1) = gt b.subs (i - a.size):=by
    rw [hs]
    show gt (a.subs ++ b.subs) i = _
    rw [gt_eq (by rw [List.length_append,b.subs_len];omega),gt_eq (by rw [b.subs_len];omega),List.getElem_append_right (by omega)]
    simp only [la]
   refine ⟨r,?_,by rw [g];omega⟩
   rw [e,g,List.drop_append,List.drop_of_length_le (by rw [FU];omega),List.nil_append,FU,show i * 2 - a.size * 2 = (i - a.size) * 2 by omega,h1]
theorem VO {f a:Fm} {k:Nat} (hs:f.subs = f :: a.subs) (hc:f.cells = nd k 0 ++ a.cells) (hz:f.size = 1 + a.size) (ha:SubAt a):SubAt f:=fun i hi=>by
 rcases i with _ | i
 ·exact sub_zero f (by rw [hs];rfl)
 ·have e:f.cells.drop ((i + 1) * 2) = a.cells.drop (i * 2):=by
   rw [hc,show (i + 1) * 2 = 2 + i * 2 by omega,← List.drop_drop]
   rfl
  obtain ⟨r,h1,h2⟩:=ha i (by omega)
  have g:gt f.subs (i + 1) = gt a.subs i:=by rw [hs];rfl
  exact ⟨r,by rw [e,g,h1],by rw [g];omega⟩
theorem Fm.sub_at:∀ f:Fm,SubAt f
 | .var v=>fun i hi=>by
  have hi:i < 1:=hi
  have:i = 0:=by omega
  subst this;exact sub_zero _ rfl
 | .fls=>fun i hi=>by
  have hi:i < 1:=hi
  have:i = 0:=by omega
  subst this;exact sub_zero _ rfl
 | .and a b=>QJ (k:=2) rfl (by simp [Fm.cells]) rfl a.sub_at b.sub_at
 | .or a b=>QJ (k:=3) rfl (by simp [Fm.cells]) rfl a.sub_at b.sub_at
 | .imp a b=>QJ (k:=4) rfl (by simp [Fm.cells]) rfl a.sub_at b.sub_at
 | .box a=>VO (k:=5) rfl rfl rfl a.sub_at
 | .dia a=>VO (k:=6) rfl rfl rfl a.sub_at
theorem Fm.subs_self (f:Fm):f ∈ f.subs:=by cases f <;> simp [Fm.subs]
theorem Fm.subs_good:∀ {f:Fm},f.good → ∀ a ∈ f.subs,a.good ∧ a.size ≤ f.size
 | .var v,h,a,ha=>by rw [List.mem_singleton.1 ha];exact ⟨h,Nat.le_refl _⟩
 | .fls,h,a,ha=>by rw [List.mem_singleton.1 ha];exact ⟨h,Nat.le_refl _⟩
 | .and x y,h,a,ha=>by
  rcases List.mem_cons.1 ha with rfl | ha
  ·exact ⟨h,Nat.le_refl _⟩
  ·have e:(Fm.and x y).size = 1 + x.size + y.size:=rfl
   rcases List.mem_append.1 ha with ha | ha
   ·have:=Fm.subs_good h.1 a ha;exact ⟨this.1,by omega⟩
   ·have:=Fm.subs_good h.2 a ha;exact ⟨this.1,by omega⟩
 | .or x y,h,a,ha=>by
  rcases List.mem_cons.1 ha with rfl | ha
  ·exact ⟨h,Nat.le_refl _⟩
  ·have e:(Fm.or x y).size = 1 + x.size + y.size:=rfl
   rcases List.mem_append.1 ha with ha | ha
   ·have:=Fm.subs_good h.1 a ha;exact ⟨this.1,by omega⟩
   ·have:=Fm.subs_good h.2 a ha;exact ⟨this.1,by omega⟩
 | .imp x y,h,a,ha=>by
  rcases List.mem_cons.1 ha with rfl | ha
  ·exact ⟨h,Nat.le_refl _⟩
  ·have e:(Fm.imp x y).size = 1 + x.size + y.size:=rfl
   rcases List.mem_append.1 ha with ha | ha
   ·have:=Fm.subs_good h.1 a ha;exact ⟨this.1,by omega⟩
   ·have:=Fm.subs_good h.2 a ha;exact ⟨this.1,by omega⟩
 | .box x,h,a,ha=>by
  rcases List.mem_cons.1 ha with rfl | ha
  ·exact ⟨h,Nat.le_refl _⟩
  ·have e:(Fm.box x).size = 1 + x.size:=rfl
   have:=Fm.subs_good (f:=x) h a ha;exact ⟨this.1,by omega⟩
 | .dia x,h,a,ha=>by
  rcases List.mem_cons.1 ha with rfl | ha
  ·exact ⟨h,Nat.le_refl _⟩
  ·have e:(Fm.dia x).size = 1 + x.size:=rfl
   have:=Fm.subs_good (f:=x) h a ha;exact ⟨this.1,by omega⟩
def Fm.elem:Fm → Bool
 | .var _=>true
 | .box _=>true
 | .dia _=>true
 | _=>false
def subT (f:Fm):List Str:=setT (f.subs.map Fm.body)
def bQ (f:Fm):List Fm:=((subT f).map fT).filter Fm.elem
theorem NV {f:Fm} (hg:f.good) {t:Str} (ht:t ∈ subT f):∃ a ∈ f.subs,t = a.body ∧ fT t = a:=by
 obtain ⟨a,ha,rfl⟩:=List.mem_map.1 (pO.1 ht)
 exact ⟨a,ha,rfl,aX (Fm.subs_good hg a ha).1⟩
theorem JI {f:Fm} (hg:f.good) {a:Fm}:a ∈ bQ f ↔ a ∈ f.subs ∧ a.elem = true:=by
 unfold bQ
 rw [List.mem_filter,List.mem_map]
 constructor
 ·rintro ⟨⟨t,ht,rfl⟩,he⟩
  obtain ⟨b,hb,_,e⟩:=NV hg ht
  rw [e] at he ⊢
  exact ⟨hb,he⟩
 ·rintro ⟨ha,he⟩
  refine ⟨⟨a.body,pO.2 (List.mem_map.2 ⟨a,ha,rfl⟩),aX (Fm.subs_good hg a ha).1⟩,he⟩
end Go.Vc
namespace Go.Proofs.YtbfpohbmgjcjmaaGreatDoor
open Go.Vc
theorem zY (k:Nat) (w:World):Ret Tryz.prog m8 #[.int .i64 (k:Int)] w (.bool (decide (k = 5 ∨ k = 6))):=by
 apply FA;unfold uM
 refine iJnB (decide (k = 5 ∨ k = 6)) w (fun J hJ=>?_) (fun w2 x2=>fun _=>⟨by first | trivial | rfl,x2⟩)
 refine iEq (iCndP (fun h=>?_) (fun h=>iEq ?_))
 ·rw [decide_eq_true (.inl (by omega))] at hJ
  exact hJ _ (Ext.refl _)
 ·rw [show decide ((k:Int) = 6) = decide (k = 5 ∨ k = 6) from decide_eq_decide.2 ⟨fun h=>.inr (by omega),fun h=>by omega⟩]
  exact hJ _ (Ext.refl _)
structure MsW (w:World) (v:Value) (f:Fm):Prop where
 ex:∃ vl vr,v = .agg #[vl,vr] ∧ SlT w vl [] ∧ SlT w vr [f.body]
theorem MsW.ext {w w':World} {v:Value} {f:Fm} (h:MsW w v f) (x:Ext w w'):MsW w' v f:=
 let ⟨vl,vr,e,h1,h2⟩:=h.ex
 ⟨vl,vr,e,Sl.ext h1 x,Sl.ext h2 x⟩
def gL (L:List (Value × Fm)):List Value:=L.flatMap fun p=>[sv p.2.body,p.1]
structure ElW (w:World) (v:Value) (ps:List Fm):Prop where
 ex:∃ L:List (Value × Fm),L.map Prod.snd = ps ∧ OwK 2 0 bN w v L.length (gL L) ∧ ∀ p ∈ L,FmW 0 w p.1 p.2
theorem ElW.ext {w w':World} {v:Value} {ps:List Fm} (h:ElW w v ps) (x:Ext w w'):ElW w' v ps:=
 let ⟨L,h1,h2,h3⟩:=h.ex
 ⟨L,h1,OwK.ext h2 x,fun p hp=>OwK.ext (h3 p hp) x⟩
theorem VW (A B:List (Value × Fm)):gL (A ++ B) = gL A ++ gL B:=by simp [gL]
theorem H4 {v:Value} {f:Fm} {w:World} (h:MsW w v f):Cal Tryz.prog jM #[v] w fun r w'=>Ext w w' ∧ SlT w' r [f.body]:=by
 obtain ⟨vl,vr,rfl,hl,hr⟩:=h.ex
 apply uN;unfold jR
 refine iNew2 fun q w1 hq x1 hB=>?_
 refine iFa (iLdB hB (i:=0) (v:=vl) rfl (iFa (iLdB hB (i:=1) (v:=vr) rfl ?_)))
 refine iBs2 rfl (Sl.cellZ hl) (Sl.cellZ hr) fun c w2 hc x2 hB2=>?_
 have X2:=x1.trans x2
 refine iCall ((mU (vs:=[vl,vr]) (ps:=[(0,strs []),(1,strs [f.body])]) (Sl.ofBlk (n:=2) hB2 rfl (by decide)) rfl (fun i h1 h2=>?_) (fun p hp u hu=>?_) (by simp)).mono ?_)
 ·have h1:i < 2:=h1
  rcases i with _ | _ | i
  ·exact Sl.toK (Sl.ext hl X2)
  ·exact Sl.toK (Sl.ext hr X2)
  ·omega
 ·simp only [List.mem_cons,List.not_mem_nil,or_false] at hp
  rcases hp with rfl | rfl
  ·exact wP _ _ hu
  ·exact wP _ _ hu
 rintro r w3 ⟨x3,ho⟩
 refine ⟨X2.trans x3,?_⟩
 have:=ho.toOw
 have:=this.sl
 have e:Sl w3 r [sv f.body]:=by simpa [strs] using this
 exact e
theorem tJ {v:Value} {f:Fm} {w:World} (h:SlT w v [f.body]) (hg:f.good) (hn:f.size ≤ 40):Cal Tryz.prog oA #[v] w fun r w'=>Ext w w' ∧ ∃ u,Ow 0 aB w' r [u] ∧ FmW 0 w' u f:=by
 apply xN;unfold oE
 refine iLenS h ?_
 refine iLp (fun s:Value × Nat=>[s.1,.int .i64 (s.2:Int)]) (fun s w'=>s.2 ≤ 1 ∧ Ext w w' ∧ (s.2 = 0 → s.1 = .slice none 0 0) ∧ (0 < s.2 → ∃ u,Ow 0 aB w' s.1 [u] ∧ FmW 0 w' u f)) (fun s=>1 - s.2) (.slice none 0 0,0) rfl ⟨Nat.zero_le _,Ext.refl _,fun _=>rfl,fun h=>absurd h (Nat.lt_irrefl 0)⟩ ?_
 rintro ⟨z,i⟩ w2 Kn ⟨hi,x2,h0,h1⟩ hKn
 have hi:i ≤ 1:=hi
 have h0:i = 0 → z = .slice none 0 0:=h0
 have h1:0 < i → ∃ u,Ow 0 aB w2 z [u] ∧ FmW 0 w2 u f:=h1
 intro _
 simp only [gx]
 refine iLt (iCndP (fun hlt=>?_) (fun hlt=>?_))
 ·have hlt:(i:Int) < 1:=hlt
  have:i = 0:=by omega
  subst this
  rw [h0 rfl]
  refine iIa (j:=0) (Sl.ext h x2) (by decide) (by simp [strs]) fun p hp=>iLd hp ?_
  refine iCall ((nE f.body w2).mono ?_)
  rintro u w3 ⟨x3,hu,-⟩
  have hu:=hu (yM hg hn)
  rw [show (rd f.body).1 = f from aX hg] at hu
  refine iP pL pJ rfl (Ow.nil w3.heap.size _ _) (OwK.cell hu) (by simp) (by simp) (Nat.le_refl _) fun o w5 ho hg5 _=>?_
  have x5:Ext w3 w5:=(Ext.refl _).grown hg5 (fun c hc=>by cases hc)
  refine iAdd (by decide) ?_
  exact hKn (o,1) _ ⟨Nat.le_refl _,(x2.trans x3).trans x5,(fun h=>absurd h (by decide:¬ (1:Nat) = 0)),fun _=>⟨u,ho.mono (Nat.zero_le _),OwK.mono (OwK.ext hu x5) (Nat.zero_le _)⟩⟩ (by show 1 - 1 < 1 - 0;decide)
 ·have hlt:¬ (i:Int) < 1:=hlt
  exact ⟨x2,h1 (by omega)⟩
theorem FN {v u:Value} {f:Fm} {w:World} (h:Sl w v [u]) (hf:FmS w u f) (hg:f.good) (hn:f.size ≤ 40):Cal Tryz.prog vG #[v] w fun r w'=>Ext w w' ∧ SlT w' r (subT f):=by
 have hsl:=f.subs_len
 apply JL;unfold uX
 refine iLenS h ?_
 refine iLp (fun s:Value × Nat=>[s.1,.int .i64 (s.2:Int)]) (fun s w'=>s.2 ≤ 1 ∧ Ext w w' ∧ Ow w.heap.size aD w' s.1 (strs (if s.2 = 0 then [] else f.subs.map Fm.body))) (fun s=>1 - s.2) (.slice none 0 0,0) rfl ⟨Nat.zero_le _,Ext.refl _,Ow.nil _ _ _⟩ ?_
 rintro ⟨z,i⟩ w2 Kn ⟨hi,x2,hz⟩ hKn
 have hi:i ≤ 1:=hi
 have hz:Ow w.heap.size aD w2 z (strs (if i = 0 then [] else f.subs.map Fm.body)):=hz
 intro _
 simp only [gx]
 refine iLt (iCndP (fun hlt=>?_) (fun hlt=>?_))
 ·have hlt:(i:Int) < 1:=hlt
  have:i = 0:=by omega
  subst this
  refine iIa (j:=0) (h.ext x2) (by decide) (by simp) fun p hp=>iLd hp (iLenK (SlK.ext hf x2) ?_)
  refine iLp (fun s:Value × Nat=>[s.1,.int .i64 (s.2:Int)]) (fun s w'=>s.2 ≤ f.size ∧ Ext w w' ∧ Ow w.heap.size aD w' s.1 (strs ((f.subs.map Fm.body).take s.2))) (fun s=>f.size - s.2) (z,0) rfl ⟨Nat.zero_le _,x2,by simpa using hz⟩ ?_
  rintro ⟨y,j⟩ w4 K2 ⟨hj,x4,hy⟩ hK2
  have hj:j ≤ f.size:=hj
  have hy:Ow w.heap.size aD w4 y (strs ((f.subs.map Fm.body).take j)):=hy
  intro _
  simp only [gx]
  refine iLt (iCndP (fun hlt=>?_) (fun hlt=>?_))
  ·have hjl:j < f.size:=by omega
   obtain ⟨r,h1,h2⟩:=f.sub_at j hjl
   have hm:gt f.subs j ∈ f.subs:=by rw [gt_eq (by omega)];exact List.getElem_mem _
   have hgs:=Fm.subs_good hg _ hm
   refine iCall ((qZ (SlK.ext hf x4) h1 h2 (by omega)).mono ?_)
   rintro v21 w5 ⟨x5,h5⟩
   refine iRet (bS h5 hgs.1 (by omega)) fun w6 x6=>?_
   have x46:=x5.trans x6
   have hlen:(strs ((f.subs.map Fm.body).take j)).length = j:=by rw [cB,List.length_take,List.length_map];omega
   refine iP qH pU rfl (hy.ext x46) rfl (by rw [hlen];omega) (by rw [hlen];omega) (x4.trans x46).size fun o w8 ho hg8 _=>?_
   refine iAdd (by omega) ?_
   refine hK2 (o,j + 1) _ ⟨hjl,(x4.trans x46).grown hg8 fun c hc=>((hy.ext x46).blk c hc).1,?_⟩ (by show f.size - (j + 1) < f.size - j;omega)
   show Ow _ _ _ o (strs ((f.subs.map Fm.body).take (j + 1)))
   rw [List.take_succ_eq_append_getElem (by rw [List.length_map];omega),List.getElem_map,← gt_eq (by omega)]
   rw [show strs ((f.subs.map Fm.body).take j ++ [(gt f.subs j).body]) = strs ((f.subs.map Fm.body).take j) ++ [sv (gt f.subs j).body] by simp [strs]]
   exact ho
  ·have:j = f.size:=by omega
   subst this
   refine iAdd (by decide) ?_
   refine hKn (y,1) _ ⟨Nat.le_refl _,x4,?_⟩ (by show 1 - 1 < 1 - 0;decide)
   rw [List.take_of_length_le (by rw [List.length_map];omega)] at hy
   exact hy
 ·have hlt:¬ (i:Int) < 1:=hlt
  have:i = 1:=by omega
  subst this
  have hz:Ow w.heap.size aD w2 z (strs (f.subs.map Fm.body)):=hz
  have hl:(f.subs.map Fm.body).length ≤ 40:=by rw [List.length_map];omega
  refine iCall ((jC hz (by omega)).mono ?_)
  rintro _ w9 ⟨L',ho3,hc3,hperm,hsorted⟩
  refine iCall ((gU ho3 (by rw [hperm.length_eq];omega)).mono ?_)
  rintro r w10 ⟨ho4,hc4,_⟩
  rw [LJ hsorted hperm] at ho4
  have hn':∀ c,z.ownBlock = some c → w.heap.size ≤ c:=fun c hc'=>(hz.blk c hc').1
  exact ⟨(x2.thenCh hc3 hn').thenCh hc4 hn',ho4.sl⟩
end Go.Proofs.YtbfpohbmgjcjmaaGreatDoor

namespace Go.Vc
theorem Fm.elem_kind (a:Fm):a.elem = decide (a.kind = 0 ∨ a.kind = 5 ∨ a.kind = 6):=by cases a <;> rfl
theorem XD {f:Fm} (hg:f.good) (hn:f.size ≤ 40):goodT f.body = true:=by
 unfold goodT
 rw [decide_eq_true (yM hg hn),Bool.true_and,show (rd f.body).1 = f from aX hg]
 exact decide_eq_true rfl
def DL:List Str:=[[75],[68],[84],[75,52],[83,52],[71,76],[83,53],[75,66]]
theorem WU {t:Str} (h:sysNo t < 10) (h2:2 ≤ sysNo t):t ∈ DL:=by
 have key:∀ k:Fin 10,2 ≤ k.val → ∀ s,cE[k.val]? = some s → s ∈ DL:=by
  intro k hk s hs
  have:∀ k:Fin 10,2 ≤ k.val → (cE.getD k.val []) ∈ DL:=by decide
  have h3:=this k hk
  rw [List.getD_eq_getElem?_getD,hs] at h3
  exact h3
 have e:cE[sysNo t]? = some t:=by
  have:=List.getElem_idxOf (x:=t) (xs:=cE) h
  rw [List.getElem?_eq_getElem h]
  exact congrArg some this
 exact key ⟨_,h⟩ h2 t e
end Go.Vc
namespace Go.Proofs.YtbfpohbmgjcjmaaGreatDoor
open Go.Vc
theorem l5 {v:Value} {f:Fm} {w:World} (h:MsW w v f) (hg:f.good) (hn:f.size ≤ 40):Cal Tryz.prog oO #[v] w fun r w'=>Ext w w' ∧ ElW w' r (bQ f):=by
 obtain ⟨vl,vr,rfl,hl,hr⟩:=h.ex
 apply CN;unfold oR
 refine iNew2 fun q w1 hq x1 hB=>iLdA hB rfl ?_
 refine iCall ((H4 (h.ext x1)).mono ?_)
 rintro v8 w2 ⟨x2,h8⟩
 refine iCall ((tJ h8 hg hn).mono ?_)
 rintro v9 w3 ⟨x3,u,h9,hu⟩
 refine iCall ((FN h9.sl hu.sl hg hn).mono ?_)
 rintro v10 w4 ⟨x4,h10⟩
 have X4:=((x1.trans x2).trans x3).trans x4
 have hTl:(subT f).length ≤ 40:=by
  have:=YM (f.subs.map Fm.body)
  rw [List.length_map,f.subs_len] at this
  show (setT _).length ≤ 40
  omega
 refine fI h10 ?_
 refine iLp (fun s:Value × Nat=>[s.1,.int .i64 (s.2:Int)]) (fun s w'=>s.2 ≤ (subT f).length ∧ Ext w4 w' ∧ ∃ L:List (Value × Fm),L.map Prod.snd = (((subT f).take s.2).map fT).filter Fm.elem ∧ OwK 2 w4.heap.size bN w' s.1 L.length (gL L) ∧ (∀ p ∈ L,FmW 0 w' p.1 p.2) ∧ L.length ≤ s.2) (fun s=>(subT f).length - s.2) (.slice none 0 0,0) rfl ⟨Nat.zero_le _,Ext.refl _,[],rfl,OwK.nil _ _ _ _,(fun p hp=>by cases hp),Nat.le_refl _⟩ ?_
 rintro ⟨z,i⟩ w6 Kn ⟨hi,x6,L,hL,hz,hLf,hLl⟩ hKn
 have hi:i ≤ (subT f).length:=hi
 have hL:L.map Prod.snd = (((subT f).take i).map fT).filter Fm.elem:=hL
 have hz:OwK 2 w4.heap.size bN w6 z L.length (gL L):=hz
 have hLl:L.length ≤ i:=hLl
 intro _
 simp only [gx]
 refine iLt (iCndP (fun hlt=>?_) (fun hlt=>?_))
 rotate_left
 ·have:i = (subT f).length:=by omega
  subst this
  rw [List.take_length] at hL
  exact ⟨X4.trans x6,L,hL,OwK.mono hz (Nat.zero_le _),hLf⟩
 have hil:i < (subT f).length:=by omega
 refine iIaT (Sl.ext h10 x6) hil fun p hp=>iLd hp ?_
 obtain ⟨a,ha,ht,hft⟩:=NV hg (List.getElem_mem hil)
 have hga:=Fm.subs_good hg a ha
 have tk:(((subT f).take (i + 1)).map fT).filter Fm.elem = (((subT f).take i).map fT).filter Fm.elem ++ (if a.elem then [a] else []):=by
  rw [List.take_succ_eq_append_getElem hil,List.map_append,List.filter_append,List.map_singleton,hft]
  cases e:a.elem <;> simp [e]
 rw [ht]
 refine iCall ((nE a.body w6).mono ?_)
 rintro v17 w7 ⟨x7,hv17,-⟩
 have hv17:=hv17 (yM hga.1 (by omega))
 rw [show (rd a.body).1 = a from aX hga.1] at hv17
 have hap:=a.size_pos
 refine iJnX (fun xs w'=>xs = [.bool a.elem] ∧ Ext w7 w') (fun J hJ=>?_) ?_
 ·refine iFld (j:=0) (f:=0) hv17.sl rfl hap (by decide) (aO hv17.sl).1 (iEq (iCndP (fun e=>?_) (fun e=>?_)))
  ·exact hJ _ _ ⟨by rw [a.elem_kind,decide_eq_true (.inl (by omega))],Ext.refl _⟩
  ·refine iFld (j:=0) (f:=0) hv17.sl rfl hap (by decide) (aO hv17.sl).1 ?_
   refine iRet (zY a.kind w7) fun w10 x10=>hJ _ _ ⟨?_,x10⟩
   rw [a.elem_kind]
   congr 2
   exact decide_eq_decide.2 ⟨fun h=>.inr h,fun h=>h.resolve_left (by omega)⟩
 rintro _ w9 ⟨rfl,x9⟩
 intro _
 simp only [gx]
 have x69:=x7.trans x9
 refine iCnd (fun e=>?_) (fun e=>?_)
 ·refine f8 (cs:=#[sv a.body,v17]) (by simp [Instr.fill,aH (OwK.cell hv17),aH (show aF (sv a.body) = true from rfl)]) ?_
  refine iBsA fun qb w11 hqb x11 hB11=>?_
  have hz11:=OwK.ext hz (x69.trans x11)
  refine iAppK JC JK rfl (by decide) hz11 (SlK.ofBlk (n:=1) (k:=2) hB11 rfl (by decide)) (fun u hu=>?_) (by omega) (by omega) ((x6.trans x69).trans x11).size fun z' w12 ho hg12 _=>?_
  ·simp only [List.mem_cons,List.not_mem_nil,or_false] at hu
   rcases hu with rfl | rfl
   ·rfl
   ·exact OwK.cell hv17
  have c12:=bJ (S:=fun c=>z.ownBlock = some c) hg12 fun c hc=>hc
  have kp:∀ {lo:Nat} {u:Value} {g:Fm},FmW lo w11 u g → FmW 0 w12 u g:=fun hu=>OwK.mono (OwK.ch hu c12 fun c hc hS=>by
   obtain ⟨cur,hh⟩:=OwK.ty hz11 hS
   exact OwK.ne_blk hu (show Blk bN w11 c cur.toList by unfold Blk;rw [hh]) (by decide) hc) (Nat.zero_le _)
  refine iAdd (by omega) ?_
  refine hKn (z',i + 1) _ ⟨hil,((x6.trans x69).trans x11).grown hg12 fun c hc=>(OwK.blk hz11 c hc).1,L ++ [(v17,a)],?_,?_,fun p hp=>?_,?_⟩ (by show (subT f).length - (i + 1) < (subT f).length - i;omega)
  ·rw [tk,List.map_append,hL,e];rfl
  ·show OwK 2 _ _ _ z' (L ++ [(v17,a)]).length (gL (L ++ [(v17,a)]))
   rw [VW,List.length_append]
   exact ho
  ·rcases List.mem_append.1 hp with hp | hp
   ·exact kp (OwK.ext (hLf p hp) (x69.trans x11))
   ·rw [List.mem_singleton.1 hp];exact kp (OwK.ext hv17 (x9.trans x11))
  ·show (L ++ [(v17,a)]).length ≤ i + 1
   rw [List.length_append,List.length_singleton];omega
 ·refine iAdd (by omega) ?_
  refine hKn (z,i + 1) _ ⟨hil,x6.trans x69,L,?_,OwK.ext hz x69,fun p hp=>OwK.ext (hLf p hp) x69,by show L.length ≤ i + 1;omega⟩ (by show (subT f).length - (i + 1) < (subT f).length - i;omega)
  rw [tk,hL,e];simp
theorem AW {v:Value} {L:List Str} {w:World} (h:SlT w v L) (hl:L.length ≤ 1) (hg:∀ t ∈ L,goodT t = true):Ret Tryz.prog GI #[v] w (.bool true):=by
 apply SD;unfold HB
 refine fI h ?_
 refine iLp (fun i:Nat=>[.int .i64 (i:Int)]) (fun i w'=>i ≤ L.length ∧ Ext w w') (fun i=>L.length - i) 0 rfl ⟨Nat.zero_le _,Ext.refl _⟩ ?_
 rintro i w2 Kn ⟨hi,x2⟩ hKn
 intro _
 simp only [gx]
 refine iLt (iCndP (fun hlt=>?_) (fun _=>⟨by first | trivial | rfl,x2⟩))
 have hil:i < L.length:=by omega
 have h0:i = 0:=by omega
 refine iIaT (Sl.ext h x2) hil fun p hp=>iLd hp ?_
 refine iJnX (fun xs w'=>xs = [.bool false] ∧ Ext w2 w') (fun J hJ=>?_) ?_
 ·refine iRet (QX L[i] w2) fun w5 x5=>?_
  rw [hg _ (List.getElem_mem hil)]
  refine iNot (iCndF rfl (iLt (iCndF (decide_eq_false (by omega)) ?_)))
  exact hJ _ _ ⟨rfl,x5⟩
 rintro _ w4 ⟨rfl,x4⟩
 intro _
 simp only [gx]
 refine iCndF rfl (iAdd (by omega) ?_)
 exact hKn (i + 1) _ ⟨hil,x2.trans x4⟩ (by omega)
theorem AJ {v:Value} {f:Fm} {w:World} (h:MsW w v f) (hg:f.good) (hn:f.size ≤ 40):Ret Tryz.prog qG #[v] w (.bool true):=by
 obtain ⟨vl,vr,rfl,hl,hr⟩:=h.ex
 apply CW;unfold p4
 refine iNew2 fun q w1 hq x1 hB=>?_
 refine iJnX (fun xs w'=>xs = [.bool true] ∧ Ext w1 w') (fun J hJ=>?_) ?_
 ·refine iFa (iLdB hB (i:=0) (v:=vl) rfl (fI hl (iLe (iCndT (by decide) ?_))))
  refine iFa (iLdB hB (i:=1) (v:=vr) rfl (fI hr (iLe (iCndT (by simp) ?_))))
  refine iFa (iLdB hB (i:=0) (v:=vl) rfl ?_)
  refine iRet (AW (Sl.ext hl x1) (by simp) (fun t ht=>by cases ht)) fun w4 x4=>iCndT rfl ?_
  refine iFa (iLdB (hB.ext x4) (i:=1) (v:=vr) rfl ?_)
  refine iRet (AW (Sl.ext hr (x1.trans x4)) (by simp) (fun t ht=>by rw [List.mem_singleton.1 ht];exact XD hg hn)) fun w5 x5=>?_
  exact hJ _ _ ⟨rfl,x4.trans x5⟩
 rintro _ w3 ⟨rfl,x3⟩
 intro _
 exact ⟨rfl,x1.trans x3⟩
theorem wK {vl v fv:Value} {w:World} {b:Bool} (h:SlK 2 w vl 1 [v,fv]) {gv:Value} (hf:∀ w',Ext w w' → callV Tryz.prog gv [.agg #[v,fv]] w' fun u w''=>u = .bool b ∧ Ext w' w''):Ret Tryz.prog bL #[vl,gv] w (.bool b):=by
 have hi:Cal Tryz.prog bO #[vl,gv] w fun r w'=>Ext w w' ∧ r = .int .i64 (if b then 0 else -1):=by
  apply eL;unfold bP
  refine iLenK h ?_
  refine iLp (fun i:Nat=>[.int .i64 (i:Int)]) (fun i w'=>i ≤ 1 ∧ Ext w w' ∧ (0 < i → b = false)) (fun i=>1 - i) 0 rfl ⟨Nat.zero_le _,Ext.refl _,fun h=>absurd h (Nat.lt_irrefl 0)⟩ ?_
  rintro i w2 Kn ⟨hi,x2,hb⟩ hKn
  intro _
  simp only [gx]
  refine iLt (iCndP (fun hlt=>?_) (fun hlt=>?_))
  ·have hlt:(i:Int) < 1:=hlt
   have:i = 0:=by omega
   subst this
   refine iLdK (j:=0) (cs:=#[v,fv]) (SlK.ext h x2) rfl (by decide) rfl (fun j hj=>by rcases j with _ | _ | j;rfl;rfl;omega) ?_
   refine callV.mono (hf w2 x2) ?_
   rintro _ w3 ⟨rfl,x3⟩
   refine iCnd (fun e=>?_) (fun e=>?_)
   ·rw [e];exact ⟨x2.trans x3,rfl⟩
   ·refine iAdd (by decide) ?_
    exact hKn 1 _ ⟨Nat.le_refl _,x2.trans x3,fun _=>e⟩ (by decide)
  ·have hlt:¬ (i:Int) < 1:=hlt
   rw [hb (by omega)]
   exact ⟨x2,rfl⟩
 apply eB;unfold bM
 refine iCall (hi.mono ?_)
 rintro _ w1 ⟨x1,rfl⟩
 refine iLe ⟨?_,x1⟩
 cases b <;> rfl
theorem AS {t:Str} (ht:sysNo t < 10) (h2:2 ≤ sysNo t) {v vs:Value} {f:Fm} {w:World} (hm:MsW w v f) (hs:∃ a b,v = .agg #[a,b] ∧ SlK 2 w vs 1 [a,b]) (hg:f.good) (hn:f.size ≤ 40):Ret Tryz.prog pZ #[sv t,vs] w (.int .i64 (if 8 < (bQ f).length then 3 else 0)):=by
 obtain ⟨a,b,rfl,hs⟩:=hs
 apply D7;unfold pV
 have hlog:Ret Tryz.prog rV #[sv t] w (.bool true):=by
  apply F3;unfold rM
  have hl:Cal Tryz.prog tV #[] w fun r w'=>Ext w w' ∧ SlT w' r DL:=by
   apply HU;unfold tQ
   exact iBsCZ DL (by kernel_rfl) fun q w1 _ x1 hB=>⟨x1,hB.sltZ (n:=8) rfl (by decide)⟩
  refine iCall (hl.mono ?_)
  rintro v3 w1 ⟨x1,h3⟩
  refine iRet (gX (t:=t) h3) fun w2 x2=>⟨?_,x1.trans x2⟩
  rw [decide_eq_true (WU ht h2)]
 refine iRet hlog fun w1 x1=>iNot (iCndF rfl ?_)
 refine iRet (wK (b:=false) (SlK.ext hs x1) fun w' x'=>?_) fun w2 x2=>iCndF rfl ?_
 ·have h1:Ret Tryz.prog nT #[.agg #[a,b]] w' (.bool false):=by
   apply AV;unfold nQ
   refine iNew2 fun q w3 hq x3 hB=>iLdA hB rfl ?_
   exact iRet (AJ (hm.ext ((x1.trans x').trans x3)) hg hn) fun w4 x4=>iNot ⟨rfl,x3.trans x4⟩
  exact iRet h1 fun w'' x''=>⟨rfl,x''⟩
 have X2:=x1.trans x2
 refine iRet (wK (b:=decide (8 < (bQ f).length)) (SlK.ext hs X2) fun w' x'=>?_) fun w3 x3=>iCndP (fun e=>?_) (fun e=>?_)
 ·have h1:Ret Tryz.prog nS #[.agg #[a,b]] w' (.bool (decide (8 < (bQ f).length))):=by
   apply AQ;unfold nK
   refine iNew2 fun q w3 hq x3 hB=>iLdA hB rfl ?_
   refine iCall ((l5 (hm.ext ((X2.trans x').trans x3)) hg hn).mono ?_)
   rintro r w4 ⟨x4,L,hL,ho,-⟩
   refine iLenK ho.sl (iLt ⟨?_,x3.trans x4⟩)
   congr 1
   rw [← hL,List.length_map]
   exact decide_eq_decide.2 (by omega)
  exact iRet h1 fun w'' x''=>⟨rfl,x''⟩
 ·rw [if_pos e];exact ⟨rfl,X2.trans x3⟩
 ·rw [if_neg e];exact ⟨rfl,X2.trans x3⟩
end Go.Proofs.YtbfpohbmgjcjmaaGreatDoor

namespace Go.Vc
def tv (ps:List Fm) (t:Nat):Fm → Bool
 | .fls=>false
 | .and a b=>tv ps t a && tv ps t b
 | .or a b=>tv ps t a || tv ps t b
 | .imp a b=>!tv ps t a || tv ps t b
 | .var p=>t.testBit (ps.idxOf (.var p))
 | .box a=>t.testBit (ps.idxOf (.box a))
 | .dia a=>t.testBit (ps.idxOf (.dia a))
def Fm.isBox:Fm → Bool
 | .box _=>true
 | _=>false
def Fm.modal:Fm → Bool
 | .box _=>true
 | .dia _=>true
 | _=>false
def Fm.inner:Fm → Fm
 | .box a=>a
 | .dia a=>a
 | a=>a
def dmnd (ps:List Fm) (t:Nat) (e:Fm):Bool:=tv ps t e == e.isBox
def meet (ps:List Fm) (t:Nat) (e:Fm):Bool:=tv ps t e.inner == e.isBox
def needs (ps:List Fm):List Fm:=ps.filter Fm.modal
def reflL (s:Nat):Bool:=s == 4 || s == 6 || s == 7
def eF (s:Nat) (ps:List Fm) (t:Nat):Bool:=!reflL s || !(needs ps).any fun e=>dmnd ps t e && !meet ps t e
def dG (s:Nat) (ps:List Fm) (a b:Nat):Bool:=!(needs ps).any fun e=>dmnd ps a e && (if s = 5 ∨ s = 9 then !meet ps b e || !dmnd ps b e else if s = 6 then !dmnd ps b e else !meet ps b e)
def sees (s:Nat) (ps:List Fm) (a b:Nat):Bool:=
 if s = 7 then !(needs ps).any fun e=>dmnd ps a e != dmnd ps b e
 else if s = 8 then dG s ps a b && dG s ps b a
 else if s = 9 then dG s ps a b && (needs ps).any fun e=>dmnd ps b e && !dmnd ps a e
 else dG s ps a b
def p9 (s:Nat) (ps:List Fm) (e:Fm) (a b:Nat):Bool:=sees s ps a b && (!meet ps b e && (!(s == 9) || dmnd ps b e))
structure Liv (s:Nat) (ps:List Fm) (A:Nat → Prop):Prop where
 ok:∀ t,A t → eF s ps t = true
 ser:s = 3 → ∀ t,A t → ∃ u,A u ∧ sees s ps t u = true
 wit:∀ t,A t → ∀ e ∈ needs ps,dmnd ps t e = false → ∃ u,A u ∧ p9 s ps e t u = true
theorem iT {s:Nat} {ps:List Fm} {a b:Nat} (h:dG s ps a b = true) {e:Fm} (he:e ∈ needs ps) (hd:dmnd ps a e = true):(s = 5 ∨ s = 9 → meet ps b e = true ∧ dmnd ps b e = true) ∧ (s = 6 → dmnd ps b e = true) ∧ (¬ (s = 5 ∨ s = 9) → ¬ s = 6 → meet ps b e = true):=by
 unfold dG at h
 rw [Bool.not_eq_true',List.any_eq_false] at h
 have h:=h e he
 rw [hd,Bool.true_and] at h
 refine ⟨fun h1=>?_,fun h1=>?_,fun h1 h2=>?_⟩
 ·rw [if_pos h1] at h
  cases h2:meet ps b e <;> cases h3:dmnd ps b e <;> simp [h2,h3] at h ⊢
 ·subst h1
  rw [if_neg (by decide),if_pos rfl] at h
  simpa using h
 ·rw [if_neg h1,if_neg h2] at h
  simpa using h
theorem wN {s:Nat} {ps:List Fm} {a b:Nat} (h:∀ e ∈ needs ps,dmnd ps a e = true → (s = 5 ∨ s = 9 → meet ps b e = true ∧ dmnd ps b e = true) ∧ (s = 6 → dmnd ps b e = true) ∧ (¬ (s = 5 ∨ s = 9) → ¬ s = 6 → meet ps b e = true)):dG s ps a b = true:=by
 unfold dG
 rw [Bool.not_eq_true',List.any_eq_false]
 intro e he
 cases hd:dmnd ps a e with
 | false=>simp
 | true=>
  obtain ⟨h1,h2,h3⟩:=h e he hd
  rw [Bool.true_and]
  split
  ·rename_i hs
   rw [(h1 hs).1,(h1 hs).2];decide
  ·rename_i hs
   split
   ·rename_i h6;rw [h2 h6];decide
   ·rename_i h6;rw [h3 hs h6];decide
theorem FI {s:Nat} {ps:List Fm} {t:Nat} (h:eF s ps t = true) (hr:reflL s = true) {e:Fm} (he:e ∈ needs ps) (hd:dmnd ps t e = true):meet ps t e = true:=by
 unfold eF at h
 rw [hr,Bool.not_true,Bool.false_or,Bool.not_eq_true',List.any_eq_false] at h
 have h:=h e he
 rw [hd,Bool.true_and] at h
 simpa using h
theorem SN {s:Nat} {ps:List Fm} {a b:Nat} (hs:s = 7) (h:sees s ps a b = true) {e:Fm} (he:e ∈ needs ps):dmnd ps a e = dmnd ps b e:=by
 unfold sees at h
 rw [if_pos hs,Bool.not_eq_true',List.any_eq_false] at h
 have h:=h e he
 simpa using h
theorem XR {s:Nat} {ps:List Fm} {a b:Nat} (hs:s = 7) (h:∀ e ∈ needs ps,dmnd ps a e = dmnd ps b e):sees s ps a b = true:=by
 unfold sees
 rw [if_pos hs,Bool.not_eq_true',List.any_eq_false]
 intro e he
 rw [h e he];simp
theorem RK {s:Nat} {ps:List Fm} {a b:Nat} (h:sees s ps a b = true) (hb:eF s ps b = true) {e:Fm} (he:e ∈ needs ps) (hd:dmnd ps a e = true):meet ps b e = true:=by
 by_cases h7:s = 7
 ·have:=SN h7 h he
  rw [hd] at this
  exact FI hb (by rw [h7];rfl) he this.symm
 have hp:dG s ps a b = true:=by
  unfold sees at h
  rw [if_neg h7] at h
  split at h
  ·rw [Bool.and_eq_true] at h;exact h.1
  ·split at h
   ·rw [Bool.and_eq_true] at h;exact h.1
   ·exact h
 obtain ⟨h1,h2,h3⟩:=iT hp he hd
 by_cases h59:s = 5 ∨ s = 9
 ·exact (h1 h59).1
 by_cases h6:s = 6
 ·exact FI hb (by rw [h6];rfl) he (h2 h6)
 ·exact h3 h59 h6
def Parts (ps:List Fm):Fm → Prop
 | .fls=>True
 | .and a b=>Parts ps a ∧ Parts ps b
 | .or a b=>Parts ps a ∧ Parts ps b
 | .imp a b=>Parts ps a ∧ Parts ps b
 | .var _=>True
 | .box a=>.box a ∈ ps ∧ Parts ps a
 | .dia a=>.dia a ∈ ps ∧ Parts ps a
def tmod (s:Nat) (ps:List Fm) (A:Nat → Prop):MM:=⟨{t // A t},fun a b=>sees s ps a.1 b.1 = true,fun a p=>tv ps a.1 (.var p) = true⟩
theorem truth {s:Nat} {ps:List Fm} {A:Nat → Prop} (h:Liv s ps A):∀ {a:Fm},Parts ps a → ∀ t:{t // A t},(tmod s ps A).f a t ↔ tv ps t.1 a = true
 | .var p,_,t=>Iff.rfl
 | .fls,_,t=>by simp [MM.f,tv]
 | .and a b,hp,t=>by
  have h1:=truth h hp.1 t
  have h2:=truth h hp.2 t
  show (tmod s ps A).f a t ∧ (tmod s ps A).f b t ↔ _
  rw [h1,h2,tv,Bool.and_eq_true]
 | .or a b,hp,t=>by
  have h1:=truth h hp.1 t
  have h2:=truth h hp.2 t
  show (tmod s ps A).f a t ∨ (tmod s ps A).f b t ↔ _
  rw [h1,h2,tv,Bool.or_eq_true]
 | .imp a b,hp,t=>by
  have h1:=truth h hp.1 t
  have h2:=truth h hp.2 t
  show ((tmod s ps A).f a t → (tmod s ps A).f b t) ↔ _
  rw [h1,h2,tv]
  cases tv ps t.1 a <;> simp
 | .box a,hp,t=>by
  have hm:Fm.box a ∈ needs ps:=List.mem_filter.2 ⟨hp.1,rfl⟩
  constructor
  ·intro hf
   cases ht:tv ps t.1 (.box a) with
   | true=>rfl
   | false=>
    obtain ⟨u,hu,hw⟩:=h.wit t.1 t.2 _ hm (by unfold dmnd;rw [ht];rfl)
    unfold p9 at hw
    rw [Bool.and_eq_true,Bool.and_eq_true] at hw
    have:=(truth h hp.2 ⟨u,hu⟩).1 (hf ⟨u,hu⟩ hw.1)
    have h2:=hw.2.1
    unfold meet at h2
    rw [show (Fm.box a).inner = a from rfl,show tv ps u a = true from this] at h2
    cases h2
  ·intro ht u hu
   have hd:dmnd ps t.1 (.box a) = true:=by unfold dmnd;rw [ht];rfl
   have:=RK hu (h.ok u.1 u.2) hm hd
   unfold meet at this
   exact (truth h hp.2 u).2 (by simpa [Fm.inner,Fm.isBox] using this)
 | .dia a,hp,t=>by
  have hm:Fm.dia a ∈ needs ps:=List.mem_filter.2 ⟨hp.1,rfl⟩
  constructor
  ·rintro ⟨u,hu,hf⟩
   cases ht:tv ps t.1 (.dia a) with
   | true=>rfl
   | false=>
    have hd:dmnd ps t.1 (.dia a) = true:=by unfold dmnd;rw [ht];rfl
    have:=RK hu (h.ok u.1 u.2) hm hd
    have h1:=(truth h hp.2 u).1 hf
    unfold meet at this
    rw [show (Fm.dia a).inner = a from rfl,h1] at this
    cases this
  ·intro ht
   obtain ⟨u,hu,hw⟩:=h.wit t.1 t.2 _ hm (by unfold dmnd;rw [ht];rfl)
   unfold p9 at hw
   rw [Bool.and_eq_true,Bool.and_eq_true] at hw
   refine ⟨⟨u,hu⟩,hw.1,(truth h hp.2 ⟨u,hu⟩).2 ?_⟩
   have h2:=hw.2.1
   unfold meet at h2
   show tv ps u a = true
   simpa [Fm.inner,Fm.isBox] using h2
def dcnt (ps:List Fm) (t:Nat):Nat:=((needs ps).filter fun e=>dmnd ps t e).length
theorem RP {α:Type} {p q:α → Bool}:∀ {L:List α},(∀ e ∈ L,p e = true → q e = true) → (∃ e ∈ L,q e = true ∧ p e = false) → (L.filter p).length < (L.filter q).length
 | [],_,h=>by obtain ⟨e,he,_⟩:=h;cases he
 | x :: L,h1,h2=>by
  have mono:∀ {L:List α},(∀ e ∈ L,p e = true → q e = true) → (L.filter p).length ≤ (L.filter q).length:=by
   intro L
   induction L with
   | nil=>intro _;exact Nat.le_refl _
   | cons y L ih=>
    intro h
    have h3:=ih fun e he=>h e (List.mem_cons_of_mem _ he)
    have h4:=h y (List.mem_cons_self ..)
    cases hp:p y <;> cases hq:q y <;> simp [hp,hq] at h4 ⊢ <;> omega
  have hm:=mono fun e he=>h1 e (List.mem_cons_of_mem _ he)
  have hx:=h1 x (List.mem_cons_self ..)
  obtain ⟨e,he,hq,hp⟩:=h2
  rcases List.mem_cons.1 he with rfl | he
  ·simp [hp,hq];omega
  ·have ih:=RP (L:=L) (fun e he=>h1 e (List.mem_cons_of_mem _ he)) ⟨e,he,hq,hp⟩
   cases hp':p x <;> cases hq':q x <;> simp [hp',hq'] at hx ⊢ <;> omega
theorem ZN {s:Nat} {ps:List Fm} {A:Nat → Prop} (h:Liv s ps A):(tmod s ps A).ok s:=by
 unfold MM.ok
 split
 ·rename_i e
  exact fun w=>let ⟨u,hu,hs⟩:=h.ser e w.1 w.2;⟨⟨u,hu⟩,hs⟩
 split
 ·rename_i e
  subst e
  intro w
  show sees 4 ps w.1 w.1 = true
  exact wN fun e he hd=>⟨fun h=>by omega,fun h=>by omega,fun _ _=>FI (h.ok w.1 w.2) rfl he hd⟩
 split
 ·rename_i e
  subst e
  intro a b c hab hbc
  exact wN fun e he hd=>by
   have h1:=(iT (s:=5) hab he hd).1 (.inl rfl)
   have h2:=(iT (s:=5) hbc he h1.2).1 (.inl rfl)
   exact ⟨fun _=>h2,fun h=>by omega,fun h=>absurd (.inl rfl) h⟩
 split
 ·rename_i e
  subst e
  refine ⟨fun w=>wN fun e he hd=>⟨fun h=>by omega,fun _=>hd,fun _ h=>absurd rfl h⟩,fun a b c hab hbc=>wN fun e he hd=>?_⟩
  have h1:=(iT (s:=6) hab he hd).2.1 rfl
  have h2:=(iT (s:=6) hbc he h1).2.1 rfl
  exact ⟨fun h=>by omega,fun _=>h2,fun _ h=>absurd rfl h⟩
 split
 ·rename_i e
  exact ⟨fun w=>XR e fun _ _=>rfl,fun a b c hab hac=>XR e fun x hx=>(SN e hab hx).symm.trans (SN e hac hx)⟩
 split
 ·rename_i e
  subst e
  intro a b hab
  have hab:(dG 8 ps a.1 b.1 && dG 8 ps b.1 a.1) = true:=hab
  show (dG 8 ps b.1 a.1 && dG 8 ps a.1 b.1) = true
  rw [Bool.and_comm];exact hab
 split
 ·rename_i e
  subst e
  have at_:∀ {a b:Nat},sees 9 ps a b = true → dG 9 ps a b = true ∧ ∃ e ∈ needs ps,dmnd ps b e = true ∧ dmnd ps a e = false:=fun {a b} h=>by
   have h:(dG 9 ps a b && (needs ps).any fun e=>dmnd ps b e && !dmnd ps a e) = true:=h
   rw [Bool.and_eq_true,List.any_eq_true] at h
   obtain ⟨h1,e,he,h2⟩:=h
   rw [Bool.and_eq_true,Bool.not_eq_true'] at h2
   exact ⟨h1,e,he,h2⟩
  have grow:∀ {a b:Nat},sees 9 ps a b = true → dcnt ps a < dcnt ps b:=fun {a b} h=>by
   obtain ⟨h1,h2⟩:=at_ h
   exact RP (fun e he hd=>((iT (s:=9) h1 he hd).1 (.inr rfl)).2) h2
  refine ⟨fun a b c hab hbc=>?_,fun P hP=>?_⟩
  ·obtain ⟨h1,e,he,h2,h3⟩:=at_ hab
   obtain ⟨k1,-⟩:=at_ hbc
   show (dG 9 ps a.1 c.1 && (needs ps).any fun e=>dmnd ps c.1 e && !dmnd ps a.1 e) = true
   rw [Bool.and_eq_true,List.any_eq_true]
   refine ⟨wN fun e he hd=>?_,e,he,?_⟩
   ·have g1:=(iT (s:=9) h1 he hd).1 (.inr rfl)
    have g2:=(iT (s:=9) k1 he g1.2).1 (.inr rfl)
    exact ⟨fun _=>g2,fun h=>by omega,fun h=>absurd (.inr rfl) h⟩
   ·rw [((iT (s:=9) k1 he h2).1 (.inr rfl)).2,h3];rfl
  ·have key:∀ n (w:{t // A t}),(needs ps).length - dcnt ps w.1 ≤ n → P w:=by
    intro n
    induction n with
    | zero=>
     intro w hw
     refine hP w fun u hu=>?_
     have h1:=grow hu
     have h2:dcnt ps u.1 ≤ (needs ps).length:=List.length_filter_le _ _
     omega
    | succ n ih=>
     intro w hw
     refine hP w fun u hu=>ih u ?_
     have h1:=grow hu
     omega
   exact fun w=>key _ w (Nat.le_refl _)
 ·trivial
theorem YW {s:Nat} {ps:List Fm} {A:Nat → Prop} (h:Liv s ps A) (hs:¬ s = 0) {a:Fm} (hp:Parts ps a) (hv:SysV s a) {t:Nat} (ht:A t):tv ps t a = true:=by
 unfold SysV at hv
 rw [if_neg hs] at hv
 exact (truth h hp ⟨t,ht⟩).1 (hv (tmod s ps A) (ZN h) ⟨t,ht⟩)
end Go.Vc

namespace Go.Vc
theorem dH {l n:Str} (h:sysNo l < 10) {k:Nat} (hn:cE[k]? = some n) (hs:sysNo n = k):decide (l = n) = decide (sysNo l = k):=by
 refine decide_eq_decide.2 ⟨fun e=>by rw [e];exact hs,fun e=>?_⟩
 have e1:cE[sysNo l]? = some l:=by
  have:=List.getElem_idxOf (x:=l) (xs:=cE) h
  rw [List.getElem?_eq_getElem h]
  exact congrArg some this
 rw [e,hn] at e1
 exact (Option.some.inj e1).symm
theorem QP {p a b:Bool} {K:Value → Prop} (h:K (.bool (p == (a == b)))):yU p (.bool a) (.bool b) K:=⟨a,b,rfl,rfl,h⟩
theorem YL {ps:List Fm} {t:Nat} {e:Fm} (h:e.modal = true):tv ps t e = t.testBit (ps.idxOf e):=by
 cases e with
 | box _=>rfl
 | dia _=>rfl
 | var _=>cases h
 | fls=>cases h
 | and _ _=>cases h
 | or _ _=>cases h
 | imp _ _=>cases h
theorem TX (e:Fm):e.isBox = decide ((e.kind:Int) = 5):=by cases e <;> rfl
theorem WN {ps:List Fm} {e:Fm} (h:e ∈ needs ps):e ∈ ps ∧ e.modal = true:=List.mem_filter.1 h
def rN (ps:List Fm) (e:Fm):List Value:=(List.range (2 ^ ps.length)).map fun t=>Value.bool (tv ps t e.inner)
theorem Q0 {ps:List Fm} {e:Fm} {t:Nat} (h:t < 2 ^ ps.length):(rN ps e)[t]? = some (.bool (tv ps t e.inner)):=by simp [rN,h]
theorem nC (ps:List Fm) (e:Fm):(rN ps e).length = 2 ^ ps.length:=by simp [rN]
def e5 (ps:List Fm) (L:List (Value × Fm)):List Value:=L.flatMap fun p=>[.int .i64 ((ps.idxOf p.2:Nat):Int),.int .i64 (p.2.kind:Int),p.1]
theorem T3 (ps:List Fm) (A B:List (Value × Fm)):e5 ps (A ++ B) = e5 ps A ++ e5 ps B:=by simp [e5]
theorem OT {ps:List Fm}:∀ {L:List (Value × Fm)} {j:Nat},j < L.length → ∀ k,k < 3 → (e5 ps L)[j * 3 + k]? = ([Value.int .i64 ((ps.idxOf (gt L j).2:Nat):Int),.int .i64 ((gt L j).2.kind:Int),(gt L j).1]:List Value)[k]?
 | [],j,h,_,_=>absurd h (Nat.not_lt_zero j)
 | x :: R,0,_,k,hk=>by
  rw [show e5 ps (x :: R) = [.int .i64 ((ps.idxOf x.2:Nat):Int),.int .i64 (x.2.kind:Int),x.1] ++ e5 ps R by simp [e5],Nat.zero_mul,Nat.zero_add,List.getElem?_append_left (by simp;omega)]
  rfl
 | x :: R,j + 1,h,k,hk=>by
  have:=OT (ps:=ps) (L:=R) (j:=j) (by simpa using h) k hk
  rw [show e5 ps (x :: R) = [.int .i64 ((ps.idxOf x.2:Nat):Int),.int .i64 (x.2.kind:Int),x.1] ++ e5 ps R by simp [e5],show (j + 1) * 3 + k = j * 3 + k + 3 by omega,List.getElem?_append_right (by simp)]
  simp only [List.length_cons,List.length_nil,Nat.add_sub_cancel]
  exact this
end Go.Vc
namespace Go.Proofs.YtbfpohbmgjcjmaaGreatDoor
open Go.Vc
structure NeedW (w:World) (u:Value) (ps:List Fm) (e:Fm):Prop where
 ex:∃ vi,u = .agg #[.int .i64 ((ps.idxOf e:Nat):Int),.int .i64 (e.kind:Int),vi] ∧ Ow 0 aQ w vi (rN ps e)
theorem NeedW.ext {w w':World} {u:Value} {ps:List Fm} {e:Fm} (h:NeedW w u ps e) (x:Ext w w'):NeedW w' u ps e:=
 let ⟨vi,h1,h2⟩:=h.ex
 ⟨vi,h1,h2.ext x⟩
structure NdW (m:Nat) (w:World) (v:Value) (ps M:List Fm):Prop where
 ex:∃ L:List (Value × Fm),L.map Prod.snd = M ∧ OwK 3 0 bI w v L.length (e5 ps L) ∧ ∀ p ∈ L,Ow 0 aQ w p.1 (rN ps p.2) ∧ ∀ c,p.1.ownBlock = some c → c < m
theorem NdW.ext {m:Nat} {w w':World} {v:Value} {ps M:List Fm} (h:NdW m w v ps M) (x:Ext w w'):NdW m w' v ps M:=
 let ⟨L,h1,h2,h3⟩:=h.ex
 ⟨L,h1,OwK.ext h2 x,fun p hp=>⟨(h3 p hp).1.ext x,(h3 p hp).2⟩⟩
theorem eT {m:Nat} {v gv:Value} {ps M:List Fm} {w:World} {p:Fm → Bool} (h:NdW m w v ps M) (hf:∀ e ∈ M,∀ w' u,Ext w w' → NeedW w' u ps e → callV Tryz.prog gv [u] w' fun r w''=>r = .bool (p e) ∧ Ext w' w''):
  Ret Tryz.prog dA #[v,gv] w (.bool (M.any p)):=by
 obtain ⟨L,hL,ho,hi⟩:=h.ex
 have hln:=ho.sl.2
 have hi:Cal Tryz.prog d6 #[v,gv] w fun r w'=>Ext w w' ∧ ∃ z:Int,r = .int .i64 z ∧ (0 ≤ z ↔ ∃ e ∈ M,p e = true):=by
  apply kS;unfold d7
  refine iLenK ho.sl ?_
  refine iLp (fun i:Nat=>[.int .i64 (i:Int)]) (fun i w'=>i ≤ L.length ∧ Ext w w' ∧ ∀ j,j < i → p (gt L j).2 = false) (fun i=>L.length - i) 0 rfl ⟨Nat.zero_le _,Ext.refl _,fun j hj=>absurd hj (Nat.not_lt_zero j)⟩ ?_
  rintro i w2 Kn ⟨hil,x2,hall⟩ hKn
  intro _
  simp only [gx]
  refine iLt (iCndP (fun hlt=>?_) (fun hlt=>?_))
  ·have hil:i < L.length:=by omega
   have hm:gt L i ∈ L:=by rw [gt_eq hil];exact List.getElem_mem _
   have hmM:(gt L i).2 ∈ M:=by rw [← hL];exact List.mem_map.2 ⟨_,hm,rfl⟩
   refine iLdK (j:=i) (cs:=#[.int .i64 ((ps.idxOf (gt L i).2:Nat):Int),.int .i64 ((gt L i).2.kind:Int),(gt L i).1]) (OwK.ext ho x2).sl rfl hil rfl (fun j hj=>?_) ?_
   ·rw [OT hil j hj];simp
   refine callV.mono (hf _ hmM w2 _ x2 ⟨_,rfl,(hi _ hm).1.ext x2⟩) ?_
   rintro _ w3 ⟨rfl,x3⟩
   refine iCnd (fun e=>?_) (fun e=>?_)
   ·exact ⟨x2.trans x3,_,rfl,fun _=>⟨_,hmM,e⟩,fun _=>by omega⟩
   ·refine iAdd (by have:=OwK.sl ho;obtain ⟨_,_,_,_,_,h9,_⟩:=this;omega) ?_
    refine hKn (i + 1) _ ⟨hil,x2.trans x3,fun j hj=>?_⟩ (by omega)
    by_cases hji:j = i
    ·rw [hji];exact e
    ·exact hall j (by omega)
  ·refine ⟨x2,_,rfl,fun h=>by omega,fun ⟨e,he,hp⟩=>?_⟩
   rw [← hL] at he
   obtain ⟨y,hy,rfl⟩:=List.mem_map.1 he
   obtain ⟨j,hj,rfl⟩:=List.getElem_of_mem hy
   have:=hall j (by omega)
   rw [gt_eq hj] at this
   rw [this] at hp;cases hp
 apply jJ;unfold dK
 refine iCall (hi.mono ?_)
 rintro _ w1 ⟨x1,z,rfl,hz⟩
 refine iLe ⟨?_,x1⟩
 congr 1
 rw [Bool.eq_iff_iff,decide_eq_true_eq,hz,List.any_eq_true]
variable {ps:List Fm} {e:Fm} {t:Nat} {w:World} {u:Value}
theorem cL (h:NeedW w u ps e) (he:e ∈ needs ps) (h8:ps.length ≤ 8) (ht:t < 2 ^ ps.length):Ret Tryz.prog gY #[u,.int .i64 (t:Int)] w (.bool (dmnd ps t e)):=by
 obtain ⟨vi,rfl,hi⟩:=h.ex
 have hm:=WN he
 have hidx:ps.idxOf e ≤ 8:=by have:=List.idxOf_le_length (a:=e) (l:=ps);omega
 have h256:2 ^ ps.length ≤ 2 ^ 8:=Nat.pow_le_pow_right (by decide) h8
 apply HZ;unfold tW
 refine iNew3 fun q w1 hq x1 hB=>?_
 refine iFa (iLdB hB (i:=0) (v:=.int .i64 ((ps.idxOf e:Nat):Int)) rfl ?_)
 refine iRetQ (fun w' _=>CP t (ps.idxOf e) (by omega) (by omega) w') ?_
 refine iFa (iLdB hB (i:=1) (v:=.int .i64 (e.kind:Int)) rfl (iEq (QP fun w2 x2=>⟨?_,x1.trans x2⟩)))
 unfold dmnd
 rw [YL hm.2,TX]
 cases (t.testBit (ps.idxOf e) == decide ((e.kind:Int) = 5)) <;> rfl
theorem wX (h:NeedW w u ps e) (ht:t < 2 ^ ps.length):Ret Tryz.prog nZ #[u,.int .i64 (t:Int)] w (.bool (meet ps t e)):=by
 obtain ⟨vi,rfl,hi⟩:=h.ex
 apply KQ;unfold xH
 refine iNew3 fun q w1 hq x1 hB=>?_
 refine iFa (iLdB hB (i:=2) (v:=vi) rfl ?_)
 refine iIa (j:=(t:Int)) (hi.ext x1).sl (by omega) (by rw [nC];omega) fun p hp=>?_
 rw [Int.toNat_natCast,Q0 ht] at hp
 refine iLd hp ?_
 refine iFa (iLdB hB (i:=1) (v:=.int .i64 (e.kind:Int)) rfl (iEq (QP fun w2 x2=>⟨?_,x1.trans x2⟩)))
 unfold meet
 rw [TX]
 cases (tv ps t e.inner == decide ((e.kind:Int) = 5)) <;> rfl
theorem FO {l:Str} (hl:sysNo l < 10) (w:World):Ret Tryz.prog vW #[sv l] w (.bool (reflL (sysNo l))):=by
 apply IS;unfold vS
 refine iJnB (reflL (sysNo l)) w (fun J hJ=>?_) (fun w2 x2=>fun _=>⟨by first | trivial | rfl,x2⟩)
 refine iEqT (b:=[84]) ?_
 rw [dH hl (k:=4) rfl (by decide)]
 refine iCndP (fun e=>?_) (fun e4=>?_)
 ·rw [e] at hJ;exact hJ _ (Ext.refl _)
 refine iEqT (b:=[83,52]) ?_
 rw [dH hl (k:=6) rfl (by decide)]
 refine iCndP (fun e=>?_) (fun e6=>?_)
 ·rw [e] at hJ;exact hJ _ (Ext.refl _)
 refine iEqT (b:=[83,53]) ?_
 rw [dH hl (k:=7) rfl (by decide)]
 have:reflL (sysNo l) = decide (sysNo l = 7):=by
  unfold reflL
  rw [Bool.eq_iff_iff]
  simp [e4,e6]
 rw [this] at hJ
 exact hJ _ (Ext.refl _)
structure TyW (m:Nat) (w:World) (q:Nat) (l:Str) (ps:List Fm) (vp vn vc vr va:Value):Prop where
 blk:Blk 178 w q [sv l,vp,vn,vc,vr,va]
 nd:NdW m w vn ps (needs ps)
variable {q m:Nat} {l:Str} {vp vn vc vr va:Value} {a b:Nat}
theorem DO {P:Program} {w:World} {f:FuncId} {args:List Value} {cs:Array Value} {K:Value → World → Prop} (hc:Cal P f (args.toArray ++ cs) w K):callV P (.func (.func f) #[] cs) args w K:=⟨K,.inl ⟨f,#[],cs,rfl,by simpa using hc⟩,fun _ _ h=>h⟩
theorem iNewV {w:World} {e:TypeId} {v:Value} {K:Value → World → Prop} (hv:aF v = true) (h:∀ q w',q = w.heap.size ∧ w'.heap.size = q + 1 → Ext w w' → Blk e w' q [v] → K (.pointer (some ⟨q,0,none⟩)) w'):xNew (Value.cells v) e w K:=
 iNew fun q w' h1 h2 h3=>h q w' h1 h2 (by rw [aH hv] at h3;exact h3)
theorem TyW.ext {w':World} (h:TyW m w q l ps vp vn vc vr va) (x:Ext w w'):TyW m w' q l ps vp vn vc vr va:=⟨h.blk.ext x,h.nd.ext x⟩
theorem KK (h:TyW m w q l ps vp vn vc vr va) (hl:sysNo l < 10) (h8:ps.length ≤ 8) (ht:t < 2 ^ ps.length):Ret Tryz.prog iY #[.pointer (some ⟨q,0,none⟩),.int .i64 (t:Int)] w (.bool (eF (sysNo l) ps t)):=by
 apply CT;unfold oG
 refine vP fun q1 w1 hq x1 hB=>?_
 have h1:=h.ext x1
 refine iNil (iFa (iLdB h1.blk (i:=0) (v:=sv l) rfl ?_))
 refine iRet (FO hl w1) fun w2 x2=>?_
 have X2:=x1.trans x2
 unfold eF
 refine iNot (iCnd (fun e=>?_) (fun e=>?_))
 ·rw [e];exact ⟨rfl,X2⟩
 rw [e,Bool.false_or]
 have h2:=h1.ext x2
 refine iNil (iFa (iLdB h2.blk (i:=2) (v:=vn) rfl ?_))
 refine iRet (eT (p:=fun e=>dmnd ps t e && !meet ps t e) h2.nd fun e he w' u x' hu=>?_) fun w3 x3=>iNot ⟨rfl,X2.trans x3⟩
 refine S8 ?_
 have hB':=hB.ext (x2.trans x')
 obtain ⟨vi,rfl,hi⟩:=hu.ex
 apply zD;unfold mL
 refine iNew3 fun q4 w4 hq4 x4 hB4=>?_
 refine iJnB (dmnd ps t e && !meet ps t e) w4 (fun J hJ=>?_) (fun w2 x2=>fun _=>⟨by first | trivial | rfl,x4.trans x2⟩)
 refine iLdA hB4 rfl (iLdB (hB'.ext x4) (i:=0) (v:=.int .i64 (t:Int)) rfl ?_)
 refine iRet (cL (hu.ext x4) he h8 ht) fun w5 x5=>iCnd (fun d=>?_) (fun d=>?_)
 ·rw [d,Bool.true_and] at hJ
  refine iLdA (hB4.ext x5) rfl (iLdB (hB'.ext (x4.trans x5)) (i:=0) (v:=.int .i64 (t:Int)) rfl ?_)
  exact iRet (wX (hu.ext (x4.trans x5)) ht) fun w6 x6=>iNot (hJ _ (x5.trans x6))
 ·rw [d,Bool.false_and] at hJ
  exact hJ _ x5
end Go.Proofs.YtbfpohbmgjcjmaaGreatDoor

namespace Go.Vc
def cntB (AL:List Bool):Nat:=(AL.filter id).length
theorem TB:∀ {AL:List Bool} {i:Nat},i < AL.length → gt AL i = true → cntB (AL.set i false) < cntB AL
 | [],i,h,_=>absurd h (Nat.not_lt_zero i)
 | x :: AL,0,_,h=>by
  have h:x = true:=h
  subst h
  simp [cntB]
 | x :: AL,i + 1,h,k=>by
  have:=TB (AL:=AL) (i:=i) (by simpa using h) k
  unfold cntB at this ⊢
  cases x <;> simp <;> exact this
theorem ZT {AL:List Bool} {i j:Nat} {b:Bool} (hj:j < AL.length):gt (AL.set i b) j = if i = j then b else gt AL j:=by
 rw [gt_eq (by rw [List.length_set];exact hj),gt_eq hj,List.getElem_set]
def ES (s:Nat) (ps:List Fm) (AL:List Bool) (t:Nat):Bool:=(List.range (2 ^ ps.length)).any fun u=>gt AL u && sees s ps t u
def E2 (s:Nat) (ps:List Fm) (AL:List Bool) (t:Nat) (e:Fm):Bool:=(List.range (2 ^ ps.length)).any fun u=>gt AL u && p9 s ps e t u
def surv (s:Nat) (ps:List Fm) (AL:List Bool) (t:Nat):Bool:=!(decide (s = 3) && !ES s ps AL t) && !(needs ps).any fun e=>!dmnd ps t e && !E2 s ps AL t e
theorem Z3 {s:Nat} {ps:List Fm} {AL:List Bool} (h1:∀ t,t < 2 ^ ps.length → gt AL t = true → eF s ps t = true) (h2:∀ t,t < 2 ^ ps.length → gt AL t = true → surv s ps AL t = true):Liv s ps fun t=>t < 2 ^ ps.length ∧ gt AL t = true:=by
 refine ⟨fun t ht=>h1 t ht.1 ht.2,fun h3 t ht=>?_,fun t ht e he hd=>?_⟩
 ·have:=h2 t ht.1 ht.2
  unfold surv at this
  rw [Bool.and_eq_true,decide_eq_true h3,Bool.true_and,Bool.not_not] at this
  obtain ⟨u,hu,hx⟩:=List.any_eq_true.1 this.1
  rw [Bool.and_eq_true] at hx
  exact ⟨u,⟨List.mem_range.1 hu,hx.1⟩,hx.2⟩
 ·have:=h2 t ht.1 ht.2
  unfold surv at this
  rw [Bool.and_eq_true,Bool.not_eq_true' ((needs ps).any _),List.any_eq_false] at this
  have:=this.2 e he
  rw [hd,Bool.not_false,Bool.true_and,Bool.not_eq_true',Bool.not_eq_false] at this
  obtain ⟨u,hu,hx⟩:=List.any_eq_true.1 this
  rw [Bool.and_eq_true] at hx
  exact ⟨u,⟨List.mem_range.1 hu,hx.1⟩,hx.2⟩
theorem BL {n:Nat} {p:Nat → Bool} (h:∀ u,u < n → p u = false):(List.range n).any p = false:=List.any_eq_false.2 fun u hu=>by rw [h u (List.mem_range.1 hu)];decide
theorem EU {n u:Nat} {p:Nat → Bool} (hu:u < n) (h:p u = true):(List.range n).any p = true:=List.any_eq_true.2 ⟨u,List.mem_range.2 hu,h⟩
end Go.Vc
namespace Go.Proofs.YtbfpohbmgjcjmaaGreatDoor
open Go.Vc
variable {ps:List Fm} {e:Fm} {t:Nat} {w:World} {u:Value} {q m:Nat} {l:Str} {vp vn vc vr va:Value} {a b:Nat}
theorem nB (h:TyW m w q l ps vp vn vc vr va) (hl:sysNo l < 10) (h8:ps.length ≤ 8) (ha:a < 2 ^ ps.length) (hb:b < 2 ^ ps.length):Ret Tryz.prog tR #[.pointer (some ⟨q,0,none⟩),.int .i64 (a:Int),.int .i64 (b:Int)] w (.bool (dG (sysNo l) ps a b)):=by
 apply H1;unfold s7
 refine iNewV rfl fun q1 w1 hq1 x1 hB1=>?_
 refine vP fun q2 w2 hq2 x2 hB2=>?_
 refine vP fun q3 w3 hq3 x3 hB3=>?_
 have X3:=(x1.trans x2).trans x3
 have h3:=h.ext X3
 have hB1':=hB1.ext (x2.trans x3)
 have hB2':=hB2.ext x3
 refine iLdB hB1' (i:=0) (v:=.pointer (some ⟨q,0,none⟩)) rfl (iNil (iFa (iLdB h3.blk (i:=2) (v:=vn) rfl ?_)))
 refine iRet (eT (p:=fun e=>dmnd ps a e && (if sysNo l = 5 ∨ sysNo l = 9 then !meet ps b e || !dmnd ps b e else if sysNo l = 6 then !dmnd ps b e else !meet ps b e)) h3.nd fun e he w' u x' hu=>?_) fun w4 x4=>iNot ⟨rfl,X3.trans x4⟩
 refine DO ?_
 obtain ⟨vi,rfl,hi⟩:=id hu.ex
 apply C3;unfold p6
 refine iNew3 fun q4 w4 hq4 x4 hB4=>?_
 have y4:=x'.trans x4
 refine iLdA hB4 rfl (iLdB (hB2'.ext y4) (i:=0) (v:=.int .i64 (a:Int)) rfl ?_)
 refine iRet (cL (hu.ext x4) he h8 ha) fun w5 x5=>iNot (iCnd (fun d=>?_) (fun d=>?_))
 ·rw [Bool.not_eq_true'] at d
  rw [d,Bool.false_and]
  exact ⟨rfl,x4.trans x5⟩
 rw [Bool.not_eq_false'] at d
 rw [d,Bool.true_and]
 have x45:=x4.trans x5
 have y5:=x'.trans x45
 refine iLdB (hB1'.ext y5) (i:=0) (v:=.pointer (some ⟨q,0,none⟩)) rfl (iNil (iFa (iLdB (h3.blk.ext y5) (i:=0) (v:=sv l) rfl ?_)))
 refine iEqT (b:=[75,52]) ?_
 rw [dH hl (k:=5) rfl (by decide)]
 refine iJnX (fun xs w'=>xs = [.bool (decide (sysNo l = 5 ∨ sysNo l = 9))] ∧ w' = w5) (fun J hJ=>?_) ?_
 ·refine iCndP (fun e=>hJ _ _ ⟨by rw [decide_eq_true (.inl e)],rfl⟩) (fun e=>iEqT (b:=[71,76]) ?_)
  rw [dH hl (k:=9) rfl (by decide)]
  refine hJ _ _ ⟨?_,rfl⟩
  congr 2
  exact decide_eq_decide.2 ⟨fun h=>.inr h,fun h=>h.resolve_left e⟩
 rintro _ w6 ⟨rfl,rfl⟩
 intro _
 simp only [gx]
 have dem:∀ {w':World} {K:Value → World → Prop},Ext w6 w' → (∀ w'',Ext w' w'' → K (.bool (dmnd ps b e)) w'') → xLdA w' 3 (.pointer (some ⟨q4,0,none⟩)) fun v=>xLd w' (.pointer (some ⟨q3,0,none⟩)) fun v'=>callV Tryz.prog (.func (.func gY) #[] #[]) [v,v'] w' K:=fun x hK=>by
  refine iLdA (hB4.ext (x5.trans x)) rfl (iLdB (hB3.ext (y5.trans x)) (i:=0) (v:=.int .i64 (b:Int)) rfl ?_)
  exact iRet (cL (hu.ext (x45.trans x)) he h8 hb) hK
 have mts:∀ {w':World} {K:Value → World → Prop},Ext w6 w' → (∀ w'',Ext w' w'' → K (.bool (meet ps b e)) w'') → xLdA w' 3 (.pointer (some ⟨q4,0,none⟩)) fun v=>xLd w' (.pointer (some ⟨q3,0,none⟩)) fun v'=>callV Tryz.prog (.func (.func nZ) #[] #[]) [v,v'] w' K:=fun x hK=>by
  refine iLdA (hB4.ext (x5.trans x)) rfl (iLdB (hB3.ext (y5.trans x)) (i:=0) (v:=.int .i64 (b:Int)) rfl ?_)
  exact iRet (wX (hu.ext (x45.trans x)) hb) hK
 refine iCndP (fun e1=>?_) (fun e1=>?_)
 ·rw [if_pos e1]
  refine iJnB (!meet ps b e || !dmnd ps b e) w6 (fun J hJ=>?_) (fun w7 x7=>fun _=>⟨by first | trivial | rfl,x45.trans x7⟩)
  refine mts (Ext.refl _) fun w7 x7=>iNot (iCnd (fun d=>?_) (fun d=>?_))
  ·rw [d,Bool.true_or] at hJ;exact hJ _ x7
  ·rw [d,Bool.false_or] at hJ
   exact dem x7 fun w8 x8=>iNot (hJ _ (x7.trans x8))
 rw [if_neg e1]
 refine iEqT (b:=[83,52]) ?_
 rw [dH hl (k:=6) rfl (by decide)]
 refine iCndP (fun e2=>?_) (fun e2=>?_)
 ·rw [if_pos e2]
  exact dem (Ext.refl _) fun w8 x8=>iNot ⟨rfl,x45.trans x8⟩
 ·rw [if_neg e2]
  exact mts (Ext.refl _) fun w8 x8=>iNot ⟨rfl,x45.trans x8⟩
theorem JQ (h:TyW m w q l ps vp vn vc vr va) (hl:sysNo l < 10) (h8:ps.length ≤ 8) (ha:a < 2 ^ ps.length) (hb:b < 2 ^ ps.length):Ret Tryz.prog xZ #[.pointer (some ⟨q,0,none⟩),.int .i64 (a:Int),.int .i64 (b:Int)] w (.bool (sees (sysNo l) ps a b)):=by
 apply KT;unfold xK
 refine vP fun q1 w1 hq1 x1 hB1=>?_
 refine vP fun q2 w2 hq2 x2 hB2=>?_
 have X2:=x1.trans x2
 have h2:=h.ext X2
 have hB1':=hB1.ext x2
 unfold sees
 have dem:∀ {w' w4:World} {q4 q5 a:Nat} {e:Fm} {u:Value} {K:Value → World → Prop},Blk bI w4 q4 [.int .i64 ((ps.idxOf e:Nat):Int),.int .i64 (e.kind:Int),u] → Blk 2 w' q5 [.int .i64 (a:Int)] → NeedW w' (.agg #[.int .i64 ((ps.idxOf e:Nat):Int),.int .i64 (e.kind:Int),u]) ps e → e ∈ needs ps → a < 2 ^ ps.length → Ext w4 w' → (∀ w'',Ext w' w'' → K (.bool (dmnd ps a e)) w'') → xLdA w' 3 (.pointer (some ⟨q4,0,none⟩)) fun v=>xLd w' (.pointer (some ⟨q5,0,none⟩)) fun v'=>callV Tryz.prog (.func (.func gY) #[] #[]) [v,v'] w' K:=fun {w' w4 q4 q5 a e u K} h4 h5 hu he ha x hK=>by
  refine iLdA (h4.ext x) rfl (iLdB h5 (i:=0) (v:=.int .i64 (a:Int)) rfl ?_)
  exact iRet (cL hu he h8 ha) hK
 refine iNil (iFa (iLdB h2.blk (i:=0) (v:=sv l) rfl ?_))
 refine iEqT (b:=[83,53]) ?_
 rw [dH hl (k:=7) rfl (by decide)]
 refine iCndP (fun e7=>?_) (fun e7=>?_)
 ·rw [if_pos e7]
  refine iNil (iFa (iLdB h2.blk (i:=2) (v:=vn) rfl ?_))
  refine iRet (eT (p:=fun e=>dmnd ps a e != dmnd ps b e) h2.nd fun e he w' u x' hu=>?_) fun w4 x4=>iNot ⟨rfl,X2.trans x4⟩
  refine DO ?_
  obtain ⟨vi,rfl,hi⟩:=id hu.ex
  apply HS;unfold sM
  refine iNew3 fun q4 w4 hq4 x4 hB4=>?_
  have y4:=x'.trans x4
  refine iLdA hB4 rfl (iLdB (hB1'.ext y4) (i:=0) (v:=.int .i64 (a:Int)) rfl ?_)
  refine iRetQ (fun w' x=>cL (hu.ext (x4.trans x)) he h8 ha) ?_
  refine iLdA hB4 rfl (iLdB (hB2.ext y4) (i:=0) (v:=.int .i64 (b:Int)) rfl ?_)
  refine iRetQ (fun w' x=>cL (hu.ext (x4.trans x)) he h8 hb) ?_
  refine QP fun w5 x5=>⟨?_,x4.trans x5⟩
  cases dmnd ps a e <;> cases dmnd ps b e <;> rfl
 rw [if_neg e7]
 refine iEqT (b:=[75,66]) ?_
 rw [dH hl (k:=8) rfl (by decide)]
 refine iCndP (fun e8=>?_) (fun e8=>?_)
 ·rw [if_pos e8]
  refine iJnB (dG (sysNo l) ps a b && dG (sysNo l) ps b a) w2 (fun J hJ=>?_) (fun w7 x7=>fun _=>⟨by first | trivial | rfl,X2.trans x7⟩)
  refine iLdB hB1' (i:=0) (v:=.int .i64 (a:Int)) rfl (iLdB hB2 (i:=0) (v:=.int .i64 (b:Int)) rfl ?_)
  refine iRet (nB h2 hl h8 ha hb) fun w6 x6=>iCnd (fun d=>?_) (fun d=>?_)
  ·rw [d,Bool.true_and] at hJ
   refine iLdB (hB2.ext x6) (i:=0) (v:=.int .i64 (b:Int)) rfl (iLdB (hB1'.ext x6) (i:=0) (v:=.int .i64 (a:Int)) rfl ?_)
   exact iRet (nB (h2.ext x6) hl h8 hb ha) fun w7 x7=>hJ _ (x6.trans x7)
  ·rw [d,Bool.false_and] at hJ;exact hJ _ x6
 rw [if_neg e8]
 refine iEqT (b:=[71,76]) ?_
 rw [dH hl (k:=9) rfl (by decide)]
 refine iCndP (fun e9=>?_) (fun e9=>?_)
 ·rw [if_pos e9]
  refine iJnB (dG (sysNo l) ps a b && (needs ps).any fun e=>dmnd ps b e && !dmnd ps a e) w2 (fun J hJ=>?_) (fun w7 x7=>fun _=>⟨by first | trivial | rfl,X2.trans x7⟩)
  refine iLdB hB1' (i:=0) (v:=.int .i64 (a:Int)) rfl (iLdB hB2 (i:=0) (v:=.int .i64 (b:Int)) rfl ?_)
  refine iRet (nB h2 hl h8 ha hb) fun w6 x6=>iCnd (fun d=>?_) (fun d=>?_)
  ·rw [d,Bool.true_and] at hJ
   have h6:=h2.ext x6
   refine iNil (iFa (iLdB h6.blk (i:=2) (v:=vn) rfl ?_))
   refine iRet (eT (p:=fun e=>dmnd ps b e && !dmnd ps a e) h6.nd fun e he w' u x' hu=>?_) fun w7 x7=>hJ _ (x6.trans x7)
   refine DO ?_
   obtain ⟨vi,rfl,hi⟩:=id hu.ex
   apply IB;unfold tG
   refine iNew3 fun q4 w4 hq4 x4 hB4=>?_
   have y4:=(x6.trans x').trans x4
   refine iJnB (dmnd ps b e && !dmnd ps a e) w4 (fun J hJ=>?_) (fun w7 x7=>fun _=>⟨by first | trivial | rfl,x4.trans x7⟩)
   refine dem hB4 (hB2.ext y4) (hu.ext x4) he hb (Ext.refl _) fun w5 x5=>iCnd (fun d=>?_) (fun d=>?_)
   ·rw [d,Bool.true_and] at hJ
    exact dem hB4 (hB1'.ext (y4.trans x5)) (hu.ext (x4.trans x5)) he ha x5 fun w6 x6=>iNot (hJ _ (x5.trans x6))
   ·rw [d,Bool.false_and] at hJ;exact hJ _ x5
  ·rw [d,Bool.false_and] at hJ;exact hJ _ x6
 rw [if_neg e9]
 refine iLdB hB1' (i:=0) (v:=.int .i64 (a:Int)) rfl (iLdB hB2 (i:=0) (v:=.int .i64 (b:Int)) rfl ?_)
 exact iRet (nB h2 hl h8 ha hb) fun w6 x6=>⟨rfl,X2.trans x6⟩
theorem KL (h:TyW m w q l ps vp vn vc vr va) (hl:sysNo l < 10) (h8:ps.length ≤ 8) (ha:a < 2 ^ ps.length) (hb:b < 2 ^ ps.length) (hu:NeedW w u ps e) (he:e ∈ needs ps):Ret Tryz.prog oS #[.pointer (some ⟨q,0,none⟩),u,.int .i64 (a:Int),.int .i64 (b:Int)] w (.bool (p9 (sysNo l) ps e a b)):=by
 obtain ⟨vi,rfl,hi⟩:=id hu.ex
 apply CC;unfold oY
 refine iNew3 fun q4 w1 hq4 x1 hB4=>?_
 unfold p9
 refine iJnB (sees (sysNo l) ps a b && (!meet ps b e && (!(sysNo l == 9) || dmnd ps b e))) w1 (fun J hJ=>?_) (fun w7 x7=>fun _=>⟨by first | trivial | rfl,x1.trans x7⟩)
 refine iRet (JQ (h.ext x1) hl h8 ha hb) fun w4 x4=>iCnd (fun d=>?_) (fun d=>?_)
 rotate_left
 ·rw [d,Bool.false_and] at hJ;exact hJ _ x4
 rw [d,Bool.true_and] at hJ
 refine iLdA (hB4.ext x4) rfl (iRet (wX (hu.ext (x1.trans x4)) hb) fun w5 x5=>iNot (iCnd (fun d=>?_) (fun d=>?_)))
 rotate_left
 ·rw [d,Bool.false_and] at hJ;exact hJ _ (x4.trans x5)
 rw [d,Bool.true_and] at hJ
 have x45:=x4.trans x5
 refine iNil (iFa (iLdB (h.blk.ext (x1.trans x45)) (i:=0) (v:=sv l) rfl ?_))
 refine iNeT (b:=[71,76]) ?_
 have e9:=dH hl (n:=[71,76]) (k:=9) rfl (by decide)
 refine iCndP (fun e=>?_) (fun e=>?_)
 ·rw [decide_eq_false e] at e9
  have e9:=of_decide_eq_false e9.symm
  rw [show (sysNo l == 9) = false by simpa using e9,Bool.not_false,Bool.true_or] at hJ
  exact hJ _ x45
 ·rw [decide_eq_true (Classical.not_not.1 e)] at e9
  have e9:=of_decide_eq_true e9.symm
  rw [e9] at hJ
  exact iLdA (hB4.ext x45) rfl (iRet (cL (hu.ext (x1.trans x45)) he h8 hb) fun w6 x6=>hJ _ (x45.trans x6))
structure TyA (m:Nat) (w:World) (q:Nat) (l:Str) (ps:List Fm) (vp vn vr va:Value) (AL:List Bool):Prop where
 ty:TyW m w q l ps vp vn (.int .i64 ((2 ^ ps.length:Nat):Int)) vr va
 al:Ow m aQ w va (AL.map Value.bool)
 len:AL.length = 2 ^ ps.length
variable {AL:List Bool}
theorem TyA.ext {w':World} (h:TyA m w q l ps vp vn vr va AL) (x:Ext w w'):TyA m w' q l ps vp vn vr va AL:=⟨h.ty.ext x,h.al.ext x,h.len⟩
theorem y9 {i:Nat} (hi:i < AL.length):(AL.map Value.bool)[i]? = some (.bool (gt AL i)):=by rw [gt_eq hi];simp [hi]
theorem KW (h:TyA m w q l ps vp vn vr va AL) (hl:sysNo l < 10) (h8:ps.length ≤ 8) (ha:a < 2 ^ ps.length):Cal Tryz.prog oT #[.pointer (some ⟨q,0,none⟩),.int .i64 (a:Int)] w fun r w'=>Ext w w' ∧ ∃ z:Int,r = .int .i64 z ∧ (decide (z < 0) = !ES (sysNo l) ps AL a):=by
 have h256:2 ^ ps.length ≤ 2 ^ 8:=Nat.pow_le_pow_right (by decide) h8
 have hlen:=h.len
 apply B9;unfold oM
 refine iNil (iFa (iLdB h.ty.blk (i:=3) (v:=.int .i64 ((2 ^ ps.length:Nat):Int)) rfl ?_))
 refine iLp (fun i:Nat=>[.int .i64 (i:Int)]) (fun i w'=>i ≤ 2 ^ ps.length ∧ Ext w w' ∧ ∀ j,j < i → (gt AL j && sees (sysNo l) ps a j) = false) (fun i=>2 ^ ps.length - i) 0 rfl ⟨Nat.zero_le _,Ext.refl _,fun j hj=>absurd hj (Nat.not_lt_zero j)⟩ ?_
 rintro i w2 Kn ⟨hi,x2,hall⟩ hKn
 intro _
 simp only [gx]
 refine iLt (iCndP (fun hlt=>?_) (fun hlt=>?_))
 ·have hil:i < 2 ^ ps.length:=by omega
  have h2:=h.ext x2
  refine iJnX (fun xs w'=>xs = [.bool (gt AL i && sees (sysNo l) ps a i)] ∧ Ext w2 w') (fun J hJ=>?_) ?_
  ·refine iNil (iFa (iLdB h2.ty.blk (i:=5) (v:=va) rfl ?_))
   refine iIa (j:=(i:Int)) h2.al.sl (by omega) (by rw [List.length_map];omega) fun p hp=>?_
   rw [Int.toNat_natCast,y9 (by omega)] at hp
   refine iLd hp (iCnd (fun d=>?_) (fun d=>?_))
   ·exact iRet (JQ h2.ty hl h8 ha hil) fun w5 x5=>hJ _ _ ⟨by rw [d,Bool.true_and],x5⟩
   ·exact hJ _ _ ⟨by rw [d,Bool.false_and],Ext.refl _⟩
  rintro _ w4 ⟨rfl,x4⟩
  intro _
  simp only [gx]
  refine iCnd (fun d=>?_) (fun d=>?_)
  ·refine ⟨x2.trans x4,_,rfl,?_⟩
   rw [decide_eq_false (by omega),show ES (sysNo l) ps AL a = true from EU hil d];rfl
  ·refine iAdd (by omega) ?_
   refine hKn (i + 1) _ ⟨hil,x2.trans x4,fun j hj=>?_⟩ (by omega)
   by_cases hji:j = i
   ·rw [hji];exact d
   ·exact hall j (by omega)
 ·refine ⟨x2,_,rfl,?_⟩
  rw [show ES (sysNo l) ps AL a = false from BL fun u hu=>hall u (by omega)];rfl
theorem F9 (h:TyA m w q l ps vp vn vr va AL) (hl:sysNo l < 10) (h8:ps.length ≤ 8) (ha:a < 2 ^ ps.length) (hu:NeedW w u ps e) (he:e ∈ needs ps):Cal Tryz.prog lS #[.pointer (some ⟨q,0,none⟩),u,.int .i64 (a:Int)] w fun r w'=>Ext w w' ∧ ∃ z:Int,r = .int .i64 z ∧ (decide (z < 0) = !E2 (sysNo l) ps AL a e):=by
 have h256:2 ^ ps.length ≤ 2 ^ 8:=Nat.pow_le_pow_right (by decide) h8
 have hlen:=h.len
 obtain ⟨vi,rfl,hi⟩:=id hu.ex
 apply yP;unfold lO
 refine iNew3 fun q4 w1 hq4 x1 hB4=>?_
 refine iNil (iFa (iLdB (h.ty.blk.ext x1) (i:=3) (v:=.int .i64 ((2 ^ ps.length:Nat):Int)) rfl ?_))
 refine iLp (fun i:Nat=>[.int .i64 (i:Int)]) (fun i w'=>i ≤ 2 ^ ps.length ∧ Ext w1 w' ∧ ∀ j,j < i → (gt AL j && p9 (sysNo l) ps e a j) = false) (fun i=>2 ^ ps.length - i) 0 rfl ⟨Nat.zero_le _,Ext.refl _,fun j hj=>absurd hj (Nat.not_lt_zero j)⟩ ?_
 rintro i w2 Kn ⟨hi,x2,hall⟩ hKn
 intro _
 simp only [gx]
 refine iLt (iCndP (fun hlt=>?_) (fun hlt=>?_))
 ·have hil:i < 2 ^ ps.length:=by omega
  have X2:=x1.trans x2
  have h2:=h.ext X2
  refine iJnX (fun xs w'=>xs = [.bool (gt AL i && p9 (sysNo l) ps e a i)] ∧ Ext w2 w') (fun J hJ=>?_) ?_
  ·refine iNil (iFa (iLdB h2.ty.blk (i:=5) (v:=va) rfl ?_))
   refine iIa (j:=(i:Int)) h2.al.sl (by omega) (by rw [List.length_map];omega) fun p hp=>?_
   rw [Int.toNat_natCast,y9 (by omega)] at hp
   refine iLd hp (iCnd (fun d=>?_) (fun d=>?_))
   ·refine iLdA (hB4.ext x2) rfl ?_
    exact iRet (KL h2.ty hl h8 ha hil (hu.ext X2) he) fun w5 x5=>hJ _ _ ⟨by rw [d,Bool.true_and],x5⟩
   ·exact hJ _ _ ⟨by rw [d,Bool.false_and],Ext.refl _⟩
  rintro _ w4 ⟨rfl,x4⟩
  intro _
  simp only [gx]
  refine iCnd (fun d=>?_) (fun d=>?_)
  ·refine ⟨X2.trans x4,_,rfl,?_⟩
   rw [decide_eq_false (by omega),show E2 (sysNo l) ps AL a e = true from EU hil d];rfl
  ·refine iAdd (by omega) ?_
   refine hKn (i + 1) _ ⟨hil,x2.trans x4,fun j hj=>?_⟩ (by omega)
   by_cases hji:j = i
   ·rw [hji];exact d
   ·exact hall j (by omega)
 ·refine ⟨x1.trans x2,_,rfl,?_⟩
  rw [show E2 (sysNo l) ps AL a e = false from BL fun u hu=>hall u (by omega)];rfl
theorem M6 (h:TyA m w q l ps vp vn vr va AL) (hl:sysNo l < 10) (h8:ps.length ≤ 8) (ha:a < 2 ^ ps.length):Ret Tryz.prog qJ #[.pointer (some ⟨q,0,none⟩),.int .i64 (a:Int)] w (.bool (surv (sysNo l) ps AL a)):=by
 apply D8;unfold qE
 refine iNewV rfl fun q1 w1 hq1 x1 hB1=>?_
 refine vP fun q2 w2 hq2 x2 hB2=>?_
 have X2:=x1.trans x2
 have h2:=h.ext X2
 have hB1':=hB1.ext x2
 unfold surv
 refine iJnX (fun xs w'=>xs = [.bool (decide (sysNo l = 3) && !ES (sysNo l) ps AL a)] ∧ Ext w2 w') (fun J hJ=>?_) ?_
 ·refine iLdB hB1' (i:=0) (v:=.pointer (some ⟨q,0,none⟩)) rfl (iNil (iFa (iLdB h2.ty.blk (i:=0) (v:=sv l) rfl ?_)))
  refine iEqT (b:=[68]) ?_
  rw [dH hl (k:=3) rfl (by decide)]
  refine iCndP (fun d=>?_) (fun d=>hJ _ _ ⟨by rw [decide_eq_false d,Bool.false_and],Ext.refl _⟩)
  refine iLdB hB1' (i:=0) (v:=.pointer (some ⟨q,0,none⟩)) rfl (iLdB hB2 (i:=0) (v:=.int .i64 (a:Int)) rfl ?_)
  refine iCall ((KW h2 hl h8 ha).mono ?_)
  rintro _ w5 ⟨x5,z,rfl,hz⟩
  exact iLt (hJ _ _ ⟨by rw [hz,decide_eq_true d,Bool.true_and],x5⟩)
 rintro _ w4 ⟨rfl,x4⟩
 intro _
 simp only [gx]
 have X4:=X2.trans x4
 refine iCnd (fun d=>?_) (fun d=>?_)
 ·rw [d,Bool.not_true,Bool.false_and];exact ⟨rfl,X4⟩
 rw [d,Bool.not_false,Bool.true_and]
 have h4:=h2.ext x4
 have hB14:=hB1'.ext x4
 have hB24:=hB2.ext x4
 refine iLdB hB14 (i:=0) (v:=.pointer (some ⟨q,0,none⟩)) rfl (iNil (iFa (iLdB h4.ty.blk (i:=2) (v:=vn) rfl ?_)))
 refine iRet (eT (p:=fun e=>!dmnd ps a e && !E2 (sysNo l) ps AL a e) h4.ty.nd fun e he w' u x' hu=>?_) fun w6 x6=>iNot ⟨rfl,X4.trans x6⟩
 refine DO ?_
 obtain ⟨vi,rfl,hi⟩:=id hu.ex
 apply AN;unfold nN
 refine iNew3 fun q4 w5 hq4 x5 hB4=>?_
 have y5:=x'.trans x5
 refine iJnB (!dmnd ps a e && !E2 (sysNo l) ps AL a e) w5 (fun J hJ=>?_) (fun w7 x7=>fun _=>⟨by first | trivial | rfl,x5.trans x7⟩)
 refine iLdA hB4 rfl (iLdB (hB24.ext y5) (i:=0) (v:=.int .i64 (a:Int)) rfl ?_)
 refine iRet (cL (hu.ext x5) he h8 ha) fun w6 x6=>iNot (iCnd (fun d=>?_) (fun d=>?_))
 ·rw [d,Bool.true_and] at hJ
  have y6:=y5.trans x6
  refine iLdB (hB14.ext y6) (i:=0) (v:=.pointer (some ⟨q,0,none⟩)) rfl (iLdA (hB4.ext x6) rfl (iLdB (hB24.ext y6) (i:=0) (v:=.int .i64 (a:Int)) rfl ?_))
  refine iCall ((F9 (h4.ext y6) hl h8 ha (hu.ext (x5.trans x6)) he).mono ?_)
  rintro _ w7 ⟨x7,z,rfl,hz⟩
  refine iLt ?_
  rw [hz]
  exact hJ _ (x6.trans x7)
 ·rw [d,Bool.false_and] at hJ;exact hJ _ x6
end Go.Proofs.YtbfpohbmgjcjmaaGreatDoor

namespace Go.Proofs.YtbfpohbmgjcjmaaGreatDoor
open Go.Vc
section
variable {ps:List Fm} {w w':World} {q m:Nat} {l:Str} {vp vn vr va:Value} {AL:List Bool}
theorem TyA.st {AL':List Bool} (h:TyA m w q l ps vp vn vr va AL) (x:Ch (fun c=>va.ownBlock = some c) w w') (ho:Ow m aQ w' va (AL'.map Value.bool)) (hl:AL'.length = 2 ^ ps.length):TyA m w' q l ps vp vn vr va AL':=by
 have key:∀ {k lo' n:Nat} {e:TypeId} {u:Value} {ys:List Value},OwK k lo' e w u n ys → e ≠ aQ → OwK k lo' e w' u n ys:=fun hu hne=>OwK.ch hu x fun c hc hS=>by
  obtain ⟨cur,hh⟩:=Ow.ty h.al hS
  exact OwK.ne_blk hu (show Blk aQ w c cur.toList by unfold Blk;rw [hh]) hne hc
 obtain ⟨L,h1,h2,h3⟩:=h.ty.nd.ex
 exact ⟨⟨h.ty.blk.ch x fun hS=>h.al.ne_blk h.ty.blk (by decide) hS,L,h1,key h2 (by decide),fun p hp=>⟨(h3 p hp).1.ch x fun c hc hS=>by
  have h4:=(h3 p hp).2 c hc
  have h5:=(h.al.blk c hS).1
  omega,(h3 p hp).2⟩⟩,ho,hl⟩
theorem IZ {b:Nat} {e:TypeId} {cs:List Value} {w0:World} {RL:List Bool} (X:Ext w0 w) (hm:w0.heap.size ≤ m) (h:TyA m w q l ps vp vn vr va AL) (hl:sysNo l < 10) (h8:ps.length ≤ 8) (hr:Ow 0 aQ w vr (RL.map Value.bool)) (hne:∀ c,vr.ownBlock = some c → va.ownBlock = some c → False) (hb:Blk e w b cs) (hbe:e ≠ aQ):
  Cal Tryz.prog pA #[.pointer (some ⟨q,0,none⟩)] w fun _ w'=>Ext w0 w' ∧ Blk e w' b cs ∧ ∃ AL',TyA m w' q l ps vp vn vr va AL' ∧ Ow 0 aQ w' vr (RL.map Value.bool) ∧ (∀ t,t < 2 ^ ps.length → gt AL' t = true → surv (sysNo l) ps AL' t = true) ∧ ∀ t,t < 2 ^ ps.length → gt AL' t = true → gt AL t = true:=by
 have h256:2 ^ ps.length ≤ 2 ^ 8:=Nat.pow_le_pow_right (by decide) h8
 apply CD;unfold o7
 refine iLp (fun s:Bool × List Bool=>[.bool s.1]) (fun s w'=>(Ext w0 w' ∧ Blk e w' b cs) ∧ TyA m w' q l ps vp vn vr va s.2 ∧ Ow 0 aQ w' vr (RL.map Value.bool) ∧ (s.1 = false → ∀ t,t < 2 ^ ps.length → gt s.2 t = true → surv (sysNo l) ps s.2 t = true) ∧ ∀ t,t < 2 ^ ps.length → gt s.2 t = true → gt AL t = true) (fun s=>2 * cntB s.2 + (if s.1 then 1 else 0)) (true,AL) rfl ⟨⟨X,hb⟩,h,hr,(fun h=>by cases h),fun _ _ h=>h⟩ ?_
 rintro ⟨ch,A0⟩ w2 Kn ⟨⟨x2,hb2⟩,h2,hr2,hf,hle⟩ hKn
 have h2:TyA m w2 q l ps vp vn vr va A0:=h2
 have hf:ch = false → ∀ t,t < 2 ^ ps.length → gt A0 t = true → surv (sysNo l) ps A0 t = true:=hf
 have hle:∀ t,t < 2 ^ ps.length → gt A0 t = true → gt AL t = true:=hle
 intro _
 simp only [gx]
 refine iCnd (fun hc=>?_) (fun hc=>⟨x2,hb2,A0,h2,hr2,hf hc,hle⟩)
 subst hc
 refine iNil (iFa (iLdB h2.ty.blk (i:=3) (v:=.int .i64 ((2 ^ ps.length:Nat):Int)) rfl ?_))
 refine iLp (fun s:Bool × List Bool × Nat=>[.bool s.1,.int .i64 (s.2.2:Int)]) (fun s w'=>s.2.2 ≤ 2 ^ ps.length ∧ (Ext w0 w' ∧ Blk e w' b cs) ∧ TyA m w' q l ps vp vn vr va s.2.1 ∧ Ow 0 aQ w' vr (RL.map Value.bool) ∧ (∀ t,t < 2 ^ ps.length → gt s.2.1 t = true → gt A0 t = true) ∧ (s.1 = false → s.2.1 = A0 ∧ ∀ j,j < s.2.2 → gt A0 j = true → surv (sysNo l) ps A0 j = true) ∧ (s.1 = true → cntB s.2.1 < cntB A0)) (fun s=>2 ^ ps.length - s.2.2) (false,A0,0) rfl ⟨Nat.zero_le _,⟨x2,hb2⟩,h2,hr2,fun _ _ h=>h,fun _=>⟨rfl,fun j hj=>absurd hj (Nat.not_lt_zero j)⟩,fun h=>by cases h⟩ ?_
 rintro ⟨c1,A1,i⟩ w4 K2 ⟨hi,⟨x4,hb4⟩,h4,hr4,hle1,hf1,hc1⟩ hK2
 have hi:i ≤ 2 ^ ps.length:=hi
 have h4:TyA m w4 q l ps vp vn vr va A1:=h4
 have hle1:∀ t,t < 2 ^ ps.length → gt A1 t = true → gt A0 t = true:=hle1
 have hf1:c1 = false → A1 = A0 ∧ ∀ j,j < i → gt A0 j = true → surv (sysNo l) ps A0 j = true:=hf1
 have hc1:c1 = true → cntB A1 < cntB A0:=hc1
 have hlen:=h4.len
 intro _
 simp only [gx]
 refine iLt (iCndP (fun hlt=>?_) (fun hlt=>?_))
 rotate_left
 ·have:i = 2 ^ ps.length:=by omega
  subst this
  refine hKn (c1,A1) _ ⟨⟨x4,hb4⟩,h4,hr4,fun hc=>?_,fun t ht h=>hle t ht (hle1 t ht h)⟩ ?_
  ·have hc:c1 = false:=hc
   obtain ⟨e,h⟩:=hf1 hc
   show ∀ t,t < 2 ^ ps.length → gt A1 t = true → surv (sysNo l) ps A1 t = true
   rw [e]
   exact h
  ·show 2 * cntB A1 + (if c1 then 1 else 0) < 2 * cntB A0 + (if true then 1 else 0)
   cases c1 with
   | true=>
    have:=hc1 rfl
    simp;omega
   | false=>
    rw [(hf1 rfl).1];simp
 have hil:i < 2 ^ ps.length:=by omega
 have hat:∀ {w':World} {K:Value → Prop},TyA m w' q l ps vp vn vr va A1 → K (.bool (gt A1 i)) → xIa 1 va (.int .i64 (i:Int)) fun p=>xLd w' p K:=fun h hK=>by
  refine iIa (j:=(i:Int)) h.al.sl (by omega) (by rw [List.length_map];omega) fun p hp=>?_
  rw [Int.toNat_natCast,y9 (by omega)] at hp
  exact iLd hp hK
 refine iJnX (fun xs w'=>xs = [.bool (gt A1 i && !surv (sysNo l) ps A1 i)] ∧ Ext w4 w') (fun J hJ=>?_) ?_
 ·refine iNil (iFa (iLdB h4.ty.blk (i:=5) (v:=va) rfl (hat h4 (iCnd (fun d=>?_) (fun d=>?_)))))
  ·exact iRet (M6 h4 hl h8 hil) fun w7 x7=>iNot (hJ _ _ ⟨by rw [d,Bool.true_and],x7⟩)
  ·exact hJ _ _ ⟨by rw [d,Bool.false_and],Ext.refl _⟩
 rintro _ w6 ⟨rfl,x6⟩
 intro _
 simp only [gx]
 have h6:=h4.ext x6
 refine iCnd (fun d=>?_) (fun d=>?_)
 ·rw [Bool.and_eq_true,Bool.not_eq_true'] at d
  refine iNil (iFa (iLdB h6.ty.blk (i:=5) (v:=va) rfl ?_))
  refine iWrO h6.al rfl (by rw [List.length_map];omega) rfl fun w8 ho8 hc8=>?_
  have ho8:Ow m aQ w8 va ((A1.set i false).map Value.bool):=by rw [List.map_set];exact ho8
  have h8':=h6.st hc8 ho8 (by rw [List.length_set];exact hlen)
  refine iAdd (by omega) ?_
  refine hK2 (true,A1.set i false,i + 1) _ ⟨hil,⟨(x4.trans x6).thenCh hc8 fun c hc=>Nat.le_trans hm (h6.al.blk c hc).1,(hb4.ext x6).ch hc8 fun hS=>h6.al.ne_blk (hb4.ext x6) (fun e'=>hbe e'.symm) hS⟩,h8',(hr4.ext x6).ch hc8 fun c hc hS=>hne c hc hS,fun t ht hg=>?_,(fun h=>by cases h),fun _=>?_⟩ (by show 2 ^ ps.length - (i + 1) < 2 ^ ps.length - i;omega)
  ·have hg:gt (A1.set i false) t = true:=hg
   rw [ZT (by omega)] at hg
   split at hg
   ·cases hg
   ·exact hle1 t ht hg
  ·have h1:=TB (show i < A1.length by omega) d.1
   show cntB (A1.set i false) < cntB A0
   cases c1 with
   | true=>have:=hc1 rfl;omega
   | false=>rw [(hf1 rfl).1] at h1 ⊢;exact h1
 ·refine iAdd (by omega) ?_
  refine hK2 (c1,A1,i + 1) _ ⟨hil,⟨x4.trans x6,hb4.ext x6⟩,h6,hr4.ext x6,hle1,fun hc=>?_,hc1⟩ (by show 2 ^ ps.length - (i + 1) < 2 ^ ps.length - i;omega)
  obtain ⟨e,h⟩:=hf1 hc
  refine ⟨e,fun j hj hg=>?_⟩
  have hj:j < i + 1:=hj
  by_cases hji:j = i
  ·rw [hji] at hg ⊢
   rw [e,hg,Bool.true_and,Bool.not_eq_false'] at d
   exact d
  ·exact h j (by omega) hg
theorem MU {RL:List Bool} (h:TyA m w q l ps vp vn vr va AL) (h8:ps.length ≤ 8) (hr:Ow 0 aQ w vr (RL.map Value.bool)) (hrl:RL.length = 2 ^ ps.length) (hno:∀ t,t < 2 ^ ps.length → gt AL t = true → gt RL t = false):
  Ret Tryz.prog qD #[.pointer (some ⟨q,0,none⟩)] w (.int .i64 (-1)):=by
 have h256:2 ^ ps.length ≤ 2 ^ 8:=Nat.pow_le_pow_right (by decide) h8
 have hlen:=h.len
 apply D5;unfold qP
 refine iNil (iFa (iLdB h.ty.blk (i:=3) (v:=.int .i64 ((2 ^ ps.length:Nat):Int)) rfl ?_))
 refine iLp (fun i:Nat=>[.int .i64 (i:Int)]) (fun i w'=>i ≤ 2 ^ ps.length ∧ w' = w) (fun i=>2 ^ ps.length - i) 0 rfl ⟨Nat.zero_le _,rfl⟩ ?_
 rintro i w2 Kn ⟨hi,rfl⟩ hKn
 intro _
 simp only [gx]
 refine iLt (iCndP (fun hlt=>?_) (fun _=>⟨by first | trivial | rfl,Ext.refl _⟩))
 have hil:i < 2 ^ ps.length:=by omega
 refine iJnX (fun xs w'=>xs = [.bool false] ∧ w' = w2) (fun J hJ=>?_) ?_
 ·refine iNil (iFa (iLdB h.ty.blk (i:=5) (v:=va) rfl ?_))
  refine iIa (j:=(i:Int)) h.al.sl (by omega) (by rw [List.length_map];omega) fun p hp=>?_
  rw [Int.toNat_natCast,y9 (by omega)] at hp
  refine iLd hp (iCnd (fun d=>?_) (fun d=>hJ _ _ ⟨rfl,rfl⟩))
  refine iNil (iFa (iLdB h.ty.blk (i:=4) (v:=vr) rfl ?_))
  refine iIa (j:=(i:Int)) hr.sl (by omega) (by rw [List.length_map];omega) fun p hp=>?_
  rw [Int.toNat_natCast,y9 (by omega),hno i hil d] at hp
  exact iLd hp (hJ _ _ ⟨rfl,rfl⟩)
 rintro _ w4 ⟨rfl,rfl⟩
 intro _
 simp only [gx]
 refine iCndF rfl (iAdd (by omega) ?_)
 exact hKn (i + 1) _ ⟨hil,rfl⟩ (by omega)
end
theorem IX:∀ {L:List (Value × Fm)} {j:Nat},j < L.length → ∀ k,k < 2 → (gL L)[j * 2 + k]? = ([sv (gt L j).2.body,(gt L j).1]:List Value)[k]?
 | [],j,h,_,_=>absurd h (Nat.not_lt_zero j)
 | x :: R,0,_,k,hk=>by
  rw [show gL (x :: R) = [sv x.2.body,x.1] ++ gL R by simp [gL],Nat.zero_mul,Nat.zero_add,List.getElem?_append_left (by simp;omega)]
  rfl
 | x :: R,j + 1,h,k,hk=>by
  have:=IX (L:=R) (j:=j) (by simpa using h) k hk
  rw [show gL (x :: R) = [sv x.2.body,x.1] ++ gL R by simp [gL],show (j + 1) * 2 + k = j * 2 + k + 2 by omega,List.getElem?_append_right (by simp)]
  simp only [List.length_cons,List.length_nil,Nat.add_sub_cancel]
  exact this
theorem N8 {vp v:Value} {ps:List Fm} {f:Fm} {q4:Nat} {w:World} (h:ElW w vp ps) (hq:Blk aB w q4 [v]) (hv:FmS w v f) (hf:f ∈ ps) (h8:ps.length ≤ 8):Ret Tryz.prog bX #[vp,.func (.func iX) #[] #[.pointer (some ⟨q4,0,none⟩)]] w (.int .i64 ((ps.idxOf f:Nat):Int)):=by
 obtain ⟨L,hL,ho,hLf⟩:=h.ex
 have hLl:L.length = ps.length:=by rw [← hL,List.length_map]
 have hat:∀ j (hj:j < L.length),ps[j]? = some (gt L j).2:=fun j hj=>by
  rw [← hL,List.getElem?_map,List.getElem?_eq_getElem hj,Option.map_some,gt_eq hj]
 apply fM;unfold bV
 refine iLenK ho.sl ?_
 refine iLp (fun i:Nat=>[.int .i64 (i:Int)]) (fun i w'=>i ≤ L.length ∧ Ext w w' ∧ ∀ j,j < i → ¬ (gt L j).2 = f) (fun i=>L.length - i) 0 rfl ⟨Nat.zero_le _,Ext.refl _,fun j hj=>absurd hj (Nat.not_lt_zero j)⟩ ?_
 rintro i w2 Kn ⟨hi,x2,hall⟩ hKn
 intro _
 simp only [gx]
 refine iLt (iCndP (fun hlt=>?_) (fun hlt=>?_))
 ·have hil:i < L.length:=by omega
  have hm:gt L i ∈ L:=by rw [gt_eq hil];exact List.getElem_mem _
  refine iLdK (j:=i) (cs:=#[sv (gt L i).2.body,(gt L i).1]) (OwK.ext ho x2).sl rfl hil rfl (fun j hj=>?_) ?_
  ·rw [IX hil j hj];simp
  have h1:Ret Tryz.prog iX #[.agg #[sv (gt L i).2.body,(gt L i).1],.pointer (some ⟨q4,0,none⟩)] w2 (.bool (decide ((gt L i).2 = f))):=by
   apply CU;unfold o4
   refine iNew2 fun q w3 hq3 x3 hB=>?_
   refine iFa (iLdB hB (i:=1) (v:=(gt L i).1) rfl (iLdB (hq.ext (x2.trans x3)) (i:=0) (v:=v) rfl ?_))
   refine iRet (kY (FmS.rawS (OwK.ext (hLf _ hm) (x2.trans x3)).sl) (FmS.rawS (SlK.ext hv (x2.trans x3)))) fun w4 x4=>⟨?_,x3.trans x4⟩
   rw [S4]
  refine S8 ?_
  refine Cal.mono h1 ?_
  rintro _ w3 ⟨rfl,x3⟩
  refine iCndP (fun e=>?_) (fun e=>?_)
  ·refine ⟨?_,x2.trans x3⟩
   have:ps.idxOf f = i:=by
    have h1:ps[i]? = some f:=by rw [hat i hil,e]
    have hl:i < ps.length:=by omega
    rw [List.getElem?_eq_getElem hl] at h1
    have h1:=Option.some.inj h1
    have hle:ps.idxOf f ≤ i:=Nat.le_of_not_lt fun hgt=>by
     have:=List.not_of_lt_findIdx (p:=(· == f)) (xs:=ps) (i:=i) hgt
     rw [h1] at this
     simp at this
    by_cases hlt:ps.idxOf f < i
    ·exfalso
     have h2:=hall _ hlt
     have h3:=hat (ps.idxOf f) (by omega)
     rw [List.getElem?_eq_getElem (by omega),List.getElem_idxOf] at h3
     exact h2 (Option.some.inj h3).symm
    ·omega
   rw [this]
  ·refine iAdd (by omega) ?_
   refine hKn (i + 1) _ ⟨hil,x2.trans x3,fun j hj=>?_⟩ (by omega)
   by_cases hji:j = i
   ·rw [hji];exact e
   ·exact hall j (by omega)
 ·exfalso
  obtain ⟨j,hj,e⟩:=List.getElem_of_mem hf
  have:=hall j (by omega)
  have h3:=hat j (by omega)
  rw [List.getElem?_eq_getElem hj,e] at h3
  exact this (Option.some.inj h3).symm
theorem B5 {ps:List Fm} {q t:Nat} {l:Str} {vp vn vc vr va:Value} (h8:ps.length ≤ 8) (ht:t < 2 ^ ps.length):∀ (f:Fm) {v:Value} {w:World},Blk 178 w q [sv l,vp,vn,vc,vr,va] → ElW w vp ps → FmS w v f → (∀ g ∈ f.subs,g.elem = true → g ∈ ps) → f.size ≤ 1000 →
  Ret Tryz.prog fV #[.pointer (some ⟨q,0,none⟩),v,.int .i64 (t:Int)] w (.bool (tv ps t f)):=by
 have h256:2 ^ ps.length ≤ 2 ^ 8:=Nat.pow_le_pow_right (by decide) h8
 have el:∀ {f:Fm} {v:Value} {w:World},Blk 178 w q [sv l,vp,vn,vc,vr,va] → ElW w vp ps → FmS w v f → f ∈ ps → ¬ (f.kind:Int) = 1 → ¬ (f.kind:Int) = 2 → ¬ (f.kind:Int) = 3 → ¬ (f.kind:Int) = 4 → tv ps t f = t.testBit (ps.idxOf f) → Ret Tryz.prog fV #[.pointer (some ⟨q,0,none⟩),v,.int .i64 (t:Int)] w (.bool (tv ps t f)):=fun {f v w} hb he hs hm k1 k2 k3 k4 hv=>by
  have hp:=f.size_pos
  apply dV;unfold cJ
  refine iNewV (SlK.cellZ hs) fun q4 w1 hq4 x1 hB=>?_
  refine iLdB hB (i:=0) (v:=v) rfl (iFld (j:=0) (f:=0) (SlK.ext hs x1) rfl hp (by decide) (aO hs).1 ?_)
  refine iEq (iCndF (decide_eq_false k1) (iEq (iCndF (decide_eq_false k2) (iEq (iCndF (decide_eq_false k3) (iEq (iCndF (decide_eq_false k4) ?_)))))))
  refine iNil (iFa (iLdB (hb.ext x1) (i:=1) (v:=vp) rfl ?_))
  refine iRet (N8 (ElW.ext he x1) hB (SlK.ext hs x1) hm h8) fun w2 x2=>?_
  have hidx:ps.idxOf f ≤ 8:=by have:=List.idxOf_le_length (a:=f) (l:=ps);omega
  refine iRet (CP t (ps.idxOf f) (by omega) (by omega) w2) fun w3 x3=>⟨?_,(x1.trans x2).trans x3⟩
  rw [hv]
 intro f
 induction f with
 | var p=>intro v w hb he hs ha hz;exact el hb he hs (ha _ (Fm.subs_self _) rfl) (by show ¬ (0:Int) = 1;decide) (by show ¬ (0:Int) = 2;decide) (by show ¬ (0:Int) = 3;decide) (by show ¬ (0:Int) = 4;decide) rfl
 | box a _=>intro v w hb he hs ha hz;exact el hb he hs (ha _ (Fm.subs_self _) rfl) (by show ¬ (5:Int) = 1;decide) (by show ¬ (5:Int) = 2;decide) (by show ¬ (5:Int) = 3;decide) (by show ¬ (5:Int) = 4;decide) rfl
 | dia a _=>intro v w hb he hs ha hz;exact el hb he hs (ha _ (Fm.subs_self _) rfl) (by show ¬ (6:Int) = 1;decide) (by show ¬ (6:Int) = 2;decide) (by show ¬ (6:Int) = 3;decide) (by show ¬ (6:Int) = 4;decide) rfl
 | fls=>
  intro v w hb he hs ha hz
  apply dV;unfold cJ
  refine iNewV (SlK.cellZ hs) fun q4 w1 hq4 x1 hB=>?_
  refine iLdB hB (i:=0) (v:=v) rfl (iFld (j:=0) (f:=0) (SlK.ext hs x1) rfl (by decide) (by decide) (aO hs).1 ?_)
  rw [show ((Fm.fls.kind:Nat):Int) = 1 from rfl]
  exact iEq (iCndT (by decide) ⟨rfl,x1⟩)
 | and a b iha ihb=>
  intro v w hb he hs ha hz
  have sz:(Fm.and a b).size = 1 + a.size + b.size:=rfl
  have haa:∀ g ∈ a.subs,g.elem = true → g ∈ ps:=fun g hg=>ha g (List.mem_cons_of_mem _ (List.mem_append_left _ hg))
  have hab:∀ g ∈ b.subs,g.elem = true → g ∈ ps:=fun g hg=>ha g (List.mem_cons_of_mem _ (List.mem_append_right _ hg))
  apply dV;unfold cJ
  refine iNewV (SlK.cellZ hs) fun q4 w1 hq4 x1 hB=>?_
  refine iLdB hB (i:=0) (v:=v) rfl (iFld (j:=0) (f:=0) (SlK.ext hs x1) rfl (by omega) (by decide) (aO hs).1 ?_)
  rw [show (((Fm.and a b).kind:Nat):Int) = 2 from rfl]
  refine iEq (iCndF (by decide) (iEq (iCndT (by decide) ?_)))
  refine iJnB (tv ps t a && tv ps t b) w1 (fun J hJ=>?_) (fun w3 x3=>fun _=>⟨by first | trivial | rfl,x1.trans x3⟩)
  refine iLdB hB (i:=0) (v:=v) rfl ?_
  refine iCall ((aM (SlK.ext hs x1) (g:=a) (gs:=[b]) rfl (by omega)).mono ?_)
  rintro v17 w4 ⟨x4,h17⟩
  refine iRet (iha (hb.ext (x1.trans x4)) (ElW.ext he (x1.trans x4)) h17 haa (by omega)) fun w5 x5=>iCnd (fun d=>?_) (fun d=>?_)
  ·rw [d,Bool.true_and] at hJ
   have x45:=x4.trans x5
   refine iLdB (hB.ext x45) (i:=0) (v:=v) rfl ?_
   refine iCall ((aS (SlK.ext hs (x1.trans x45)) (g:=a) (h:=b) rfl (by omega)).mono ?_)
   rintro v23 w6 ⟨x6,h23⟩
   exact iRet (ihb (hb.ext ((x1.trans x45).trans x6)) (ElW.ext he ((x1.trans x45).trans x6)) h23 hab (by omega)) fun w7 x7=>hJ _ ((x45.trans x6).trans x7)
  ·rw [d,Bool.false_and] at hJ;exact hJ _ (x4.trans x5)
 | or a b iha ihb=>
  intro v w hb he hs ha hz
  have sz:(Fm.or a b).size = 1 + a.size + b.size:=rfl
  have haa:∀ g ∈ a.subs,g.elem = true → g ∈ ps:=fun g hg=>ha g (List.mem_cons_of_mem _ (List.mem_append_left _ hg))
  have hab:∀ g ∈ b.subs,g.elem = true → g ∈ ps:=fun g hg=>ha g (List.mem_cons_of_mem _ (List.mem_append_right _ hg))
  apply dV;unfold cJ
  refine iNewV (SlK.cellZ hs) fun q4 w1 hq4 x1 hB=>?_
  refine iLdB hB (i:=0) (v:=v) rfl (iFld (j:=0) (f:=0) (SlK.ext hs x1) rfl (by omega) (by decide) (aO hs).1 ?_)
  rw [show (((Fm.or a b).kind:Nat):Int) = 3 from rfl]
  refine iEq (iCndF (by decide) (iEq (iCndF (by decide) (iEq (iCndT (by decide) ?_)))))
  refine iJnB (tv ps t a || tv ps t b) w1 (fun J hJ=>?_) (fun w3 x3=>fun _=>⟨by first | trivial | rfl,x1.trans x3⟩)
  refine iLdB hB (i:=0) (v:=v) rfl ?_
  refine iCall ((aM (SlK.ext hs x1) (g:=a) (gs:=[b]) rfl (by omega)).mono ?_)
  rintro v17 w4 ⟨x4,h17⟩
  refine iRet (iha (hb.ext (x1.trans x4)) (ElW.ext he (x1.trans x4)) h17 haa (by omega)) fun w5 x5=>iCnd (fun d=>?_) (fun d=>?_)
  ·rw [d,Bool.true_or] at hJ;exact hJ _ (x4.trans x5)
  ·rw [d,Bool.false_or] at hJ
   have x45:=x4.trans x5
   refine iLdB (hB.ext x45) (i:=0) (v:=v) rfl ?_
   refine iCall ((aS (SlK.ext hs (x1.trans x45)) (g:=a) (h:=b) rfl (by omega)).mono ?_)
   rintro v23 w6 ⟨x6,h23⟩
   exact iRet (ihb (hb.ext ((x1.trans x45).trans x6)) (ElW.ext he ((x1.trans x45).trans x6)) h23 hab (by omega)) fun w7 x7=>hJ _ ((x45.trans x6).trans x7)
 | imp a b iha ihb=>
  intro v w hb he hs ha hz
  have sz:(Fm.imp a b).size = 1 + a.size + b.size:=rfl
  have haa:∀ g ∈ a.subs,g.elem = true → g ∈ ps:=fun g hg=>ha g (List.mem_cons_of_mem _ (List.mem_append_left _ hg))
  have hab:∀ g ∈ b.subs,g.elem = true → g ∈ ps:=fun g hg=>ha g (List.mem_cons_of_mem _ (List.mem_append_right _ hg))
  apply dV;unfold cJ
  refine iNewV (SlK.cellZ hs) fun q4 w1 hq4 x1 hB=>?_
  refine iLdB hB (i:=0) (v:=v) rfl (iFld (j:=0) (f:=0) (SlK.ext hs x1) rfl (by omega) (by decide) (aO hs).1 ?_)
  rw [show (((Fm.imp a b).kind:Nat):Int) = 4 from rfl]
  refine iEq (iCndF (by decide) (iEq (iCndF (by decide) (iEq (iCndF (by decide) (iEq (iCndT (by decide) ?_)))))))
  refine iJnB (!tv ps t a || tv ps t b) w1 (fun J hJ=>?_) (fun w3 x3=>fun _=>⟨by first | trivial | rfl,x1.trans x3⟩)
  refine iLdB hB (i:=0) (v:=v) rfl ?_
  refine iCall ((aM (SlK.ext hs x1) (g:=a) (gs:=[b]) rfl (by omega)).mono ?_)
  rintro v17 w4 ⟨x4,h17⟩
  refine iRet (iha (hb.ext (x1.trans x4)) (ElW.ext he (x1.trans x4)) h17 haa (by omega)) fun w5 x5=>iNot (iCnd (fun d=>?_) (fun d=>?_))
  ·rw [d,Bool.true_or] at hJ;exact hJ _ (x4.trans x5)
  ·rw [d,Bool.false_or] at hJ
   have x45:=x4.trans x5
   refine iLdB (hB.ext x45) (i:=0) (v:=v) rfl ?_
   refine iCall ((aS (SlK.ext hs (x1.trans x45)) (g:=a) (h:=b) rfl (by omega)).mono ?_)
   rintro v23 w6 ⟨x6,h23⟩
   exact iRet (ihb (hb.ext ((x1.trans x45).trans x6)) (ElW.ext he ((x1.trans x45).trans x6)) h23 hab (by omega)) fun w7 x7=>hJ _ ((x45.trans x6).trans x7)
end Go.Proofs.YtbfpohbmgjcjmaaGreatDoor

namespace Go.Vc
theorem Fm.modal_kind (e:Fm):e.modal = decide (e.kind = 5 ∨ e.kind = 6):=by cases e <;> rfl
theorem Fm.subs_trans:∀ {f a:Fm},a ∈ f.subs → ∀ g ∈ a.subs,g ∈ f.subs
 | .var _,a,ha,g,hg=>by rw [List.mem_singleton.1 ha] at hg;exact hg
 | .fls,a,ha,g,hg=>by rw [List.mem_singleton.1 ha] at hg;exact hg
 | .and x y,a,ha,g,hg=>by
  rcases List.mem_cons.1 ha with rfl | ha
  ·exact hg
  ·rcases List.mem_append.1 ha with ha | ha
   ·exact List.mem_cons_of_mem _ (List.mem_append_left _ (Fm.subs_trans ha g hg))
   ·exact List.mem_cons_of_mem _ (List.mem_append_right _ (Fm.subs_trans ha g hg))
 | .or x y,a,ha,g,hg=>by
  rcases List.mem_cons.1 ha with rfl | ha
  ·exact hg
  ·rcases List.mem_append.1 ha with ha | ha
   ·exact List.mem_cons_of_mem _ (List.mem_append_left _ (Fm.subs_trans ha g hg))
   ·exact List.mem_cons_of_mem _ (List.mem_append_right _ (Fm.subs_trans ha g hg))
 | .imp x y,a,ha,g,hg=>by
  rcases List.mem_cons.1 ha with rfl | ha
  ·exact hg
  ·rcases List.mem_append.1 ha with ha | ha
   ·exact List.mem_cons_of_mem _ (List.mem_append_left _ (Fm.subs_trans ha g hg))
   ·exact List.mem_cons_of_mem _ (List.mem_append_right _ (Fm.subs_trans ha g hg))
 | .box x,a,ha,g,hg=>by
  rcases List.mem_cons.1 ha with rfl | ha
  ·exact hg
  ·exact List.mem_cons_of_mem _ (Fm.subs_trans (f:=x) ha g hg)
 | .dia x,a,ha,g,hg=>by
  rcases List.mem_cons.1 ha with rfl | ha
  ·exact hg
  ·exact List.mem_cons_of_mem _ (Fm.subs_trans (f:=x) ha g hg)
theorem RI {e:Fm} (h:e.modal = true):e.inner ∈ e.subs ∧ e.kids = [e.inner]:=by
 cases e with
 | box a=>exact ⟨List.mem_cons_of_mem _ a.subs_self,rfl⟩
 | dia a=>exact ⟨List.mem_cons_of_mem _ a.subs_self,rfl⟩
 | var _=>cases h
 | fls=>cases h
 | and _ _=>cases h
 | or _ _=>cases h
 | imp _ _=>cases h
theorem kH {ps:List Fm}:∀ {f:Fm},(∀ g ∈ f.subs,g.elem = true → g ∈ ps) → Parts ps f
 | .var _,_=>trivial
 | .fls,_=>trivial
 | .and _ _,h=>⟨kH fun g hg=>h g (List.mem_cons_of_mem _ (List.mem_append_left _ hg)),kH fun g hg=>h g (List.mem_cons_of_mem _ (List.mem_append_right _ hg))⟩
 | .or _ _,h=>⟨kH fun g hg=>h g (List.mem_cons_of_mem _ (List.mem_append_left _ hg)),kH fun g hg=>h g (List.mem_cons_of_mem _ (List.mem_append_right _ hg))⟩
 | .imp _ _,h=>⟨kH fun g hg=>h g (List.mem_cons_of_mem _ (List.mem_append_left _ hg)),kH fun g hg=>h g (List.mem_cons_of_mem _ (List.mem_append_right _ hg))⟩
 | .box _,h=>⟨h _ (List.mem_cons_self ..) rfl,kH fun g hg=>h g (List.mem_cons_of_mem _ hg)⟩
 | .dia _,h=>⟨h _ (List.mem_cons_self ..) rfl,kH fun g hg=>h g (List.mem_cons_of_mem _ hg)⟩
theorem T2 {ps:List Fm} (hd:ps.Nodup) {i:Nat} (hi:i < ps.length):ps.idxOf ps[i] = i:=hd.idxOf_getElem i hi
theorem T8 {f:Fm} (hg:f.good):(bQ f).Nodup:=by
 unfold bQ
 refine List.Nodup.sublist List.filter_sublist ?_
 have h1:(subT f).Pairwise fun a b=>ltS a b = true:=TN _
 have hm:=fun t ht=>NV (f:=f) hg (t:=t) ht
 unfold List.Nodup
 rw [List.pairwise_map]
 refine h1.imp_of_mem fun {a b} ha hb hlt e=>?_
 obtain ⟨x,_,e1,e2⟩:=hm a ha
 obtain ⟨y,_,e3,e4⟩:=hm b hb
 rw [e2,e4] at e
 rw [e1,e3,e,rZ] at hlt
 cases hlt
theorem Z1 {w:World} {t:TypeId} {z0 z1 z2 a b c:Value} {K:Value → World → Prop} (h:∀ q w',q = w.heap.size ∧ w'.heap.size = q + 1 → Ext w w' → Blk t w' q [a,b,c] → K (.slice (some ⟨q,0,none⟩) 1 1) w'):
  xBs t (Value.cells (.agg #[z0,z1,z2])) 3 1 [(0,.agg #[a,b,c])] w K:=by
 refine ⟨#[a,b,c],?_,h _ _ ⟨rfl,by simp⟩ (Ext.alloc w _) (Blk.new w #[a,b,c] t)⟩
 simp [Instr.fill,Value.cells,show Array.range 3 = #[0,1,2] from rfl]
end Go.Vc
namespace Go.Proofs.YtbfpohbmgjcjmaaGreatDoor
open Go.Vc
abbrev tT:TypeId:=178
structure RelB (w w':World):Prop where
 ow:∀ {k lo n:Nat} {e:TypeId} {v:Value} {xs:List Value},e ≠ aQ → e ≠ tT → OwK k lo e w v n xs → OwK k lo e w' v n xs
 bk:∀ {e:TypeId} {b:Nat} {cs:List Value},e ≠ aQ → e ≠ tT → Blk e w b cs → Blk e w' b cs
theorem relB {S:Nat → Prop} {w w':World} (x:Ch S w w') (hS:∀ c,S c → (∃ cs,Blk aQ w c cs) ∨ ∃ cs,Blk tT w c cs):RelB w w':=
 ⟨fun h1 h2 ho=>OwK.ch ho x fun c hc hs=>by
  rcases hS c hs with ⟨cs,hb⟩ | ⟨cs,hb⟩
  ·exact OwK.ne_blk ho hb h1 hc
  ·exact OwK.ne_blk ho hb h2 hc,fun h1 h2 hb=>hb.ch x fun hs=>by
  rcases hS _ hs with ⟨cs,hb'⟩ | ⟨cs,hb'⟩
  ·exact hb.ne hb' h1 rfl
  ·exact hb.ne hb' h2 rfl⟩
theorem RelB.ext {w w':World} (x:Ext w w'):RelB w w':=⟨fun _ _ h=>OwK.ext h x,fun _ _ h=>h.ext x⟩
theorem RelB.trans {w w' w'':World} (h:RelB w w') (k:RelB w' w''):RelB w w'':=⟨fun h1 h2 ho=>k.ow h1 h2 (h.ow h1 h2 ho),fun h1 h2 hb=>k.bk h1 h2 (h.bk h1 h2 hb)⟩
theorem zU {lo:Nat} {w w':World} {v:Value} {xs:List Value} (h:Ow lo aQ w v xs) (x:Ch (fun c=>v.ownBlock = some c) w w'):RelB w w':=relB x fun c hc=>.inl (by
 obtain ⟨cur,hh⟩:=Ow.ty h hc
 exact ⟨cur.toList,by unfold Blk;rw [hh]⟩)
theorem EG {q:Nat} {w w':World} {cs:List Value} (h:Blk tT w q cs) (x:Ch (fun c=>c = q) w w'):RelB w w':=relB x fun _ hc=>.inr ⟨cs,hc ▸ h⟩
theorem ElW.rel {w w':World} {v:Value} {ps:List Fm} (h:ElW w v ps) (x:RelB w w'):ElW w' v ps:=
 let ⟨L,h1,h2,h3⟩:=h.ex
 ⟨L,h1,x.ow (by decide) (by decide) h2,fun p hp=>x.ow (by decide) (by decide) (h3 p hp)⟩
theorem NdW.ch {m:Nat} {S:Nat → Prop} {w w':World} {v:Value} {ps M:List Fm} (h:NdW m w v ps M) (x:Ch S w w') (hS:∀ c,S c → m ≤ c ∧ ((∃ cs,Blk aQ w c cs) ∨ ∃ cs,Blk tT w c cs)):NdW m w' v ps M:=
 let ⟨L,h1,h2,h3⟩:=h.ex
 ⟨L,h1,(relB x fun c hc=>(hS c hc).2).ow (by decide) (by decide) h2,fun p hp=>⟨(h3 p hp).1.ch x fun c hc hs=>by
  have h4:=(h3 p hp).2 c hc
  have h5:=(hS c hs).1
  omega,(h3 p hp).2⟩⟩
theorem NdW.q {m q:Nat} {w w':World} {v:Value} {ps M:List Fm} {cs:List Value} (h:NdW m w v ps M) (hB:Blk tT w q cs) (x:Ch (fun c=>c = q) w w'):NdW m w' v ps M:=
 let ⟨L,h1,h2,h3⟩:=h.ex
 ⟨L,h1,(EG hB x).ow (by decide) (by decide) h2,fun p hp=>⟨Ow.chQ (h3 p hp).1 hB (by decide) x,(h3 p hp).2⟩⟩
theorem NdW.mono {m m':Nat} {w:World} {v:Value} {ps M:List Fm} (h:NdW m w v ps M) (hm:m ≤ m'):NdW m' w v ps M:=
 let ⟨L,h1,h2,h3⟩:=h.ex
 ⟨L,h1,h2,fun p hp=>⟨(h3 p hp).1,fun c hc=>Nat.lt_of_lt_of_le ((h3 p hp).2 c hc) hm⟩⟩
end Go.Proofs.YtbfpohbmgjcjmaaGreatDoor

namespace Go.Proofs.YtbfpohbmgjcjmaaGreatDoor
open Go.Vc
abbrev tP:TypeId:=148
structure NtW (m:Nat) (w0 w:World) (q q3 q5:Nat) (l:Str) (ps:List Fm) (vL vR vp vn vc vr va:Value) (M:List Fm):Prop where
 x:Ext w0 w
 loq:w0.heap.size ≤ q
 blk:Blk tT w q [sv l,vp,vn,vc,vr,va]
 b3:Blk 79 w q3 [vL,vR]
 p5:Blk tP w q5 [.pointer (some ⟨q,0,none⟩)]
 el:ElW w vp ps
 nd:NdW m w vn ps M
 lov:∀ c,vn.ownBlock = some c → w0.heap.size ≤ c ∧ c < w.heap.size
section
variable {m:Nat} {w0 w w':World} {q q3 q5:Nat} {l:Str} {ps:List Fm} {vL vR vp vn vc vr va:Value} {M:List Fm}
theorem NtW.ext (h:NtW m w0 w q q3 q5 l ps vL vR vp vn vc vr va M) (x:Ext w w'):NtW m w0 w' q q3 q5 l ps vL vR vp vn vc vr va M:=
 ⟨h.x.trans x,h.loq,h.blk.ext x,h.b3.ext x,h.p5.ext x,h.el.ext x,h.nd.ext x,fun c hc=>⟨(h.lov c hc).1,Nat.lt_of_lt_of_le (h.lov c hc).2 x.size⟩⟩
theorem NtW.mono {m':Nat} (h:NtW m w0 w q q3 q5 l ps vL vR vp vn vc vr va M) (hm:m ≤ m'):NtW m' w0 w q q3 q5 l ps vL vR vp vn vc vr va M:=⟨h.x,h.loq,h.blk,h.b3,h.p5,h.el,h.nd.mono hm,h.lov⟩
theorem NtW.turn {lo:Nat} {v:Value} {xs:List Value} (h:NtW m w0 w q q3 q5 l ps vL vR vp vn vc vr va M) (ho:Ow lo aQ w v xs) (hlo:m ≤ lo) (hw:w0.heap.size ≤ lo) (x:Ch (fun c=>v.ownBlock = some c) w w'):NtW m w0 w' q q3 q5 l ps vL vR vp vn vc vr va M:=by
 have r:=zU ho x
 refine ⟨h.x.thenCh x fun c hc=>Nat.le_trans hw (ho.blk c hc).1,h.loq,h.blk.ch x fun hS=>ho.ne_blk h.blk (by decide) hS,r.bk (by decide) (by decide) h.b3,r.bk (by decide) (by decide) h.p5,h.el.rel r,h.nd.ch x fun c hc=>⟨Nat.le_trans hlo (ho.blk c hc).1,.inl ?_⟩,fun c hc=>⟨(h.lov c hc).1,Nat.lt_of_lt_of_le (h.lov c hc).2 x.size⟩⟩
 obtain ⟨cur,hh⟩:=Ow.ty ho hc
 exact ⟨cur.toList,by unfold Blk;rw [hh]⟩
theorem NtW.sto {vc' vr' va':Value} (h:NtW m w0 w q q3 q5 l ps vL vR vp vn vc vr va M) (x:Ch (fun c=>c = q) w w') (hB:Blk tT w' q [sv l,vp,vn,vc',vr',va']):NtW m w0 w' q q3 q5 l ps vL vR vp vn vc' vr' va' M:=by
 have r:=EG h.blk x
 exact ⟨h.x.thenCh x fun c hc=>by rw [hc];exact h.loq,h.loq,hB,r.bk (by decide) (by decide) h.b3,r.bk (by decide) (by decide) h.p5,h.el.rel r,h.nd.q h.blk x,fun c hc=>⟨(h.lov c hc).1,Nat.lt_of_lt_of_le (h.lov c hc).2 x.size⟩⟩
end
theorem ZO {w0 w14:World} {q q3 q5 i:Nat} {l:Str} {ps:List Fm} {vL vR vp vn vr va:Value} (h:NtW w14.heap.size w0 w14 q q3 q5 l ps vL vR vp vn (.int .i64 ((2 ^ ps.length:Nat):Int)) vr va ((ps.take i).filter Fm.modal)) (h8:ps.length ≤ 8) (hi:i < ps.length) (hd:ps.Nodup)
  (hcl:∀ e ∈ ps,e.modal = true → ∀ g ∈ e.inner.subs,g.elem = true → g ∈ ps) (hsz:∀ e ∈ ps,e.size ≤ 40) {K:World → Prop} (hK:∀ w' vn',NtW w'.heap.size w0 w' q q3 q5 l ps vL vR vp vn' (.int .i64 ((2 ^ ps.length:Nat):Int)) vr va ((ps.take (i + 1)).filter Fm.modal) → K w'):
  xIa 2 vp (.int .i64 (i:Int)) fun v35=>xLdA w14 2 v35 fun v36=>xNew (Value.cells (.agg #[.string ⟨#[]⟩,.slice none 0 0])) bN w14 fun v7 w15=>xStA Tryz.prog w15 2 v7 v36 fun w16=>xFa 1 v7 fun v37=>xLd w16 v37 fun v38=>xIa 2 v38 (.int .i64 0) fun v39=>xFa 0 v39 fun v40=>xLd w16 v40 fun v41=>callV Tryz.prog (.func (.func m8) #[] #[]) [v41] w16 fun v42 w17=>
   cnd v42 (xFa 1 v7 fun v44=>xLd w17 v44 fun v45=>xIa 2 v45 (.int .i64 0) fun v46=>xFa 0 v46 fun v47=>xLd w17 v47 fun v48=>aR #[.int .i64 0,.int .i64 0,.slice none 0 0] #[(0,1),(1,1),(2,1)] [(0,.int .i64 (i:Int)),(1,v48)] fun v49=>xNew (Value.cells (.agg #[.int .i64 0,.int .i64 0,.slice none 0 0])) bI w17 fun v8 w18=>xStA Tryz.prog w18 3 v8 v49 fun w19=>
    xLd w19 (.pointer (some ⟨q5,0,none⟩)) fun v50=>xNil v50 fun v51=>xFa 3 v51 fun v52=>xLd w19 v52 fun v53=>lp (fun K20 xs20 w21=>∀ _:Nat → Value,xLt .i64 (gx xs20 0) v53 fun v55=>cnd v55 (∃ D22:Nat → Prop,xFa 2 v8 fun v57=>xLd w21 v57 fun v58=>(∀ w23,Ch D22 w21 w23 → xLd w23 v57 fun u58=>u58 = v58) ∧ xLd w21 (.pointer (some ⟨q5,0,none⟩)) fun v59=>(∀ w24,Ch D22 w21 w24 → xLd w24 (.pointer (some ⟨q5,0,none⟩)) fun u59=>u59 = v59) ∧ xFa 1 v7 fun v60=>xLd w21 v60 fun v61=>(∀ w25,Ch D22 w21 w25 → xLd w25 v60 fun u61=>u61 = v61) ∧
     ∀ w26,Ext w21 w26 → callV Tryz.prog (.func (.func zQ) #[] #[]) [v61] w26 fun v62 w27=>Ch D22 w26 w27 ∧ mH Tryz.prog (Ch D22) (.func (.func fV) #[] #[]) [v59,v62,gx xs20 0] w27 fun v64=>∀ w28,Ext w27 w28 → xBs aQ (Value.cells (.bool false)) 1 1 [(0,v64)] w28 fun v65 w29=>Ch D22 w28 w29 ∧ ∀ w30,Ext w29 w30 → xOp Tryz.prog (Builtin.append_ #[f7,f7] f7 #[v58,v65]) w30 fun v66 w31=>xFa 2 v8 fun v67=>∀ w32,Ext w31 w32 → xSt w32 v67 v66 fun w33=>∀ w34,Ext w33 w34 → xAdd .i64 (gx xs20 0) (.int .i64 1) fun v68=>K20 [v68] w34)
    (∃ D35:Nat → Prop,xLd w21 (.pointer (some ⟨q5,0,none⟩)) fun v69=>(∀ w36,Ch D35 w21 w36 → xLd w36 (.pointer (some ⟨q5,0,none⟩)) fun u69=>u69 = v69) ∧ xLd w21 (.pointer (some ⟨q5,0,none⟩)) fun v70=>(∀ w37,Ch D35 w21 w37 → xLd w37 (.pointer (some ⟨q5,0,none⟩)) fun u70=>u70 = v70) ∧ xNil v70 fun v71=>xFa 2 v71 fun v72=>xLd w21 v72 fun v73=>(∀ w38,Ch D35 w21 w38 → xLd w38 v72 fun u73=>u73 = v73) ∧ xLdA w21 3 v8 fun v74=>(∀ w39,Ch D35 w21 w39 → xLdA w39 3 v8 fun u74=>u74 = v74) ∧
     ∀ w40,Ext w21 w40 → xBs bI (Value.cells (.agg #[.int .i64 0,.int .i64 0,.slice none 0 0])) 3 1 [(0,v74)] w40 fun v75 w41=>Ch D35 w40 w41 ∧ ∀ w42,Ext w41 w42 → xOp Tryz.prog (Builtin.append_ #[rI,rI] rI #[v73,v75]) w42 fun v76 w43=>Ch D35 w42 w43 ∧ xNil v69 fun v77=>xFa 2 v77 fun v78=>∀ w44,Ext w43 w44 → xSt w44 v78 v76 fun w45=>∀ w46,Ext w45 w46 → K w46)) [.int .i64 0] w19) (K w17):=by
 have h256:2 ^ ps.length ≤ 2 ^ 8:=Nat.pow_le_pow_right (by decide) h8
 obtain ⟨L,hL,ho,hLf⟩:=h.el.ex
 have hLl:L.length = ps.length:=by rw [← hL,List.length_map]
 have hil:i < L.length:=by omega
 have hm:gt L i ∈ L:=by rw [gt_eq hil];exact List.getElem_mem _
 have hpe:ps[i] = (gt L i).2:=by
  have h1:ps[i]? = some (gt L i).2:=by rw [← hL,List.getElem?_map,List.getElem?_eq_getElem hil,Option.map_some,gt_eq hil]
  rw [List.getElem?_eq_getElem hi] at h1
  exact Option.some.inj h1
 have hfe:FmW 0 w14 (gt L i).1 (gt L i).2:=hLf _ hm
 have hep:(gt L i).2 ∈ ps:=by rw [← hpe];exact List.getElem_mem hi
 have hidx:ps.idxOf (gt L i).2 = i:=by rw [← hpe];exact T2 hd hi
 have tk:(ps.take (i + 1)).filter Fm.modal = (ps.take i).filter Fm.modal ++ (if (gt L i).2.modal then [(gt L i).2] else []):=by
  rw [List.take_succ_eq_append_getElem hi,List.filter_append,hpe]
  cases e:(gt L i).2.modal <;> simp [e]
 have hszE:=hsz _ hep
 have hclE:=hcl _ hep
 refine iLdK (j:=i) (cs:=#[sv (gt L i).2.body,(gt L i).1]) ho.sl rfl hil rfl (fun j hj=>by rw [IX hil j hj];simp) ?_
 generalize gt L i = p at *
 obtain ⟨v7,e⟩:=p
 have hfe:FmW 0 w14 v7 e:=hfe
 have hidx:ps.idxOf e = i:=hidx
 have tk:(ps.take (i + 1)).filter Fm.modal = (ps.take i).filter Fm.modal ++ (if e.modal then [e] else []):=tk
 have hszE:e.size ≤ 40:=hszE
 have hep':=e.size_pos
 refine iNew2 fun q7 w15 hq7 x15 hB15=>?_
 refine iStAB hB15 rfl rfl (fun y hy=>?_) fun w16 u16 hB16=>?_
 ·simp only [List.mem_cons,List.not_mem_nil,or_false] at hy
  rcases hy with rfl | rfl
  ·rfl
  ·exact OwK.cell hfe
 have x1416:Ext w14 w16:=x15.upd u16 (by omega)
 have hB16:Blk bN w16 q7 [sv e.body,v7]:=hB16
 refine iFa (iLdB hB16 (i:=1) (v:=v7) rfl ?_)
 have fe:∀ {w':World},Ext w14 w' → FmS w' v7 e:=fun x=>(OwK.ext hfe x).sl
 refine iFld (j:=0) (f:=0) (fe x1416) rfl hep' (by decide) (aO (fe x1416)).1 ?_
 refine iRet (zY e.kind w16) fun w17 x17=>?_
 rw [← e.modal_kind]
 have x1417:=x1416.trans x17
 refine iCnd (fun hmo=>?_) (fun hmo=>?_)
 rotate_left
 ·rw [hmo] at tk
  refine hK w17 vn ?_
  rw [tk]
  simp only [Bool.false_eq_true,if_false,List.append_nil]
  exact (h.ext x1417).mono x1417.size
 rw [hmo,if_pos rfl] at tk
 have hB17:=hB16.ext x17
 refine iFa (iLdB hB17 (i:=1) (v:=v7) rfl ?_)
 refine iFld (j:=0) (f:=0) (fe x1417) rfl hep' (by decide) (aO (fe x1417)).1 ?_
 refine f8 (cs:=#[.int .i64 (i:Int),.int .i64 (e.kind:Int),.slice none 0 0]) (by simp [Instr.fill,aH (show aF (.int .i64 (i:Int)) = true from rfl),aH (show aF (.int .i64 (e.kind:Int)) = true from rfl)]) ?_
 refine iNew3 fun q8 w18 hq8 x18 hB18=>?_
 refine iStAB hB18 rfl rfl (fun y hy=>?_) fun w19 u19 hB19=>?_
 ·simp only [List.mem_cons,List.not_mem_nil,or_false] at hy
  rcases hy with rfl | rfl | rfl <;> rfl
 have hB19:Blk bI w19 q8 [.int .i64 (i:Int),.int .i64 (e.kind:Int),.slice none 0 0]:=hB19
 have s1417:=x1417.size
 have x1719:Ext w17 w19:=x18.upd u19 (by omega)
 have x1419:=x1417.trans x1719
 have h19:=h.ext x1419
 have hq7':q7 < q8:=by have:=hB17.lt;omega
 refine iLdB h19.p5 (i:=0) (v:=.pointer (some ⟨q,0,none⟩)) rfl (iNil (iFa (iLdB h19.blk (i:=3) (v:=.int .i64 ((2 ^ ps.length:Nat):Int)) rfl ?_)))
 refine iLp (fun j:Nat=>[.int .i64 (j:Int)]) (fun j w'=>j ≤ 2 ^ ps.length ∧ Ext w14 w' ∧ Blk bN w' q7 [sv e.body,v7] ∧ ∃ vin,Blk bI w' q8 [.int .i64 (i:Int),.int .i64 (e.kind:Int),vin] ∧ Ow w14.heap.size aQ w' vin ((rN ps e).take j)) (fun j=>2 ^ ps.length - j) 0 rfl ⟨Nat.zero_le _,x1419,hB17.ext x1719,_,hB19,Ow.nil _ _ _⟩ ?_
 rintro j w21 Kn ⟨hj,x21,hB7,vin,hB8,hin⟩ hKn
 intro _
 simp only [gx]
 have h21:=h.ext x21
 have l8:=hB8.lt
 refine iLt (iCndP (fun hlt=>?_) (fun hlt=>?_))
 ·have hjl:j < 2 ^ ps.length:=by omega
  have hlen:((rN ps e).take j).length = j:=by rw [List.length_take,nC];omega
  have toX:∀ {w' w'':World},Ch (fun _:Nat=>False) w' w'' → Ext w' w'':=fun c=>c.toExt fun _ h=>h.elim
  refine ⟨fun _=>False,iFa (iLdB hB8 (i:=2) (v:=vin) rfl ⟨fun w' c=>iLdB (hB8.ext (toX c)) (i:=2) (v:=vin) rfl rfl,?_⟩)⟩
  refine iLdB h21.p5 (i:=0) (v:=.pointer (some ⟨q,0,none⟩)) rfl ⟨fun w' c=>iLdB (h21.p5.ext (toX c)) (i:=0) (v:=.pointer (some ⟨q,0,none⟩)) rfl rfl,?_⟩
  refine iFa (iLdB hB7 (i:=1) (v:=v7) rfl ⟨fun w' c=>iLdB (hB7.ext (toX c)) (i:=1) (v:=v7) rfl rfl,?_⟩)
  intro w26 x26
  obtain ⟨is1,is2⟩:=RI hmo
  refine iCall ((aM (fe (x21.trans x26)) (g:=e.inner) (gs:=[]) is2 (by omega)).mono ?_)
  rintro v62 w27 ⟨x27,h62⟩
  refine ⟨x27.ch,?_⟩
  have x2127:=x26.trans x27
  have h27:=h21.ext x2127
  have hisz:e.inner.size ≤ 1000:=by cases e <;> first | (have:=hszE;simp only [Fm.inner,Fm.size] at *;omega)
  refine iQEZ (v:=.bool (tv ps j e.inner)) (fun w' c=>B5 h8 hjl e.inner (h27.blk.ext (toX c)) (h27.el.ext (toX c)) (SlK.ext h62 (toX c)) (hclE hmo) hisz) ?_
  intro w28 x28
  refine iBs1 rfl rfl fun c w29 hc29 x29 hB29=>⟨x29.ch,fun w30 x30=>?_⟩
  have x2130:=((x2127.trans x28).trans x29).trans x30
  have X30:=x21.trans x2130
  have hin30:=hin.ext x2130
  refine iAppA P7 QQ rfl hin30 (Sl.ofBlk (n:=1) (hB29.ext x30) rfl (by decide)) (fun u hu=>?_) (by rw [hlen];simp;omega) (by rw [hlen];simp;omega) X30.size fun v66 w31 ho31 hg31 _=>?_
  ·rw [List.mem_singleton.1 hu];rfl
  have c31:=bJ (S:=fun c=>vin.ownBlock = some c) hg31 fun c hc=>hc
  have hB8':=(hB8.ext x2130).ch c31 fun hS=>hin30.ne_blk (hB8.ext x2130) (by decide) hS
  have hB7':=(hB7.ext x2130).ch c31 fun hS=>hin30.ne_blk (hB7.ext x2130) (by decide) hS
  have X31:Ext w14 w31:=X30.thenCh c31 fun c hc=>(hin30.blk c hc).1
  refine iFa fun w32 x32=>?_
  refine iStU (hB8'.ext x32) (by simp) ho31.cell fun w33 hB33 u33=>?_
  have c33:=u33.ch (S:=fun c=>c = q8) rfl
  intro w34 x34
  refine iAdd (by omega) ?_
  refine hKn (j + 1) _ ⟨hjl,((X31.trans x32).thenCh c33 fun c hc=>by omega).trans x34,((hB7'.ext x32).ch c33 (show ¬ q7 = q8 by omega)).ext x34,v66,hB33.ext x34,?_⟩ (by omega)
  have ho33:=(Ow.chQ (ho31.ext x32) (hB8'.ext x32) (by decide) c33).ext x34
  rw [List.take_succ_eq_append_getElem (by rw [nC];exact hjl)]
  have e1:(rN ps e)[j]'(by rw [nC];exact hjl) = .bool (tv ps j e.inner):=by
   have:=Q0 (e:=e) hjl
   rw [List.getElem?_eq_getElem (by rw [nC];exact hjl)] at this
   exact Option.some.inj this
  rw [e1]
  exact ho33
 have:j = 2 ^ ps.length:=by omega
 subst this
 rw [List.take_of_length_le (by rw [nC];omega)] at hin
 obtain ⟨N,hN,hNo,hNi⟩:=h21.nd.ex
 have hvn8:¬ vn.ownBlock = some q8:=fun e=>by have:=(h.lov _ e).2;omega
 refine ⟨fun c=>vn.ownBlock = some c,?_⟩
 have hty:∀ c,vn.ownBlock = some c → ∃ cs,Blk bI w21 c cs:=fun c hc=>by
  obtain ⟨cur,hh⟩:=OwK.ty hNo hc
  exact ⟨cur.toList,by unfold Blk;rw [hh]⟩
 have st:∀ {w':World} {ty:TypeId} {bb:Nat} {cs:List Value},Ch (fun c=>vn.ownBlock = some c) w21 w' → Blk ty w21 bb cs → ty ≠ bI → Blk ty w' bb cs:=fun c hb hne=>hb.ch c fun hS=>by
  obtain ⟨cs,hh⟩:=hty _ hS
  exact hb.ne hh hne rfl
 refine iLdB h21.p5 (i:=0) (v:=.pointer (some ⟨q,0,none⟩)) rfl ⟨fun w' c=>iLdB (st c h21.p5 (by decide)) (i:=0) (v:=.pointer (some ⟨q,0,none⟩)) rfl rfl,?_⟩
 refine iLdB h21.p5 (i:=0) (v:=.pointer (some ⟨q,0,none⟩)) rfl ⟨fun w' c=>iLdB (st c h21.p5 (by decide)) (i:=0) (v:=.pointer (some ⟨q,0,none⟩)) rfl rfl,?_⟩
 refine iNil (iFa (iLdB h21.blk (i:=2) (v:=vn) rfl ⟨fun w' c=>iLdB (st c h21.blk (by decide)) (i:=2) (v:=vn) rfl rfl,?_⟩))
 refine iLdA hB8 rfl ⟨fun w' c=>iLdA (hB8.ch c hvn8) rfl rfl,?_⟩
 intro w40 x40
 refine Z1 fun qb w41 hqb x41 hB41=>⟨x41.ch,fun w42 x42=>?_⟩
 have x2142:=(x40.trans x41).trans x42
 have h42:=h21.ext x2142
 have hN42:=OwK.ext hNo x2142
 have hNl:N.length ≤ 8:=by
  have h1:N.length = ((ps.take i).filter Fm.modal).length:=by rw [← hN,List.length_map]
  have h2:=List.length_filter_le Fm.modal (ps.take i)
  have h3:(ps.take i).length ≤ i:=by rw [List.length_take];omega
  omega
 refine iAppK S1 TT rfl (by decide) hN42 (SlK.ofBlk (n:=1) (k:=3) (hB41.ext x42) rfl (by decide)) (fun u hu=>?_) (by omega) (by omega) (Nat.zero_le _) fun v76 w43 ho43 hg43 hn43=>?_
 ·simp only [List.mem_cons,List.not_mem_nil,or_false] at hu
  rcases hu with rfl | rfl | rfl
  ·rfl
  ·rfl
  ·exact hin.cell
 have c43:=bJ (S:=fun c=>vn.ownBlock = some c) hg43 fun c hc=>hc
 refine ⟨c43,?_⟩
 have hty2:∀ c,vn.ownBlock = some c → ∃ cs,Blk bI w42 c cs:=fun c hc=>by
  obtain ⟨cur,hh⟩:=OwK.ty hN42 hc
  exact ⟨cur.toList,by unfold Blk;rw [hh]⟩
 have stB:∀ {ty:TypeId} {bb:Nat} {cs:List Value},Blk ty w42 bb cs → ty ≠ bI → Blk ty w43 bb cs:=fun hb hne=>hb.ch c43 fun hS=>by
  obtain ⟨cs,hh⟩:=hty2 _ hS
  exact hb.ne hh hne rfl
 have stO:∀ {k lo n:Nat} {ty:TypeId} {v:Value} {xs:List Value},OwK k lo ty w42 v n xs → ty ≠ bI → OwK k lo ty w43 v n xs:=fun ho hne=>OwK.ch ho c43 fun c hc hS=>by
  obtain ⟨cs,hh⟩:=hty2 _ hS
  exact OwK.ne_blk ho hh hne hc
 have hq43:=stB h42.blk (by decide)
 refine iNil (iFa fun w44 x44=>?_)
 refine iStU (hq43.ext x44) (by simp) (OwK.cell ho43) fun w45 hB45 u45=>?_
 have c45:=u45.ch (S:=fun c=>c = q) rfl
 intro w46 x46
 have hB45:Blk tT w45 q [sv l,vp,v76,.int .i64 ((2 ^ ps.length:Nat):Int),vr,va]:=hB45
 have r4345:=EG (hq43.ext x44) c45
 have X43:Ext w0 w43:=h42.x.thenCh c43 fun c hc=>(h.lov c hc).1
 have X46:Ext w0 w46:=((X43.trans x44).thenCh c45 fun c hc=>by rw [hc];exact h.loq).trans x46
 have s46:w43.heap.size ≤ w46.heap.size:=by have:=x44.size;have:=c45.size;have:=x46.size;omega
 have bk:∀ {ty:TypeId} {bb:Nat} {cs:List Value},Blk ty w42 bb cs → ty ≠ bI → ty ≠ aQ → ty ≠ tT → Blk ty w46 bb cs:=fun hb h1 h2 h3=>(r4345.bk h2 h3 ((stB hb h1).ext x44)).ext x46
 have ok:∀ {k lo n:Nat} {ty:TypeId} {v:Value} {xs:List Value},OwK k lo ty w42 v n xs → ty ≠ bI → ty ≠ aQ → ty ≠ tT → OwK k lo ty w46 v n xs:=fun ho h1 h2 h3=>OwK.ext (r4345.ow h2 h3 (OwK.ext (stO ho h1) x44)) x46
 obtain ⟨L2,e1,e2,e3⟩:=h42.el.ex
 refine hK w46 v76 ⟨X46,h.loq,hB45.ext x46,bk h42.b3 (by decide) (by decide) (by decide),bk h42.p5 (by decide) (by decide) (by decide),⟨L2,e1,ok e2 (by decide) (by decide) (by decide),fun p hp=>ok (e3 p hp) (by decide) (by decide) (by decide)⟩,⟨N ++ [(vin,e)],?_,?_,fun p hp=>?_⟩,fun c hc=>?_⟩
 ·rw [tk,List.map_append,hN];rfl
 ·rw [T3,List.length_append]
  have ec:e5 ps [(vin,e)] = [.int .i64 (i:Int),.int .i64 (e.kind:Int),vin]:=by simp [e5,hidx]
  rw [ec]
  exact OwK.ext (r4345.ow (by decide) (by decide) (OwK.ext ho43 x44)) x46
 ·have kb:∀ {lo:Nat} {v:Value} {xs:List Value},Ow lo aQ w42 v xs → Ow lo aQ w46 v xs:=fun hb=>(Ow.chQ ((stO hb (by decide):Ow _ _ _ _ _).ext x44) (hq43.ext x44) (by decide) c45).ext x46
  rcases List.mem_append.1 hp with hp | hp
  ·have h1:=hNi p hp
   exact ⟨kb (h1.1.ext x2142),fun c hc=>by have h2:=h1.2 c hc;have:=X46.size;have:=x21.size;have:=x2142.size;have:=c43.size;omega⟩
  ·rw [List.mem_singleton.1 hp]
   exact ⟨kb ((hin.ext x2142).mono (Nat.zero_le _)),fun c hc=>by have h2:=(hin.blk c hc).2;have:=x2142.size;have:=c43.size;omega⟩
 ·rcases hn43 with n | ⟨c',n1,n2⟩
  ·rw [n] at hc
   have h1:=h42.lov c hc
   exact ⟨h1.1,by have:=c43.size;omega⟩
  ·rw [n1] at hc;cases hc
   have h1:=h42.x.size
   have h2:=(OwK.blk ho43 _ n1).2
   exact ⟨by omega,by omega⟩
end Go.Proofs.YtbfpohbmgjcjmaaGreatDoor

namespace Go.Vc
theorem PC {g:Nat → Bool} (t:Nat):((List.range (t + 1)).map g).map Value.bool = ((List.range t).map g).map Value.bool ++ [.bool (g t)]:=by simp [List.range_succ]
theorem TD {g:Nat → Bool} {n t:Nat} (h:t < n):gt ((List.range n).map g) t = g t:=by rw [gt_eq (by simpa using h)];simp
end Go.Vc
namespace Go.Proofs.YtbfpohbmgjcjmaaGreatDoor
open Go.Vc
theorem HX {v:Value} {w:World} (h:SlT w v []):Cal Tryz.prog oA #[v] w fun r w'=>Ext w w' ∧ Ow 0 aB w' r []:=by
 apply xN;unfold oE
 refine fI h ?_
 refine iLp (fun _:Unit=>[.slice none 0 0,.int .i64 0]) (fun _ w'=>w' = w) (fun _=>0) () rfl rfl ?_
 rintro _ _ Kn rfl _
 intro _
 simp only [gx]
 exact iLt (iCndF (by simp) ⟨Ext.refl _,Ow.nil _ _ _⟩)
theorem Y9 {m:Nat} {w0 w53:World} {q q3 q5 t:Nat} {l:Str} {ps:List Fm} {vL vR vp vn vr va v82 v85 u:Value} {f:Fm} (h:NtW m w0 w53 q q3 q5 l ps vL vR vp vn (.int .i64 ((2 ^ ps.length:Nat):Int)) vr va (needs ps)) (hm0:w0.heap.size ≤ m) (hm:m ≤ w53.heap.size) (hl:sysNo l < 10) (h8:ps.length ≤ 8) (ht:t < 2 ^ ps.length) (hall:∀ g ∈ f.subs,g.elem = true → g ∈ ps) (hfs:f.size ≤ 1000)
  (h82:Ow 0 aB w53 v82 []) (h85:Ow 0 aB w53 v85 [u]) (hu:FmW 0 w53 u f) (hr:Ow m aQ w53 vr (((List.range t).map fun t=>!tv ps t f).map Value.bool)) (ha:Ow m aQ w53 va (((List.range t).map fun t=>eF (sysNo l) ps t).map Value.bool)) (hne:∀ c,vr.ownBlock = some c → va.ownBlock = some c → False) {K:World → Prop}
  (hK:∀ w' vr' va',NtW m w0 w' q q3 q5 l ps vL vR vp vn (.int .i64 ((2 ^ ps.length:Nat):Int)) vr' va' (needs ps) → m ≤ w'.heap.size → Ow 0 aB w' v82 [] → Ow 0 aB w' v85 [u] → FmW 0 w' u f → Ow m aQ w' vr' (((List.range (t + 1)).map fun t=>!tv ps t f).map Value.bool) → Ow m aQ w' va' (((List.range (t + 1)).map fun t=>eF (sysNo l) ps t).map Value.bool) → (∀ c,vr'.ownBlock = some c → va'.ownBlock = some c → False) → K w'):
  xNew (Value.cells (.int .i64 0)) 2 w53 fun v12 w54=>xSt w54 v12 (.int .i64 (t:Int)) fun w55=>jn (fun J56=>∃ D58:Nat → Prop,xLd w55 (.pointer (some ⟨q5,0,none⟩)) fun v93=>(∀ w59,Ch D58 w55 w59 → xLd w59 (.pointer (some ⟨q5,0,none⟩)) fun u93=>u93 = v93) ∧ xLd w55 (.pointer (some ⟨q5,0,none⟩)) fun v94=>(∀ w60,Ch D58 w55 w60 → xLd w60 (.pointer (some ⟨q5,0,none⟩)) fun u94=>u94 = v94) ∧ xNil v94 fun v95=>xFa 4 v95 fun v96=>xLd w55 v96 fun v97=>(∀ w61,Ch D58 w55 w61 → xLd w61 v96 fun u97=>u97 = v97) ∧
   mH Tryz.prog (Ch D58) (.func (.func aZ) #[] #[]) [v82,.func (.func LC) #[] #[.pointer (some ⟨q5,0,none⟩),v12]] w55 fun v100=>xNot v100 fun v101=>cnd v101 (mH Tryz.prog (Ch D58) (.func (.func aZ) #[] #[]) [v85,.func (.func n9) #[] #[.pointer (some ⟨q5,0,none⟩),v12]] w55 fun v105=>xNot v105 fun v106=>
    ∀ w62,Ext w55 w62 → xBs aQ (Value.cells (.bool false)) 1 1 [(0,v106)] w62 fun v108 w63=>Ch D58 w62 w63 ∧ ∀ w64,Ext w63 w64 → xOp Tryz.prog (Builtin.append_ #[f7,f7] f7 #[v97,v108]) w64 fun v109 w65=>Ch D58 w64 w65 ∧ xNil v93 fun v110=>xFa 4 v110 fun v111=>∀ w66,Ext w65 w66 → xSt w66 v111 v109 fun w67=>∀ w68,Ext w67 w68 → J56 [] w68)
   (∀ w69,Ext w55 w69 → xBs aQ (Value.cells (.bool false)) 1 1 [(0,.bool false)] w69 fun v108 w70=>Ch D58 w69 w70 ∧ ∀ w71,Ext w70 w71 → xOp Tryz.prog (Builtin.append_ #[f7,f7] f7 #[v97,v108]) w71 fun v109 w72=>Ch D58 w71 w72 ∧ xNil v93 fun v110=>xFa 4 v110 fun v111=>∀ w73,Ext w72 w73 → xSt w73 v111 v109 fun w74=>∀ w75,Ext w74 w75 → J56 [] w75)) (fun _ w57=>
   ∀ _:Nat → Value,∃ D76:Nat → Prop,xLd w57 (.pointer (some ⟨q5,0,none⟩)) fun v112=>(∀ w77,Ch D76 w57 w77 → xLd w77 (.pointer (some ⟨q5,0,none⟩)) fun u112=>u112 = v112) ∧ xLd w57 (.pointer (some ⟨q5,0,none⟩)) fun v113=>(∀ w78,Ch D76 w57 w78 → xLd w78 (.pointer (some ⟨q5,0,none⟩)) fun u113=>u113 = v113) ∧ xNil v113 fun v114=>xFa 5 v114 fun v115=>xLd w57 v115 fun v116=>(∀ w79,Ch D76 w57 w79 → xLd w79 v115 fun u116=>u116 = v116) ∧ xLd w57 (.pointer (some ⟨q5,0,none⟩)) fun v117=>(∀ w80,Ch D76 w57 w80 → xLd w80 (.pointer (some ⟨q5,0,none⟩)) fun u117=>u117 = v117) ∧ xLd w57 v12 fun v118=>(∀ w81,Ch D76 w57 w81 → xLd w81 v12 fun u118=>u118 = v118) ∧
    mH Tryz.prog (Ch D76) (.func (.func iY) #[] #[]) [v117,v118] w57 fun v119=>∀ w82,Ext w57 w82 → xBs aQ (Value.cells (.bool false)) 1 1 [(0,v119)] w82 fun v120 w83=>Ch D76 w82 w83 ∧ ∀ w84,Ext w83 w84 → xOp Tryz.prog (Builtin.append_ #[f7,f7] f7 #[v116,v120]) w84 fun v121 w85=>Ch D76 w84 w85 ∧ xNil v112 fun v122=>xFa 5 v122 fun v123=>∀ w86,Ext w85 w86 → xSt w86 v123 v121 fun w87=>∀ w88,Ext w87 w88 → K w88):=by
 have h256:2 ^ ps.length ≤ 2 ^ 8:=Nat.pow_le_pow_right (by decide) h8
 refine vP fun q12 w54 hq12 x54 hB54=>?_
 refine iStU hB54 (by simp) rfl fun w55 hB55 u55=>?_
 have x5355:Ext w53 w55:=x54.upd u55 (by omega)
 have hB55:Blk 2 w55 q12 [.int .i64 (t:Int)]:=hB55
 have g:=h.ext x5355
 have s55:=x5355.size
 have gr:=hr.ext x5355
 have ga:=ha.ext x5355
 have g82:=h82.ext x5355
 have g85:=h85.ext x5355
 have gu:=OwK.ext hu x5355
 have lr:(((List.range t).map fun t=>!tv ps t f).map Value.bool).length = t:=by simp
 have la:(((List.range t).map fun t=>eF (sysNo l) ps t).map Value.bool).length = t:=by simp
 refine iJnX (fun _ w'=>∃ vr',NtW m w0 w' q q3 q5 l ps vL vR vp vn (.int .i64 ((2 ^ ps.length:Nat):Int)) vr' va (needs ps) ∧ m ≤ w'.heap.size ∧ (Ow 0 aB w' v82 [] ∧ Ow 0 aB w' v85 [u] ∧ FmW 0 w' u f) ∧ Ow m aQ w' vr' (((List.range (t + 1)).map fun t=>!tv ps t f).map Value.bool) ∧ Ow m aQ w' va (((List.range t).map fun t=>eF (sysNo l) ps t).map Value.bool) ∧ (∀ c,vr'.ownBlock = some c → va.ownBlock = some c → False) ∧ Blk 2 w' q12 [.int .i64 (t:Int)]) (fun J hJ=>?_) ?_
 ·have rl:∀ {w':World},Ch (fun c=>vr.ownBlock = some c) w55 w' → RelB w55 w':=fun c=>zU gr c
  have gc:∀ {w':World},Ch (fun c=>vr.ownBlock = some c) w55 w' → NtW m w0 w' q q3 q5 l ps vL vR vp vn (.int .i64 ((2 ^ ps.length:Nat):Int)) vr va (needs ps):=fun c=>g.turn gr (Nat.le_refl _) hm0 c
  refine ⟨fun c=>vr.ownBlock = some c,iLdB g.p5 (i:=0) (v:=.pointer (some ⟨q,0,none⟩)) rfl ⟨fun w' c=>iLdB (gc c).p5 (i:=0) (v:=.pointer (some ⟨q,0,none⟩)) rfl rfl,?_⟩⟩
  refine iLdB g.p5 (i:=0) (v:=.pointer (some ⟨q,0,none⟩)) rfl ⟨fun w' c=>iLdB (gc c).p5 (i:=0) (v:=.pointer (some ⟨q,0,none⟩)) rfl rfl,?_⟩
  refine iNil (iFa (iLdB g.blk (i:=4) (v:=vr) rfl ⟨fun w' c=>iLdB (gc c).blk (i:=4) (v:=vr) rfl rfl,?_⟩))
  refine iQEZ (v:=.bool false) (fun w' c=>?_) ?_
  ·exact iQ (L:=[]) (p:=fun _=>false) ⟨Ow.sl (xs:=[]) ((rl c).ow (by decide) (by decide) g82),fun p hp=>by cases hp⟩ fun q hq=>by cases hq
  refine iNot (iCndT rfl ?_)
  refine iQEZ (v:=.bool (tv ps t f)) (fun w' c=>?_) ?_
  ·have hR:RwN w' v85 [(u,rawF f)]:=RwN.one (Ow.sl (xs:=[u]) ((rl c).ow (by decide) (by decide) g85)) (FmS.rawS (OwK.sl ((rl c).ow (by decide) (by decide) gu)))
   have:=iQ (w:=w') (fv:=.func (.func n9) #[] #[.pointer (some ⟨q5,0,none⟩),.pointer (some ⟨q12,0,none⟩)]) hR (fun _=>tv ps t f) fun p hp w'' x''=>?_
   ·simpa using this
   rw [List.mem_singleton.1 hp]
   have gg:=(gc c).ext x''
   have hq:=((rl c).bk (by decide) (by decide) hB55).ext x''
   have hf:=OwK.ext ((rl c).ow (by decide) (by decide) gu) x''
   refine DO ?_
   apply KV;unfold yF
   refine iLdB gg.p5 (i:=0) (v:=.pointer (some ⟨q,0,none⟩)) rfl (iLdB hq (i:=0) (v:=.int .i64 (t:Int)) rfl ?_)
   exact iRet (B5 h8 ht f gg.blk gg.el (OwK.sl hf) hall hfs) fun w3 x3=>⟨rfl,x3⟩
  refine iNot fun w62 x62=>?_
  refine iBs1 rfl rfl fun c w63 hc63 x63 hB63=>⟨x63.ch,fun w64 x64=>?_⟩
  have y:=(x62.trans x63).trans x64
  have r64:=gr.ext y
  refine iAppA P7 QQ rfl r64 (Sl.ofBlk (n:=1) (hB63.ext x64) rfl (by decide)) (fun u hu=>?_) (by rw [lr];simp;omega) (by rw [lr];simp;omega) (Nat.le_trans hm (Nat.le_trans s55 y.size)) fun v109 w65 ho65 hg65 hn65=>?_
  ·rw [List.mem_singleton.1 hu];rfl
  have c65:=bJ (S:=fun c=>vr.ownBlock = some c) hg65 fun c hc=>hc
  refine ⟨c65,iNil (iFa fun w66 x66=>?_)⟩
  have g65:=(g.ext y).turn r64 (Nat.le_refl _) hm0 c65
  have g66:=g65.ext x66
  refine iStU g66.blk (by simp) ho65.cell fun w67 hB67 u67=>?_
  have c67:=u67.ch (S:=fun c=>c = q) rfl
  intro w68 x68
  have hB67:Blk tT w67 q [sv l,vp,vn,.int .i64 ((2 ^ ps.length:Nat):Int),v109,va]:=hB67
  have rr:=(((RelB.ext y).trans (zU r64 c65)).trans (RelB.ext x66)).trans ((EG g66.blk c67).trans (RelB.ext x68))
  have kb:∀ {lo:Nat} {v:Value} {xs:List Value},Ow lo aQ w65 v xs → Ow lo aQ w68 v xs:=fun hb=>(Ow.chQ (hb.ext x66) g66.blk (by decide) c67).ext x68
  refine hJ _ _ ⟨v109,(g66.sto c67 hB67).ext x68,by have:=y.size;have:=c65.size;have:=x66.size;have:=c67.size;have:=x68.size;omega,⟨rr.ow (by decide) (by decide) g82,rr.ow (by decide) (by decide) g85,rr.ow (by decide) (by decide) gu⟩,?_,kb ((ga.ext y).ch c65 fun c hc hS=>hne c hS hc),fun c h1 h2=>?_,rr.bk (by decide) (by decide) hB55⟩
  ·rw [PC];exact kb ho65
  ·rcases hn65 with n | ⟨c',n1,n2⟩
   ·rw [n] at h1;exact hne c h1 h2
   ·rw [n1] at h1;cases h1
    have:=((ga.ext y).blk _ h2).2
    omega
 intro _ w57 hj
 obtain ⟨vr',g,s57,⟨g82,g85,gu⟩,gr,ga,hne,hB57⟩:=hj
 intro _
 have rl:∀ {w':World},Ch (fun c=>va.ownBlock = some c) w57 w' → RelB w57 w':=fun c=>zU ga c
 have gc:∀ {w':World},Ch (fun c=>va.ownBlock = some c) w57 w' → NtW m w0 w' q q3 q5 l ps vL vR vp vn (.int .i64 ((2 ^ ps.length:Nat):Int)) vr' va (needs ps):=fun c=>g.turn ga (Nat.le_refl _) hm0 c
 refine ⟨fun c=>va.ownBlock = some c,iLdB g.p5 (i:=0) (v:=.pointer (some ⟨q,0,none⟩)) rfl ⟨fun w' c=>iLdB (gc c).p5 (i:=0) (v:=.pointer (some ⟨q,0,none⟩)) rfl rfl,?_⟩⟩
 refine iLdB g.p5 (i:=0) (v:=.pointer (some ⟨q,0,none⟩)) rfl ⟨fun w' c=>iLdB (gc c).p5 (i:=0) (v:=.pointer (some ⟨q,0,none⟩)) rfl rfl,?_⟩
 refine iNil (iFa (iLdB g.blk (i:=5) (v:=va) rfl ⟨fun w' c=>iLdB (gc c).blk (i:=5) (v:=va) rfl rfl,?_⟩))
 refine iLdB g.p5 (i:=0) (v:=.pointer (some ⟨q,0,none⟩)) rfl ⟨fun w' c=>iLdB (gc c).p5 (i:=0) (v:=.pointer (some ⟨q,0,none⟩)) rfl rfl,?_⟩
 refine iLdB hB57 (i:=0) (v:=.int .i64 (t:Int)) rfl ⟨fun w' c=>iLdB ((rl c).bk (by decide) (by decide) hB57) (i:=0) (v:=.int .i64 (t:Int)) rfl rfl,?_⟩
 refine iQEZ (v:=.bool (eF (sysNo l) ps t)) (fun w' c=>KK (m:=m) ⟨(gc c).blk,(gc c).nd⟩ hl h8 ht) ?_
 intro w82 x82
 refine iBs1 rfl rfl fun c w83 hc83 x83 hB83=>⟨x83.ch,fun w84 x84=>?_⟩
 have y:=(x82.trans x83).trans x84
 have a84:=ga.ext y
 refine iAppA P7 QQ rfl a84 (Sl.ofBlk (n:=1) (hB83.ext x84) rfl (by decide)) (fun u hu=>?_) (by rw [la];simp;omega) (by rw [la];simp;omega) (Nat.le_trans s57 y.size) fun v121 w85 ho85 hg85 hn85=>?_
 ·rw [List.mem_singleton.1 hu];rfl
 have c85:=bJ (S:=fun c=>va.ownBlock = some c) hg85 fun c hc=>hc
 refine ⟨c85,iNil (iFa fun w86 x86=>?_)⟩
 have g85':=(g.ext y).turn a84 (Nat.le_refl _) hm0 c85
 have g86:=g85'.ext x86
 refine iStU g86.blk (by simp) ho85.cell fun w87 hB87 u87=>?_
 have c87:=u87.ch (S:=fun c=>c = q) rfl
 intro w88 x88
 have hB87:Blk tT w87 q [sv l,vp,vn,.int .i64 ((2 ^ ps.length:Nat):Int),vr',v121]:=hB87
 have rr:=(((RelB.ext y).trans (zU a84 c85)).trans (RelB.ext x86)).trans ((EG g86.blk c87).trans (RelB.ext x88))
 have kb:∀ {lo:Nat} {v:Value} {xs:List Value},Ow lo aQ w85 v xs → Ow lo aQ w88 v xs:=fun hb=>(Ow.chQ (hb.ext x86) g86.blk (by decide) c87).ext x88
 refine hK w88 vr' v121 ((g86.sto c87 hB87).ext x88) (by have:=y.size;have:=c85.size;have:=x86.size;have:=c87.size;have:=x88.size;omega) (rr.ow (by decide) (by decide) g82) (rr.ow (by decide) (by decide) g85) (rr.ow (by decide) (by decide) gu) (kb ((gr.ext y).ch c85 fun c hc hS=>hne c hc hS)) ?_ fun c h1 h2=>?_
 ·rw [PC];exact kb ho85
 ·rcases hn85 with n | ⟨c',n1,n2⟩
  ·rw [n] at h2;exact hne c h1 h2
  ·rw [n1] at h2;cases h2
   have:=((gr.ext y).blk _ h1).2
   omega
end Go.Proofs.YtbfpohbmgjcjmaaGreatDoor
