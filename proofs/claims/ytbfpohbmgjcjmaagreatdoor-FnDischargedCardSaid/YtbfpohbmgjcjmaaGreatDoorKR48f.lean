/- The proof of FnDischargedCard, part 6 of 7. Conditions: none. -/
import Derived.Test.YtbfpohbmgjcjmaaGreatDoorKR48e
namespace Go.Proofs.YtbfpohbmgjcjmaaGreatDoor
open Go.Vc
theorem M9 {l:Str} (hl:sysNo l < 10) {v:Value} {f:Fm} {w:World} (hm:MsW w v f) (hg:f.good) (hn:f.size ≤ 40) (h8:(bQ f).length ≤ 8):
  Cal Tryz.prog BJ #[sv l,v] w fun r w'=>Ext w w' ∧ ∃ q m vp vn vr va AL,r = .pointer (some ⟨q,0,none⟩) ∧ TyA m w' q l (bQ f) vp vn vr va AL ∧ Ow 0 aQ w' vr (((List.range (2 ^ (bQ f).length)).map fun t=>!tv (bQ f) t f).map Value.bool) ∧ (∀ t,t < 2 ^ (bQ f).length → gt AL t = true → surv (sysNo l) (bQ f) AL t = true) ∧ ∀ t,t < 2 ^ (bQ f).length → gt AL t = true → eF (sysNo l) (bQ f) t = true:=by
 have h256:2 ^ (bQ f).length ≤ 2 ^ 8:=Nat.pow_le_pow_right (by decide) h8
 have hall:∀ g ∈ f.subs,g.elem = true → g ∈ bQ f:=fun g hgs he=>(JI hg).2 ⟨hgs,he⟩
 have hps:∀ e ∈ bQ f,e ∈ f.subs:=fun e he=>((JI hg).1 he).1
 have hcl:∀ e ∈ bQ f,e.modal = true → ∀ g ∈ e.inner.subs,g.elem = true → g ∈ bQ f:=fun e he hmo g hgs hge=>hall g (Fm.subs_trans (hps e he) g (Fm.subs_trans (RI hmo).1 g hgs)) hge
 have hsz:∀ e ∈ bQ f,e.size ≤ 40:=fun e he=>Nat.le_trans (Fm.subs_good hg e (hps e he)).2 hn
 have hd:=T8 hg
 obtain ⟨vL,vR,rfl,hL,hR⟩:=hm.ex
 apply OB;unfold BX
 refine iNew2 fun q3 w1 hq3 x1 hB3=>iLdA hB3 rfl ?_
 refine iCall ((l5 (hm.ext x1) hg hn).mono ?_)
 rintro v15 w2 ⟨x2,hel⟩
 generalize hpse:bQ f = ps at *
 have hvc:aF v15 = true:=by obtain ⟨_,_,ho,_⟩:=hel.ex;exact OwK.cell ho
 have hLl:∀ {w':World},ElW w' v15 ps → ∃ xs,SlK 2 w' v15 ps.length xs:=fun h=>by
  obtain ⟨L,h1,h2,_⟩:=h.ex
  have:L.length = ps.length:=by rw [← h1,List.length_map]
  rw [this] at h2
  exact ⟨_,h2.sl⟩
 refine f8 (cs:=#[sv l,v15,.slice none 0 0,.int .i64 0,.slice none 0 0,.slice none 0 0]) (by simp [Instr.fill,aH hvc,aH (show aF (sv l) = true from rfl)]) ?_
 refine iNew fun q w3 hq x3 hB3'=>?_
 have hB:Blk tT w3 q [sv l,v15,.slice none 0 0,.int .i64 0,.slice none 0 0,.slice none 0 0]:=by simpa [Value.cells] using hB3'
 refine iNewV rfl fun q5 w4 hq5 x4 hB5=>?_
 refine iStU hB5 (by simp) rfl fun w5 hB5' u5=>?_
 have hB5':Blk tP w5 q5 [.pointer (some ⟨q,0,none⟩)]:=hB5'
 have x45:Ext w3 w5:=x4.upd u5 (by omega)
 have x05:=(x1.trans x2).trans (x3.trans x45)
 have toX:∀ {w' w'':World},Ch (fun _:Nat=>False) w' w'' → Ext w' w'':=fun c=>c.toExt fun _ h=>h.elim
 have hB5q:=hB.ext x45
 have s05:=(x1.trans x2).size
 refine ⟨fun _=>False,iLdB hB5' (i:=0) (v:=.pointer (some ⟨q,0,none⟩)) rfl ⟨fun w' c=>iLdB (hB5'.ext (toX c)) (i:=0) (v:=.pointer (some ⟨q,0,none⟩)) rfl rfl,?_⟩⟩
 refine iLdB hB5' (i:=0) (v:=.pointer (some ⟨q,0,none⟩)) rfl ⟨fun w' c=>iLdB (hB5'.ext (toX c)) (i:=0) (v:=.pointer (some ⟨q,0,none⟩)) rfl rfl,?_⟩
 refine iNil (iFa (iLdB hB5q (i:=1) (v:=v15) rfl ⟨fun w' c=>iLdB (hB5q.ext (toX c)) (i:=1) (v:=v15) rfl rfl,?_⟩))
 have hel5:=hel.ext (x3.trans x45)
 obtain ⟨_,hsl5⟩:=hLl hel5
 refine iLenK hsl5 (ZZ (j:=ps.length) (by omega) (iNil (iFa fun w10 x10=>?_)))
 refine iStU (hB5q.ext x10) (by simp) rfl fun w11 hB11 u11=>?_
 have c11:=u11.ch (S:=fun c=>c = q) rfl
 intro w12 x12
 have hB11:Blk tT w11 q [sv l,v15,.slice none 0 0,.int .i64 ((2 ^ ps.length:Nat):Int),.slice none 0 0,.slice none 0 0]:=hB11
 have r:=(EG (hB5q.ext x10) c11).trans (RelB.ext x12)
 have hnt:NtW w12.heap.size w w12 q q3 q5 l ps vL vR v15 (.slice none 0 0) (.int .i64 ((2 ^ ps.length:Nat):Int)) (.slice none 0 0) (.slice none 0 0) ((ps.take 0).filter Fm.modal):=
  ⟨((x05.trans x10).thenCh c11 fun c hc=>by omega).trans x12,by omega,hB11.ext x12,r.bk (by decide) (by decide) (hB3.ext ((x2.trans (x3.trans x45)).trans x10)),r.bk (by decide) (by decide) (hB5'.ext x10),(hel5.ext x10).rel r,⟨[],rfl,OwK.nil _ _ _ _,fun p hp=>by cases hp⟩,fun c hc=>by cases hc⟩
 refine iLdB hnt.p5 (i:=0) (v:=.pointer (some ⟨q,0,none⟩)) rfl (iNil (iFa (iLdB hnt.blk (i:=1) (v:=v15) rfl ?_)))
 obtain ⟨_,hsl12⟩:=hLl hnt.el
 refine iLenK hsl12 ?_
 refine iLp (fun i:Nat=>[.int .i64 (i:Int)]) (fun i w'=>i ≤ ps.length ∧ ∃ vn,NtW w'.heap.size w w' q q3 q5 l ps vL vR v15 vn (.int .i64 ((2 ^ ps.length:Nat):Int)) (.slice none 0 0) (.slice none 0 0) ((ps.take i).filter Fm.modal)) (fun i=>ps.length - i) 0 rfl ⟨Nat.zero_le _,_,hnt⟩ ?_
 rintro i w14 Kn ⟨hi,vn,h14⟩ hKn
 intro _
 simp only [gx]
 refine iLt (iCndP (fun hlt=>?_) (fun hlt=>?_))
 ·have hil:i < ps.length:=by omega
  refine ZO (K:=fun w'=>xAdd .i64 (.int .i64 (i:Int)) (.int .i64 1) fun v79=>Kn [v79] w') h14 h8 hil hd hcl hsz fun w' vn' h'=>?_
  refine iAdd (by omega) ?_
  exact hKn (i + 1) _ ⟨hil,vn',h'⟩ (by omega)
 have:i = ps.length:=by omega
 subst this
 rw [List.take_length] at h14
 have h14:NtW w14.heap.size w w14 q q3 q5 l ps vL vR v15 vn (.int .i64 ((2 ^ ps.length:Nat):Int)) (.slice none 0 0) (.slice none 0 0) (needs ps):=h14
 refine iFa (iLdB h14.b3 (i:=0) (v:=vL) rfl (iFa (iLdB h14.b3 (i:=1) (v:=vR) rfl ?_)))
 intro w47 x47
 refine iCall ((HX (Sl.ext hL (h14.x.trans x47))).mono ?_)
 rintro v82 w48 ⟨x48,h82⟩
 refine ⟨x48,fun w49 x49=>?_⟩
 have x1449:=(x47.trans x48).trans x49
 refine iCall ((tJ (Sl.ext hR (h14.x.trans x1449)) hg hn).mono ?_)
 rintro v85 w50 ⟨x50,u,h85,hu⟩
 intro w51 x51
 have x1451:=(x1449.trans x50).trans x51
 have h51:=(h14.ext x1451).mono x1451.size
 have hw051:=h51.x.size
 refine iLdB h51.p5 (i:=0) (v:=.pointer (some ⟨q,0,none⟩)) rfl (iNil (iFa (iLdB h51.blk (i:=3) (v:=.int .i64 ((2 ^ ps.length:Nat):Int)) rfl ?_)))
 refine iLp (fun t:Nat=>[.int .i64 (t:Int)]) (fun t w'=>t ≤ 2 ^ ps.length ∧ ∃ vr va,NtW w51.heap.size w w' q q3 q5 l ps vL vR v15 vn (.int .i64 ((2 ^ ps.length:Nat):Int)) vr va (needs ps) ∧ w51.heap.size ≤ w'.heap.size ∧ Ow 0 aB w' v82 [] ∧ Ow 0 aB w' v85 [u] ∧ FmW 0 w' u f ∧ Ow w51.heap.size aQ w' vr (((List.range t).map fun t=>!tv ps t f).map Value.bool) ∧ Ow w51.heap.size aQ w' va (((List.range t).map fun t=>eF (sysNo l) ps t).map Value.bool) ∧ ∀ c,vr.ownBlock = some c → va.ownBlock = some c → False) (fun t=>2 ^ ps.length - t) 0 rfl ⟨Nat.zero_le _,_,_,h51,Nat.le_refl _,h82.ext ((x49.trans x50).trans x51),h85.ext x51,OwK.ext hu x51,Ow.nil _ _ _,Ow.nil _ _ _,fun c hc=>by cases hc⟩ ?_
 rintro t w53 Kt ⟨ht,vr,va,h53,s53,g82,g85,gu,gr,ga,hne⟩ hKt
 intro _
 simp only [gx]
 refine iLt (iCndP (fun hlt=>?_) (fun hlt=>?_))
 ·have htl:t < 2 ^ ps.length:=by omega
  refine Y9 (K:=fun w'=>xAdd .i64 (.int .i64 (t:Int)) (.int .i64 1) fun v124=>Kt [v124] w') h53 hw051 s53 hl h8 htl hall (by omega) g82 g85 gu gr ga hne fun w' vr' va' k1 k2 k3 k4 k5 k6 k7 k8=>?_
  refine iAdd (by omega) ?_
  exact hKt (t + 1) _ ⟨htl,vr',va',k1,k2,k3,k4,k5,k6,k7,k8⟩ (by omega)
 have:t = 2 ^ ps.length:=by omega
 subst this
 have hTy:TyA w51.heap.size w53 q l ps v15 vn vr va ((List.range (2 ^ ps.length)).map fun t=>eF (sysNo l) ps t):=⟨⟨h53.blk,h53.nd⟩,ga,by simp⟩
 refine iLdB h53.p5 (i:=0) (v:=.pointer (some ⟨q,0,none⟩)) rfl ?_
 have hp5:=h53.p5
 -- the pointer stands while types are taken away: the run turns rows of truth values only
 refine iCall ((IZ (b:=q5) (e:=tP) (cs:=[.pointer (some ⟨q,0,none⟩)]) h53.x hw051 hTy hl h8 (gr.mono (Nat.zero_le _)) hne hp5 (by decide)).mono ?_)
 rintro _ w89 ⟨x89,hb89,AL',a1,a2,a3,a4⟩
 refine iLdB hb89 (i:=0) (v:=.pointer (some ⟨q,0,none⟩)) rfl ?_
 refine ⟨x89,q,_,v15,vn,vr,va,AL',rfl,a1,a2,a3,fun t ht hgt=>?_⟩
 have:=a4 t ht hgt
 rw [TD ht] at this
 exact this
theorem AI {l:Str} (hl:sysNo l < 10) (h2:2 ≤ sysNo l) {v:Value} {f:Fm} {w:World} (hm:MsW w v f) (hg:f.good) (hn:f.size ≤ 40) (h8:(bQ f).length ≤ 8) (hV:SysV (sysNo l) f):Ret Tryz.prog qQ #[sv l,v] w (.bool true):=by
 obtain ⟨vL,vR,rfl,hL,hR⟩:=hm.ex
 apply EK;unfold p7
 refine iNew2 fun q3 w1 hq3 x1 hB3=>iLdA hB3 rfl ?_
 refine iCall ((M9 hl (hm.ext x1) hg hn h8).mono ?_)
 rintro _ w2 ⟨x2,q,m,vp,vn,vr,va,AL,rfl,hT,hr,hs,ha⟩
 refine iRet (MU hT h8 hr (by simp) fun t ht hgt=>?_) fun w3 x3=>iLt ⟨rfl,(x1.trans x2).trans x3⟩
 have hliv:=Z3 ha hs
 have hp:Parts (bQ f) f:=kH fun g hgs he=>(JI hg).2 ⟨hgs,he⟩
 have:=YW hliv (by omega) hp hV ⟨ht,hgt⟩
 rw [TD ht,this];rfl
theorem AO {l:Str} (hl:sysNo l < 10) (h2:2 ≤ sysNo l) {vL vR:Value} {f:Fm} {w:World} (hL:SlT w vL []) (hR:SlT w vR [f.body]) (hg:f.good) (hn:f.size ≤ 40) (hV:SysV (sysNo l) f):Cal Tryz.prog qO #[sv l,.agg #[vL,vR]] w fun r w'=>Ext w w' ∧ ∃ b c,r = .tuple #[.bool b,.int .i64 c] ∧ (c = 3 ∨ c = 0 ∧ b = true):=by
 have hm:MsW w (.agg #[vL,vR]) f:=⟨vL,vR,rfl,hL,hR⟩
 apply EY;unfold qF
 refine iNew2 fun q3 w1 hq3 x1 hB3=>iLdA hB3 rfl ?_
 refine iBsA fun qb w2 hqb x2 hB2=>?_
 have X2:=x1.trans x2
 refine iRet (AS hl h2 (hm.ext X2) ⟨vL,vR,rfl,SlK.ofBlk (n:=1) hB2 rfl (by decide)⟩ hg hn) fun w3 x3=>?_
 have X3:=X2.trans x3
 by_cases h8:8 < (bQ f).length
 ·rw [if_pos h8]
  exact iNe (iCndT (by decide) ⟨X3,_,_,rfl,.inl rfl⟩)
 ·rw [if_neg h8]
  refine iNe (iCndF (by decide) (iLdA (hB3.ext (x2.trans x3)) rfl ?_))
  exact iRet (AI hl h2 (hm.ext X3) hg hn (by omega) hV) fun w4 x4=>⟨X3.trans x4,_,_,rfl,.inr ⟨rfl,rfl⟩⟩
end Go.Proofs.YtbfpohbmgjcjmaaGreatDoor

namespace Go.Proofs.YtbfpohbmgjcjmaaGreatDoor
open Go.Vc
theorem UC {vc:Value} {w:World} {bs:List Nat} (hc:SlB w vc bs):Ret Tryz.prog OA #[vc] w (.bool (decide ((4096:Int) < (bs.length:Nat)))):=by
 apply VQ;unfold O7
 refine iLenB hc ?_
 refine iLt ?_
 exact ⟨rfl,Ext.refl _⟩
end Go.Proofs.YtbfpohbmgjcjmaaGreatDoor

namespace Go.Vc
theorem SlK.toSlZ {w:World} {v:Value} {xs:List Value} (h:SlK 1 w v xs.length xs):Sl w v xs:=by
 obtain ⟨_,a,c,hv,h2,h3,h4⟩:=h
 refine ⟨a,c,hv,h2,h3,?_⟩
 rcases h4 with h0 | ⟨b,o,ha,hc⟩
 ·exact .inl (List.length_eq_zero_iff.1 h0)
 ·exact .inr ⟨b,o,ha,fun i hi=>hc i (by omega)⟩
theorem VJ {a:List RN} {last:Int} {L:List HL} (ha:∃ A:Fm,A.good ∧ a = rawF A) (hL:∀ k,k < L.length → ∃ C:Fm,C.good ∧ (gt L k).N = rawF C) (hr:∀ k,k < L.length → gt (usesB L) k = true → (gt L k).rule = 2 ∨ (0 ≤ (gt L k).second ∧ (gt L k).second < (L.length:Int))):∀ k,k ≤ L.length → ∀ x ∈ (disK a last L k).out,∃ C:Fm,C.good ∧ x.N = rawF C
 | 0,_=>fun x hx=>by cases hx
 | k + 1,hk=>by
  have ih:=VJ (last:=last) ha hL hr k (by omega)
  obtain ⟨A,gA,rfl⟩:=ha
  obtain ⟨C,gC,hC⟩:=hL k (by omega)
  have hrk:=hr k (by omega)
  intro x hx
  rw [disK] at hx
  generalize disK (rawF A) last L k = S at ih hx
  unfold cN at hx
  split at hx
  ·rcases List.mem_append.1 hx with hx | hx
   ·exact ih x hx
   ·have hw:∀ y ∈ weakL (rawF A) (gt L k).N S.out.length,∃ C:Fm,C.good ∧ y.N = rawF C:=fun y hy=>by
     rw [hC] at hy
     simp only [weakL,List.mem_cons,List.not_mem_nil,or_false] at hy
     rcases hy with rfl | rfl
     ·exact ⟨.imp C (.imp A C),⟨gC,gA,gC⟩,rfl⟩
     ·exact ⟨.imp A C,⟨gA,gC⟩,rfl⟩
    rcases List.mem_append.1 hx with hx | hx
    ·rw [List.mem_singleton.1 hx]
     refine ⟨C,gC,?_⟩
     unfold mvH
     split
     ·exact hC
     ·split <;> exact hC
    ·exact hw x hx
  ·rename_i hu
   split at hx
   ·rcases List.mem_append.1 hx with hx | hx
    ·exact ih x hx
    ·simp only [List.mem_cons,List.not_mem_nil,or_false] at hx
     rcases hx with rfl | rfl | rfl | rfl | rfl
     ·exact ⟨.imp A (.imp (.imp A A) A),⟨gA,⟨gA,gA⟩,gA⟩,rfl⟩
     ·exact ⟨.imp (.imp A (.imp (.imp A A) A)) (.imp (.imp A (.imp A A)) (.imp A A)),⟨⟨gA,⟨gA,gA⟩,gA⟩,⟨gA,gA,gA⟩,gA,gA⟩,rfl⟩
     ·exact ⟨.imp (.imp A (.imp A A)) (.imp A A),⟨⟨gA,gA,gA⟩,gA,gA⟩,rfl⟩
     ·exact ⟨.imp A (.imp A A),⟨gA,gA,gA⟩,rfl⟩
     ·exact ⟨.imp A A,⟨gA,gA⟩,rfl⟩
   ·split at hx
    ·rcases List.mem_append.1 hx with hx | hx
     ·exact ih x hx
     ·rcases List.mem_append.1 hx with hx | hx
      ·rw [List.mem_singleton.1 hx];exact ⟨C,gC,hC⟩
      ·rw [hC] at hx
       simp only [weakL,List.mem_cons,List.not_mem_nil,or_false] at hx
       rcases hx with rfl | rfl
       ·exact ⟨.imp C (.imp A C),⟨gC,gA,gC⟩,rfl⟩
       ·exact ⟨.imp A C,⟨gA,gC⟩,rfl⟩
    ·rename_i h2
     have hrr:=(hrk (by cases e:gt (usesB L) k;exact absurd e hu;rfl)).resolve_left h2
     obtain ⟨E,gE,hE⟩:=hL (gt L k).second.toNat (by omega)
     rw [hE,hC] at hx
     rcases List.mem_append.1 hx with hx | hx
     ·exact ih x hx
     ·simp only [List.mem_cons,List.not_mem_nil,or_false] at hx
      rcases hx with rfl | rfl | rfl
      ·exact ⟨.imp (.imp A (.imp E C)) (.imp (.imp A E) (.imp A C)),⟨⟨gA,gE,gC⟩,⟨gA,gE⟩,gA,gC⟩,rfl⟩
      ·exact ⟨.imp (.imp A E) (.imp A C),⟨⟨gA,gE⟩,gA,gC⟩,rfl⟩
      ·exact ⟨.imp A C,⟨gA,gC⟩,rfl⟩
theorem WJ {s:Nat} {H:List (List RN)} {L:List HL} {k:Nat} (hk:k < L.length) (h:goodH s H L k (gt L k) = true) (hu:gt (usesB L) k = true):(gt L k).rule = 2 ∨ (0 ≤ (gt L k).second ∧ (gt L k).second < (L.length:Int)):=by
 rw [yT hk] at hu
 unfold bE at hu
 rcases yL h with e | e | e | e
 ·rw [if_neg (by omega),if_neg (by omega),if_neg (by omega)] at hu;cases hu
 ·exact .inl e
 ·have:=(lK h e).2.1
  exact .inr (by omega)
 ·rw [if_neg (by omega),if_neg (by omega),if_pos e,(kF h e).2.2.2.1] at hu;cases hu
theorem WI {t:Str} {H:List (List RN)} {L:List HL} (h:m5 t H L = 0):0 < H.length ∧ codeH t H L true = 0 ∧ codeH t (H.take (H.length - 1)) (outH H L) true = 0 ∧ ∃ A C:Fm,A.good ∧ C.good ∧ gt H (H.length - 1) = rawF A ∧ (gt L (L.length - 1)).N = rawF C ∧ (Fm.imp A C).size ≤ 40 ∧ (gt (outH H L) ((outH H L).length - 1)).N = rawF (.imp A C):=by
 unfold m5 at h
 split at h
 ·rename_i h1;rcases h1 with h1 | h1 <;> rw [h1] at h <;> cases h
 split at h
 ·cases h
 rename_i h0
 split at h
 ·rename_i h1;exact absurd h h1
 rename_i h1
 have hc:codeH t H L true = 0:=Classical.not_not.1 h1
 split at h
 ·cases h
 rename_i h2
 have h200:(outH H L).length ≤ 200:=by have:=fun e=>h2 (.inl e);omega
 have h40:∀ x ∈ outH H L,x.N.length ≤ 40:=fun x hx=>by
  have:¬ 40 < x.N.length:=fun e=>h2 (.inr (List.any_eq_true.2 ⟨x,hx,decide_eq_true e⟩))
  omega
 obtain ⟨ht,hH,l1,l2,hg⟩:=kG hc
 have hHm:gt H (H.length - 1) ∈ H:=by rw [gt_eq (by omega)];exact List.getElem_mem _
 obtain ⟨A,gA,sA,hA⟩:=dI (hH _ hHm)
 obtain ⟨C,gC,sC,hC⟩:=dI (dZ (hg (L.length - 1) (by omega)))
 have hout:outH H L = (disK (rawF A) ((H.length:Int) - 1) L L.length).out:=by unfold outH;rw [hA]
 obtain ⟨e1,e2,e3⟩:=YE (by omega:sysNo t ≤ 9) hg l1 (by omega) hA
 rw [← hout] at e1 e2 e3
 have hfm:∀ x ∈ outH H L,∃ C:Fm,C.good ∧ x.N = rawF C:=by
  rw [hout]
  exact VJ ⟨A,gA,rfl⟩ (fun k hk=>by obtain ⟨C,g,_,e⟩:=dI (dZ (hg k hk));exact ⟨C,g,e⟩) (fun k hk hu=>WJ hk (hg k hk) hu) L.length (Nat.le_refl _)
 have hisN:∀ i,i < (outH H L).length → isN (gt (outH H L) i).N = true:=fun i hi=>by
  have hm:gt (outH H L) i ∈ outH H L:=by rw [gt_eq hi];exact List.getElem_mem _
  obtain ⟨D,gD,eD⟩:=hfm _ hm
  have:=h40 _ hm
  rw [eD,aG] at this
  exact yS.2 ⟨D,gD,this,eD⟩
 have hlast:(gt (outH H L) ((outH H L).length - 1)).N = rawF (.imp A C):=by rw [e3,hC];rfl
 refine ⟨by omega,hc,?_,A,C,gA,gC,hA,hC,?_,hlast⟩
 ·unfold codeH
  rw [if_neg (fun h=>h ht),if_neg,if_neg,if_neg]
  ·rintro ⟨_,hb⟩
   have:badH (sysNo t) (H.take (H.length - 1)) (outH H L) = -1:=oN fun k _ hk=>e1 k (by omega) (hisN k (by omega))
   rw [this] at hb;exact absurd hb (by decide)
  ·rintro (h | h)
   ·exact absurd h (by omega)
   ·exact absurd h (by omega)
  ·rw [List.all_eq_true.2 fun N hN=>hH N (List.mem_of_mem_take hN)];decide
 ·have hm:gt (outH H L) ((outH H L).length - 1) ∈ outH H L:=by rw [gt_eq (by omega)];exact List.getElem_mem _
  have:=h40 _ hm
  rw [hlast,aG] at this
  exact this
end Go.Vc
namespace Go.Proofs.YtbfpohbmgjcjmaaGreatDoor
open Go.Vc
theorem pX {v v':Value} {w:World} {N:List RN} (h:RawS w v N) (h':RawS w v' N):Ret Tryz.prog tO #[v,v'] w (.bool true):=by
 have hln:=h.len
 apply HO;unfold tM
 refine iLenK h (iLenK h' ?_)
 refine iNe (iCndP (fun h=>absurd rfl h) (fun _=>?_))
 refine iLp (fun k:Nat=>[.int .i64 (k:Int)]) (fun k w'=>k ≤ N.length ∧ Ext w w') (fun k=>N.length - k) 0 rfl ⟨Nat.zero_le _,Ext.refl _⟩ ?_
 rintro k w2 Kn ⟨hk,x2⟩ hKn
 intro _
 simp only [gx]
 refine iLenK (SlK.ext h x2) (iLt (iCndP (fun h3=>?_) (fun _=>⟨by first | trivial | rfl,x2⟩)))
 have hk1:k < N.length:=by omega
 obtain ⟨a0,a1⟩:=iD hk1
 refine iLdK (cs:=#[.int .i64 N[k].1,.int .i64 N[k].2]) (SlK.ext h x2) rfl hk1 rfl (fun j hj=>by rcases j with _ | _ | j;exact a0;exact a1;omega) ?_
 refine iLdK (cs:=#[.int .i64 N[k].1,.int .i64 N[k].2]) (SlK.ext h' x2) rfl hk1 rfl (fun j hj=>by rcases j with _ | _ | j;exact a0;exact a1;omega) ?_
 refine yR (t0:=2) (t1:=2) (by kernel_rfl) (by kernel_rfl) (by kernel_rfl) (by kernel_rfl) (by kernel_rfl) (by kernel_rfl) ?_
 intro w3 x3
 refine iCndP (fun e=>absurd ⟨rfl,rfl⟩ e) (fun _=>?_)
 refine iAdd (by omega) ?_
 exact hKn (k + 1) _ ⟨by omega,x2.trans x3⟩ (by omega)
theorem JU {v v':Value} {w:World} {P Q:List HV} (h:RdH w v P) (h':RdH w v' Q) (he:P.map HV.x = Q.map HV.x):Ret Tryz.prog xJ #[v,v'] w (.bool true):=by
 have hln:=h.row.2
 have hlen:P.length = Q.length:=by have:=congrArg List.length he;rwa [List.length_map,List.length_map] at this
 apply KO;unfold yA
 refine iLenK h.row (iLenK h'.row (iNe (iCndF (decide_eq_false fun h=>h (by rw [hlen])) ?_)))
 refine iLp (fun k:Nat=>[.int .i64 (k:Int)]) (fun k w'=>k ≤ P.length ∧ Ext w w') (fun k=>P.length - k) 0 rfl ⟨Nat.zero_le _,Ext.refl _⟩ ?_
 rintro k w2 Kn ⟨hk,x2⟩ hKn
 intro _
 simp only [gx]
 have h2:=h.ext x2
 have h2':=h'.ext x2
 refine iLenK h2.row (iLt (iCndP (fun h3=>?_) (fun _=>⟨by first | trivial | rfl,x2⟩)))
 have hk1:k < P.length:=by omega
 have hk2:k < Q.length:=by omega
 have ex:(gt P k).x = (gt Q k).x:=by rw [← bR hk1,← bR hk2,he]
 have m1:gt P k ∈ P:=by rw [gt_eq hk1];exact List.getElem_mem _
 have m2:gt Q k ∈ Q:=by rw [gt_eq hk2];exact List.getElem_mem _
 refine iJnX (fun xs w'=>xs = [.bool false] ∧ Ext w2 w') (fun J hJ=>?_) ?_
 ·refine iFdH (j:=k) h2 rfl hk1 (by decide) (u:=.int .i64 (gt P k).x.rule) rfl (iFdH (j:=k) h2' rfl hk2 (by decide) (u:=.int .i64 (gt Q k).x.rule) rfl (iNe (iCndF (decide_eq_false fun h=>h (by rw [ex])) ?_)))
  refine iFdH (j:=k) h2 rfl hk1 (by decide) (u:=.int .i64 (gt P k).x.first) rfl (iFdH (j:=k) h2' rfl hk2 (by decide) (u:=.int .i64 (gt Q k).x.first) rfl (iNe (iCndF (decide_eq_false fun h=>h (by rw [ex])) ?_)))
  refine iFdH (j:=k) h2 rfl hk1 (by decide) (u:=.int .i64 (gt P k).x.second) rfl (iFdH (j:=k) h2' rfl hk2 (by decide) (u:=.int .i64 (gt Q k).x.second) rfl (iNe (iCndF (decide_eq_false fun h=>h (by rw [ex])) ?_)))
  refine iFdH (j:=k) h2 rfl hk1 (by decide) (u:=(gt P k).v) rfl (iFdH (j:=k) h2' rfl hk2 (by decide) (u:=(gt Q k).v) rfl ?_)
  refine iRetQ (fun w' x'=>pX (N:=(gt P k).x.N) ((h2.ext x').fm _ m1) (by rw [ex];exact (h2'.ext x').fm _ m2)) (iNot fun w8 x8=>hJ _ _ ⟨rfl,x8⟩)
 rintro _ w4 ⟨rfl,x4⟩
 intro _
 simp only [gx]
 refine iCndF rfl (iAdd (by have:=SlK.len h.row;omega) ?_)
 exact hKn (k + 1) _ ⟨by omega,x2.trans x4⟩ (by omega)
theorem ML {t:Str} (ht:sysNo t < 10) {v:Value} {f:Fm} {w:World} (hs:FmS w v f) (hg:f.good) (hn:f.size ≤ 40) (hV:SysV (sysNo t) f):Ret Tryz.prog BH #[sv t,v] w (.bool true):=by
 apply OS;unfold BD
 refine iEqT (b:=[73,110,116]) ?_
 rw [dH ht (k:=0) rfl (by decide)]
 refine iCndP (fun e0=>?_) (fun e0=>?_)
 ·rw [e0] at hV
  refine iCall ((C6 hs hg hn hV).mono ?_)
  rintro _ w1 ⟨x1,b,c,rfl,hb⟩
  refine iE20 (iE21 (iJnB true w1 (fun J hJ=>?_) (fun w3 x3=>fun _=>⟨by first | trivial | rfl,x1.trans x3⟩)))
  refine iNe (iCndP (fun _=>hJ _ (Ext.refl _)) (fun e=>?_))
  rw [hb (Classical.not_not.1 e)]
  exact hJ _ (Ext.refl _)
 refine iEqT (b:=[67,76]) ?_
 rw [dH ht (k:=1) rfl (by decide)]
 refine iCndP (fun e1=>?_) (fun e1=>?_)
 ·rw [e1] at hV
  refine iCall ((FJ hs hg hn hV).mono ?_)
  rintro _ w1 ⟨x1,b,c,rfl,hb⟩
  refine iE20 (iE21 (iJnB true w1 (fun J hJ=>?_) (fun w3 x3=>fun _=>⟨by first | trivial | rfl,x1.trans x3⟩)))
  refine iNe (iCndP (fun _=>hJ _ (Ext.refl _)) (fun e=>?_))
  rw [hb (Classical.not_not.1 e)]
  exact hJ _ (Ext.refl _)
 refine iBs0 fun v38 w7 _ x7 h38=>?_
 have hsay:Ret Tryz.prog LR #[v] w7 (sv f.body):=by
  apply T7;unfold MD
  have hft:Ret Tryz.prog wE #[v] w7 (.tuple #[sv f.body,.int .i64 0]):=by
   apply I0;unfold wB
   refine iRet (lG (FmS.rawS (SlK.ext hs x7)) (by rw [aG];omega)) fun w1 x1=>?_
   rw [yS.2 ⟨f,hg,hn,rfl⟩]
   refine iNot (iCndF rfl ?_)
   exact iRet (A7 (SlK.ext hs (x7.trans x1)) hg (by omega)) fun w2 x2=>⟨rfl,x1.trans x2⟩
  exact iRet hft fun w1 x1=>iE20 (iE21 ⟨rfl,x1⟩)
 refine iRet hsay fun w8 x8=>?_
 refine iBs1 rfl rfl fun c w9 hc9 x9 hB9=>?_
 have X9:=(x7.trans x8).trans x9
 refine f8 (cs:=#[v38,.slice (some ⟨c,0,none⟩) 1 1]) (by simp [Instr.fill,aH h38.cell,aH (show aF (.slice (some ⟨c,0,none⟩) 1 1) = true from rfl)]) ?_
 refine iCall ((AO ht (by omega) (vL:=v38) (vR:=.slice (some ⟨c,0,none⟩) 1 1) (h38.ext (x8.trans x9)).sl (Sl.ofBlk (n:=1) hB9 rfl (by decide)) hg hn hV).mono ?_)
 rintro _ w10 ⟨x10,b,c',rfl,hb⟩
 refine iE20 (iE21 (iJnB true w10 (fun J hJ=>?_) (fun w3 x3=>fun _=>⟨by first | trivial | rfl,(X9.trans x10).trans x3⟩)))
 refine iEq (iCndP (fun _=>hJ _ (Ext.refl _)) (fun e=>?_))
 obtain ⟨h0,hb⟩:=hb.resolve_left e
 refine iEq (iCndT (decide_eq_true h0) ?_)
 rw [hb]
 exact hJ _ (Ext.refl _)
theorem FG {w:World} {vc:Value} {bs:List Nat} (hT:SchOk w) (hc:SlB w vc bs):Ret Tryz.prog tC #[vc] w (.bool true):=by
 apply HM;unfold sK
 refine iRet (UC hc) fun w1 x1=>?_
 refine iCndP (fun _=>⟨by first | trivial | rfl,x1⟩) (fun _=>?_)
 refine iCall ((qS (hc.ext x1)).mono ?_)
 rintro _ w2 ⟨x2,t,zh,zl,L,R,rfl,hH,hLl,hLs,hR,hRs⟩
 have X2:=x1.trans x2
 refine iE30 (iE31 (iE32 ?_))
 refine iCall ((vJ (hT.ext X2) hH hLl hLs hR hRs).mono ?_)
 rintro _ w3 ⟨x3,u1,Y1,rfl,hY1,e1⟩
 refine iE20 (iE21 ?_)
 refine iCall ((vQ (hH.ext x3) (by omega) hLs (hR.ext x3) hRs).mono ?_)
 rintro _ w4 ⟨x4,u2,Y2,rfl,hY2,e2⟩
 refine iE20 (iE21 ?_)
 have x24:=x3.trans x4
 have X4:=X2.trans x24
 refine iJnX (fun xs w'=>xs = [.bool false] ∧ Ext w4 w') (fun J hJ=>?_) ?_
 ·refine iNe (iCndF (decide_eq_false fun h=>h rfl) ?_)
  exact iRet (JU (hY1.ext x4) hY2.rd (e1.trans e2.symm)) fun w7 x7=>iNot (hJ _ _ ⟨rfl,x7⟩)
 rintro _ w6 ⟨rfl,x6⟩
 intro _
 simp only [gx]
 have x26:=x24.trans x6
 have X6:=X2.trans x26
 refine iCndF rfl (iNe (iCndP (fun _=>⟨by first | trivial | rfl,X6⟩) (fun hz=>?_)))
 have hz:m5 t (L.map Prod.snd) (R.map HV.x) = 0:=Classical.not_not.1 hz
 rw [if_pos hz] at e2
 obtain ⟨l0,hc1,hc2,A,C,gA,gC,hA,hC,sAC,hend⟩:=WI hz
 rw [List.length_map] at l0 hA hC hc2
 have hsz:(Fm.imp A C).size = 1 + A.size + C.size:=rfl
 obtain ⟨ht,hHn,r1,r2,hg⟩:=kG hc1
 rw [List.length_map] at r1 r2
 rw [← e2] at hc2 hend
 rw [List.length_map] at hend
 obtain ⟨-,-,y1,y2,hgY⟩:=kG hc2
 rw [List.length_map] at y1 y2
 have hH6:=hH.ext x26
 have hY6:=hY2.rd.ext x6
 have hYs:∀ y ∈ Y2,y.x.N.length ≤ 1000000:=fun y hy=>by
  obtain ⟨j,hj,rfl⟩:=List.getElem_of_mem hy
  have:=hgY j (by rw [List.length_map];exact hj)
  rw [bR hj,gt_eq hj] at this
  obtain ⟨D,_,s,e⟩:=dI (dZ this)
  rw [e,aG];omega
 have hcut:∀ {w':World} {K:Value → Prop},Ext w2 w' → (∀ v',RwN w' v' (L.take (L.length - 1)) → K v') → xSl 1 zh none (some (.int .i64 ((L.length:Int) - 1))) K:=fun {w' K} x h=>by
  have hrow:SlK 1 w' zh L.length (L.map Prod.fst):=by
   have:=Sl.toK (hH.ext x).row
   rwa [List.length_map] at this
  rw [show (L.length:Int) - 1 = ((L.length - 1:Nat):Int) by omega]
  refine UQ hrow (show L.length - 1 ≤ L.length by omega) fun v' hv'=>h v' ⟨?_,fun p hp=>(hH.ext x).raw p (List.mem_of_mem_take hp)⟩
  rw [Nat.mul_one,← List.map_take] at hv'
  exact SlK.toSlZ (by rw [List.length_map,List.length_take,Nat.min_eq_left (by omega)];exact hv')
 refine iLenS hH6.row (iSub (by rw [List.length_map];omega) ?_)
 rw [List.length_map]
 refine hcut x26 fun v59 h59=>?_
 have htl:(L.take (L.length - 1)).length ≤ 6:=by rw [List.length_take];omega
 have hts:∀ p ∈ L.take (L.length - 1),p.2.length ≤ 1000000:=fun p hp=>hLs p (List.mem_of_mem_take hp)
 have hct:codeH t ((L.take (L.length - 1)).map Prod.snd) (Y2.map HV.x) true = 0:=by rw [List.map_take];exact hc2
 have hcf:codeH t ((L.take (L.length - 1)).map Prod.snd) (Y2.map HV.x) false = 0:=by
  cases Classical.em (codeH t ((L.take (L.length - 1)).map Prod.snd) (Y2.map HV.x) false = 0) with
  | inl h=>exact h
  | inr h=>rw [MC h] at hct;exact hct
 have hbad:badH (sysNo t) ((L.take (L.length - 1)).map Prod.snd) (Y2.map HV.x) = -1:=by
  rw [List.map_take]
  exact oN fun k _ hk=>hgY k (by rw [List.length_map] at hk ⊢;omega)
 have hfb:=FH (hT.ext X6) h59 htl hts hY6 hYs (t:=t)
 rw [hcf,if_pos rfl,hbad] at hfb
 refine iRet hfb fun w8 x8=>iE20 (iE21 ?_)
 have x28:=x26.trans x8
 refine hcut x28 fun v68 h68=>?_
 refine iCall ((yO (hT.ext (X6.trans x8)) h68 htl hts (hY6.ext x8) hYs hct).mono ?_)
 rintro _ w9 ⟨x9,v71,rfl,h71⟩
 refine iE20 (iE21 ?_)
 have x29:=x28.trans x9
 refine iCall ((yK (hH.ext x29) (by omega) hLs (hR.ext x29) hRs hc1).mono ?_)
 rintro _ w10 ⟨x10,v78,rfl,h78⟩
 refine iE20 (iE21 ?_)
 have x210:=x29.trans x10
 have hC':(gt R (R.length - 1)).x.N = rawF C:=by rw [← bR (by omega)];exact hC
 have hA':(gt L (L.length - 1)).2 = rawF A:=by rw [← U9 (by omega)];exact hA
 have hm:gt L (L.length - 1) ∈ L:=by rw [gt_eq (by omega)];exact List.getElem_mem _
 refine iIa (j:=(L.length:Int) - 1) (hH.ext x210).row (by omega) (by rw [List.length_map];omega) fun p hp=>?_
 rw [show ((L.length:Int) - 1).toNat = L.length - 1 by omega,List.getElem?_map,List.getElem?_eq_getElem (by omega),Option.map_some,← gt_eq (by omega)] at hp
 refine iLd hp ?_
 have fA:FmS w10 (gt L (L.length - 1)).1 A:=eE (hA' ▸ (hH.ext x210).raw _ hm)
 have fC:FmS w10 v78 C:=eE (hC' ▸ OwK.sl h78)
 refine iCall ((EV fA fC gA gC sAC).mono ?_)
 rintro _ w11 ⟨x11,v87,rfl,h87⟩
 refine iE20 (iE21 ?_)
 refine iJnX (fun xs w'=>xs = [.bool false] ∧ Ext w11 w') (fun J hJ=>?_) ?_
 ·refine iNe (iCndF (by decide) (iNe (iCndF (by decide) (iNe (iCndF (by decide) (iNe (iCndF (by decide) ?_)))))))
  have h71':RawS w11 v71 (rawF (.imp A C)):=by
   have:=OwK.sl (OwK.ext h71 (x10.trans x11))
   rw [← bR (by omega),hend] at this
   exact this
  exact iRet (pX h71' (FmS.rawS h87.sl)) fun w14 x14=>iNot (hJ _ _ ⟨rfl,x14⟩)
 rintro _ w13 ⟨rfl,x13⟩
 intro _
 simp only [gx]
 have X13:=(((X6.trans x8).trans x9).trans x10).trans (x11.trans x13)
 refine iCndF rfl (iLt (iCndP (fun _=>⟨by first | trivial | rfl,X13⟩) (fun hn=>?_)))
 have hl1:L.length = 1:=by omega
 have hV:SysV (sysNo t) (.imp A C):=by
  have hgg:∀ k,k < (Y2.map HV.x).length → goodH (sysNo t) [] (Y2.map HV.x) k (gt (Y2.map HV.x) k) = true:=fun k hk=>by
   have:=hgY k hk
   rw [hl1] at this
   exact this
  obtain ⟨a,_,_,ha,hv⟩:=XN (by omega:sysNo t ≤ 9) hgg (Y2.length - 1) (by rw [List.length_map];omega)
  rw [hend] at ha
  rw [pT ha]
  exact hv
 exact iRet (ML ht (OwK.ext h87 x13).sl ⟨gA,gC⟩ sAC hV) fun w15 x15=>⟨by first | trivial | rfl,X13.trans x15⟩
end Go.Proofs.YtbfpohbmgjcjmaaGreatDoor
