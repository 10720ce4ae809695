/- The proof of FnWholeRunsCard, part 5 of 8. Conditions: none. -/
import Derived.Test.YteifjhpddhppcaaGreatDoorKR54d
import Derived.Laws.Runes
namespace Go.Proofs.YteifjhpddhppcaaGreatDoor
open Go.Vc
theorem iRest {w0 w:World} {v:Value} {fs:List Fm} {i:Nat} {K:Value → World → Prop} (hs:FsR w0 v fs) (x:Ext w0 w) (hi:i < fs.length) (hl:fs.length ≤ 1099511627776) (h:∀ v' w',Ext w w' → FsR w' v' (restF fs i) → K v' w'):
  xSl 1 v none (some (.int .i64 (i:Int))) fun v36=>xAdd .i64 (.int .i64 (i:Int)) (.int .i64 1) fun v40=>xSl 1 v (some v40) none fun v41=>
  ∀ w8,Ext w w8 → xBs eO (Value.cells (.slice none 0 0)) 1 0 [] w8 fun v33 w9=>Ext w8 w9 ∧ ∀ w10,Ext w9 w10 → xOp Tryz.prog (Builtin.append_ #[e7,e7] e7 #[v33,v36]) w10 fun v37 w11=>
  Ext w10 w11 ∧ ∀ w12,Ext w11 w12 → xOp Tryz.prog (Builtin.append_ #[e7,e7] e7 #[v37,v41]) w12 fun v42 w13=>∀ w14,Ext w13 w14 → K v42 w14:=by
 obtain ⟨vs,hsl,hf⟩:=hs
 have hvl:=hf.1
 have hcl:=hf.cells
 refine iSlTo (hsl.ext x) (by omega) fun v36 h36=>?_
 refine iAdd (by omega) ?_
 rw [show (i:Int) + 1 = ((i + 1:Nat):Int) by omega]
 refine aD9 (hsl.ext x) (by omega) fun v41 h41=>?_
 intro w8 x8
 refine iBs00 fun b w9 hb hb9 x9 hB=>⟨x9,fun w10 x10=>?_⟩
 have hl1:(vs.take i).length = i:=by rw [List.length_take];omega
 have hl2:(vs.drop (i + 1)).length = vs.length - (i + 1):=List.length_drop
 refine iAppF m9 nC rfl (hB.ext x10) (h36.ext (x8.trans (x9.trans x10))) (by omega) (by omega) fun v37 w11 x11 ho=>⟨x11,fun w12 x12=>?_⟩
 have X12:=(x8.trans x9).trans (x10.trans (x11.trans x12))
 have s8:=x8.size
 have s12:=(x10.trans (x11.trans x12)).size
 refine iApp m9 nC rfl (ho.ext x12) (h41.ext X12) (fun u hu=>hcl u (List.mem_of_mem_drop hu)) (by omega) (by omega) (by omega) fun v42 w13 ho13 hg=>?_
 intro w14 x14
 have X13:Ext w w13:=X12.grown hg fun c hc=>by have:=((ho.ext x12).blk c hc).1;omega
 exact h v42 w14 (X13.trans x14) ⟨_,(ho13.ext x14).sl,((hf.take i).app (hf.drop (i + 1))).ext (x.trans (X13.trans x14))⟩
theorem IW {v va:Value} {fs:List Fm} {a:Fm} {w:World} (hs:FsR w v fs) (ha:FmS w va a) (hn:∀ x ∈ fs,x.size ≤ 1000000) (hna:a.size ≤ 1000000):Ret Tryz.prog vT #[v,va] w (.bool (cY fs a)):=by
 apply LS;unfold uW
 refine iFld (j:=0) ha rfl a.size_pos (by decide) (aP ha).1 ?_
 cases a with
 | var p=>exact iEq (iCndF rfl (iEq (iCndF rfl ⟨rfl,Ext.refl _⟩)))
 | fls=>exact iEq (iCndF rfl (iEq (iCndF rfl ⟨rfl,Ext.refl _⟩)))
 | and a b=>exact iEq (iCndF rfl (iEq (iCndF rfl ⟨rfl,Ext.refl _⟩)))
 | box a=>exact iEq (iCndF rfl (iEq (iCndF rfl ⟨rfl,Ext.refl _⟩)))
 | dia a=>exact iEq (iCndF rfl (iEq (iCndF rfl ⟨rfl,Ext.refl _⟩)))
 | or a b=>
  refine iEq (iCndT rfl ?_)
  refine iJnB (cY fs (.or a b)) w (fun J hJ=>?_) (fun w2 x2=>fun _=>⟨by first | trivial | rfl,x2⟩)
  refine iCall ((aL (f:=.or a b) ha rfl (by omega)).mono ?_)
  rintro u w3 ⟨x3,hu⟩
  refine iRet (d7 (hs.ext x3) hu hn) fun w4 x4=>?_
  refine iCndP (fun h=>?_) (fun h=>?_)
  ·refine cast ?_ (hJ w4 (x3.trans x4));rw [show cY fs (.or a b) = true by simp [cY,h]]
  ·have X4:=x3.trans x4
   refine iCall ((aK (f:=.or a b) (ha.ext X4) rfl (by omega)).mono ?_)
   rintro u2 w5 ⟨x5,hu2⟩
   refine iRet (d7 (hs.ext (X4.trans x5)) hu2 hn) fun w6 x6=>?_
   refine cast ?_ (hJ w6 ((X4.trans x5).trans x6));rw [show cY fs (.or a b) = decide (b ∈ fs) by simp [cY,h]]
 | imp a b=>
  refine iEq (iCndF rfl (iEq (iCndT rfl ?_)))
  refine iJnB (cY fs (.imp a b)) w (fun J hJ=>?_) (fun w2 x2=>fun _=>⟨by first | trivial | rfl,x2⟩)
  refine iCall ((aL (f:=.imp a b) ha rfl (by omega)).mono ?_)
  rintro u w3 ⟨x3,hu⟩
  refine iFld (j:=0) hu rfl a.size_pos (by decide) (aP hu).1 ?_
  refine iEq ?_
  refine iCndP (fun h=>?_) (fun h=>?_)
  ·have:a = .fls:=by cases a <;> simp [Fm.kind] at h;rfl
   subst this
   refine cast ?_ (hJ w3 x3);rw [show cY fs (.imp .fls b) = true by simp [cY]]
  ·refine iCall ((aK (f:=.imp a b) (ha.ext x3) rfl (by omega)).mono ?_)
   rintro u2 w5 ⟨x5,hu2⟩
   refine iRet (d7 (hs.ext (x3.trans x5)) hu2 hn) fun w6 x6=>?_
   have:a ≠ .fls:=fun e=>h (by rw [e];rfl)
   refine cast ?_ (hJ w6 ((x3.trans x5).trans x6));rw [show cY fs (.imp a b) = decide (b ∈ fs) by simp [cY,this]]
theorem LV:∀ (n:Nat) {v vc:Value} {fs:List Fm} {c:Fm} {w:World},msF fs + c.w2 < n → SqF fs c → FsR w v fs → FmS w vc c → Ret Tryz.prog i8 #[v,vc] w (.bool (vF fs c)):=by
 intro n
 induction n with
 | zero=>intro v vc fs c w h;omega
 | succ n ih=>
  intro v vc fs c w hn h hs hc
  have IH:∀ {fs':List Fm} {c':Fm} {w':World} {v' vc':Value},LtF fs' c' fs c → FsR w' v' fs' → FmS w' vc' c' → Ret Tryz.prog i8 #[v',vc'] w' (.bool (vF fs' c')):=fun l=>ih (by have:=l.2;omega) l.1
  have hsz:∀ x ∈ fs,x.size ≤ 1000000:=fun x hx=>by have:=h.sz_left hx;omega
  have hcz:=h.sz_right
  have hll:=aDG fs
  have hsm:=h.small
  have hrz:∀ i,i < fs.length → ∀ x ∈ restF fs i,x.size ≤ 1000000:=fun i hi x hx=>hsz x ((f8 hi x).2 (.inr hx))
  have hrl:∀ i,i < fs.length → (restF fs i).length ≤ fs.length:=fun i hi=>by rw [restF,List.length_append,List.length_take,List.length_drop];omega
  have goW:∀ {w':World} {v' vm:Value} {more:List Fm} {i:Nat},i < fs.length → FsR w' v' (restF fs i) → FsR w' vm more → (∀ x ∈ more,x.size ≤ 1000000) → more.length ≤ 2 → Cal Tryz.prog lO #[v',vm] w' fun r w''=>Ext w' w'' ∧ FsR w'' r (withF (restF fs i) more):=
   fun hi a b c d=>AA a b (hrz _ hi) c (by have:=hrl _ hi;omega)
  apply OV;unfold yD
  refine iJnB (decide (c ∈ fs) || decide (Fm.fls ∈ fs)) w (fun J hJ=>?_) (fun w2 x2=>?_)
  ·refine iRet (d7 hs hc hsz) fun w3 x3=>?_
   refine iCndP (fun hk=>?_) (fun hk=>?_)
   ·rw [decide_eq_true hk,Bool.true_or] at hJ;exact hJ _ x3
   ·rw [decide_eq_false hk,Bool.false_or] at hJ
    refine iCall ((eA w3).mono ?_)
    rintro u w4 ⟨x4,hu⟩
    refine iRet (d7 (hs.ext (x3.trans x4)) hu.sl hsz) fun w5 x5=>hJ _ ((x3.trans x4).trans x5)
  intro _
  simp only [gx]
  cases hb:decide (c ∈ fs) || decide (Fm.fls ∈ fs)
  rotate_left
  ·refine iCndT rfl ⟨?_,x2⟩
   rw [Bool.or_eq_true,decide_eq_true_eq,decide_eq_true_eq] at hb
   rw [d6.2 (hb.elim Vld.mem Vld.fls)]
  rw [Bool.or_eq_false_iff,decide_eq_false_iff_not,decide_eq_false_iff_not] at hb
  refine iCndF rfl ?_
  refine iLp (fun i:Nat=>[.int .i64 (i:Int)]) (fun i w'=>i ≤ fs.length ∧ Ext w w' ∧ ∀ j (hj:j < fs.length),j < i → Inert fs fs[j]) (fun i=>fs.length - i) 0 rfl ⟨Nat.zero_le _,x2,fun j hj h=>by omega⟩ ?_
  rintro i w7 Kn ⟨hi,X7,hin⟩ hKn
  intro _
  simp only [gx]
  refine iLenF (hs.ext X7) ?_
  refine iLt ?_
  refine iCndP (fun hlt=>?_) (fun hlt=>?_)
  ·have hil:i < fs.length:=by omega
   refine iFsAt hs X7 rfl hil fun va ha=>?_
   have hza:=h.sz_left (List.getElem_mem hil)
   have hpa:=h.left _ (List.getElem_mem hil)
   refine iRest hs X7 hil (by omega) fun vr w14 x14 hr=>?_
   have X14:=X7.trans x14
   refine iRet (IW hr (ha.ext X14) (hrz i hil) (by omega)) fun w15 x15=>?_
   have X15:=X14.trans x15
   have hr15:=hr.ext x15
   refine iCnd (fun hu=>?_) (fun hu=>?_)
   ·obtain ⟨l,k⟩:=aBV h hil hu
    refine iRet (IH l hr15 (hc.ext X15)) fun w16 x16=>⟨by rw [vF_eq k],X15.trans x16⟩
   have cont:Inert fs fs[i] → ∀ w',Ext w w' → Kn [.int .i64 ((i:Int) + 1)] w':=fun hI w' x'=>hKn (i + 1) w' ⟨hil,x',fun j hj hji=>by
    by_cases e:j = i
    ·subst e;exact hI
    ·exact hin j hj (by omega)⟩ (by omega)
   have kd:=(aP ha).1
   cases e:fs[i] with
   | box a=>rw [e] at hpa;cases hpa
   | dia a=>rw [e] at hpa;cases hpa
   | var p=>
    rw [e] at ha kd
    refine iFld (j:=0) (ha.ext X15) rfl (Fm.size_pos _) (by decide) kd (iEq (iCndF rfl ?_))
    refine iFld (j:=0) (ha.ext X15) rfl (Fm.size_pos _) (by decide) kd (iEq (iCndF rfl ?_))
    refine iFld (j:=0) (ha.ext X15) rfl (Fm.size_pos _) (by decide) kd (iNe (iCndT rfl ?_))
    exact iAdd (by omega) (cont (by rw [e];exact .inl ⟨p,rfl⟩) _ X15)
   | fls=>exact absurd (e ▸ List.getElem_mem hil) hb.2
   | and a b=>
    rw [e] at ha kd hza
    obtain ⟨l,k⟩:=aEY h hil e
    simp only [Fm.size] at hza
    refine iFld (j:=0) (ha.ext X15) rfl (Fm.size_pos _) (by decide) kd (iEq (iCndT rfl ?_))
    refine iCall ((aL (f:=.and a b) (ha.ext X15) rfl (by simp only [Fm.size];omega)).mono ?_)
    rintro u1 w17 ⟨x17,hu1⟩
    refine iCall ((aK (f:=.and a b) (ha.ext (X15.trans x17)) rfl (by simp only [Fm.size];omega)).mono ?_)
    rintro u2 w18 ⟨x18,hu2⟩
    refine iBs2 rfl hu1.cellOk' hu2.cellOk' fun bb w19 hbb x19 hB=>?_
    have y:=x17.trans (x18.trans x19)
    refine iCall ((goW hil (hr15.ext y) (FsR.blk2 hB (hu1.ext (x18.trans x19)) (hu2.ext x19)) (by simp only [List.mem_cons,List.not_mem_nil,or_false];rintro x (rfl | rfl) <;> omega) (by simp)).mono ?_)
    rintro u3 w20 ⟨x20,hr20⟩
    refine iRet (IH l hr20 (hc.ext ((X15.trans y).trans x20))) fun w21 x21=>⟨by rw [vF_eq k],((X15.trans y).trans x20).trans x21⟩
   | or a b=>
    rw [e] at ha kd hza
    obtain ⟨l1,l2,k⟩:=f_or2 h hil e
    simp only [Fm.size] at hza
    refine iFld (j:=0) (ha.ext X15) rfl (Fm.size_pos _) (by decide) kd (iEq (iCndF rfl ?_))
    refine iFld (j:=0) (ha.ext X15) rfl (Fm.size_pos _) (by decide) kd (iEq (iCndT rfl ?_))
    refine iJnB (vF fs c) w15 (fun J hJ=>?_) (fun w2 x2=>fun _=>⟨by first | trivial | rfl,X15.trans x2⟩)
    rw [aB8 k] at hJ
    refine iCall ((aL (f:=.or a b) (ha.ext X15) rfl (by simp only [Fm.size];omega)).mono ?_)
    rintro u1 w17 ⟨x17,hu1⟩
    refine iBs1 rfl hu1.cellOk' fun bb w19 hbb x19 hB=>?_
    have y:=x17.trans x19
    refine iCall ((goW hil (hr15.ext y) (FsR.blk1 hB (hu1.ext x19)) (by simp only [List.mem_singleton];rintro x rfl;omega) (by simp)).mono ?_)
    rintro u3 w20 ⟨x20,hr20⟩
    refine iRet (IH l1 hr20 (hc.ext ((X15.trans y).trans x20))) fun w21 x21=>?_
    have Y:=(y.trans x20).trans x21
    refine iCnd (fun hT=>?_) (fun hT=>?_)
    ·rw [hT,Bool.true_and] at hJ
     refine iCall ((aK (f:=.or a b) (ha.ext (X15.trans Y)) rfl (by simp only [Fm.size];omega)).mono ?_)
     rintro u4 w22 ⟨x22,hu4⟩
     refine iBs1 rfl hu4.cellOk' fun bb w23 hbb x23 hB2=>?_
     have y2:=Y.trans (x22.trans x23)
     refine iCall ((goW hil (hr15.ext y2) (FsR.blk1 hB2 (hu4.ext x23)) (by simp only [List.mem_singleton];rintro x rfl;omega) (by simp)).mono ?_)
     rintro u5 w24 ⟨x24,hr24⟩
     refine iRet (IH l2 hr24 (hc.ext ((X15.trans y2).trans x24))) fun w25 x25=>hJ _ ((y2.trans x24).trans x25)
    ·rw [hT,Bool.false_and] at hJ
     exact hJ _ Y
   | imp x y=>
    rw [e] at ha kd hza hu hpa
    simp only [Fm.size] at hza
    refine iFld (j:=0) (ha.ext X15) rfl (Fm.size_pos _) (by decide) kd (iEq (iCndF rfl ?_))
    refine iFld (j:=0) (ha.ext X15) rfl (Fm.size_pos _) (by decide) kd (iEq (iCndF rfl ?_))
    refine iFld (j:=0) (ha.ext X15) rfl (Fm.size_pos _) (by decide) kd (iNe (iCndF rfl ?_))
    refine iCall ((aL (f:=.imp x y) (ha.ext X15) rfl (by simp only [Fm.size];omega)).mono ?_)
    rintro ux w32 ⟨x32,hux⟩
    refine iCall ((aK (f:=.imp x y) (ha.ext (X15.trans x32)) rfl (by simp only [Fm.size];omega)).mono ?_)
    rintro uy w33 ⟨x33,huy⟩
    have y33:=x32.trans x33
    have X33:=X15.trans y33
    have hux:FmS w33 ux x:=hux.ext x33
    have hr33:=hr15.ext y33
    have kx:=(aP hux).1
    have last:(∀ a b,x ≠ .and a b) → (∀ a b,x ≠ .or a b) → callV Tryz.prog (.func (.func uB) #[] #[]) [vr,ux] w33 fun v137 w48=>cnd v137 (xBs eO (Value.cells (.slice none 0 0)) 1 1 [(0,uy)] w48 fun v140 w49=>
      callV Tryz.prog (.func (.func lO) #[] #[]) [vr,v140] w49 fun v141 w50=>callV Tryz.prog (.func (.func i8) #[] #[]) [v141,vc] w50 fun v143 w51=>v143 = .bool (vF fs c) ∧ Ext w w51)
      (xAdd .i64 (.int .i64 (i:Int)) (.int .i64 1) fun v28=>Kn [v28] w48):=fun q1 q2=>by
     refine iRet (d7 hr33 hux (hrz i hil)) fun w48 x48=>?_
     refine iCndP (fun hx=>?_) (fun hx=>?_)
     ·obtain ⟨l,k⟩:=aBU h hil e hx
      refine iBs1 rfl huy.cellOk' fun bb w49 hbb x49 hB=>?_
      refine iCall ((goW hil (hr33.ext (x48.trans x49)) (FsR.blk1 hB (huy.ext (x48.trans x49))) (by simp only [List.mem_singleton];rintro x rfl;omega) (by simp)).mono ?_)
      rintro u3 w50 ⟨x50,hr50⟩
      have Y:=(x48.trans x49).trans x50
      refine iRet (IH l hr50 (hc.ext (X33.trans Y))) fun w51 x51=>⟨by rw [vF_eq k],(X33.trans Y).trans x51⟩
     ·refine iAdd (by omega) (cont ?_ _ (X33.trans x48))
      refine aC2 h hil hb.2 (by rw [e];exact hu) (fun a b e'=>by rw [e] at e';cases e') (fun a b e'=>by rw [e] at e';cases e') fun x' y' e'=>?_
      rw [e] at e'
      cases e'
      exact ⟨q1,q2,hx⟩
    cases x with
    | box a=>cases hpa
    | dia a=>cases hpa
    | and a b=>
     obtain ⟨l,k⟩:=Z9 h hil e
     simp only [Fm.size] at hza
     refine iFld (j:=0) hux rfl (Fm.size_pos _) (by decide) kx (iEq (iCndT rfl ?_))
     refine iCall ((aL (f:=.and a b) hux rfl (by simp only [Fm.size];omega)).mono ?_)
     rintro u1 w34 ⟨x34,hu1⟩
     refine iCall ((aK (f:=.and a b) (hux.ext x34) rfl (by simp only [Fm.size];omega)).mono ?_)
     rintro u2 w35 ⟨x35,hu2⟩
     refine iCall ((bL (k:=4) (c:=.imp b y) rfl rfl hu2 (huy.ext (x34.trans x35)) (by simp only [Fm.size];omega)).mono ?_)
     rintro u3 w36 ⟨x36,hu3⟩
     refine iCall ((bL (k:=4) (c:=.imp a (.imp b y)) rfl rfl (hu1.ext (x35.trans x36)) hu3.sl (by simp only [Fm.size];omega)).mono ?_)
     rintro u4 w37 ⟨x37,hu4⟩
     refine iBs1 rfl hu4.cell fun bb w38 hbb x38 hB=>?_
     have Y:=(x34.trans x35).trans (x36.trans (x37.trans x38))
     refine iCall ((goW hil (hr33.ext Y) (FsR.blk1 hB (hu4.sl.ext x38)) (by simp only [List.mem_singleton];rintro x rfl;simp only [Fm.size];omega) (by simp)).mono ?_)
     rintro u5 w39 ⟨x39,hr39⟩
     refine iRet (IH l hr39 (hc.ext ((X33.trans Y).trans x39))) fun w40 x40=>⟨by rw [vF_eq k],((X33.trans Y).trans x39).trans x40⟩
    | or a b=>
     obtain ⟨l,k⟩:=aB6 h hil e
     simp only [Fm.size] at hza
     refine iFld (j:=0) hux rfl (Fm.size_pos _) (by decide) kx (iEq (iCndF rfl ?_))
     refine iFld (j:=0) hux rfl (Fm.size_pos _) (by decide) kx (iEq (iCndT rfl ?_))
     refine iCall ((aL (f:=.or a b) hux rfl (by simp only [Fm.size];omega)).mono ?_)
     rintro u1 w34 ⟨x34,hu1⟩
     refine iCall ((bL (k:=4) (c:=.imp a y) rfl rfl hu1 (huy.ext x34) (by simp only [Fm.size];omega)).mono ?_)
     rintro u2 w35 ⟨x35,hu2⟩
     refine iCall ((aK (f:=.or a b) (hux.ext (x34.trans x35)) rfl (by simp only [Fm.size];omega)).mono ?_)
     rintro u3 w36 ⟨x36,hu3⟩
     refine iCall ((bL (k:=4) (c:=.imp b y) rfl rfl hu3 (huy.ext (x34.trans (x35.trans x36))) (by simp only [Fm.size];omega)).mono ?_)
     rintro u4 w37 ⟨x37,hu4⟩
     refine iBs2 rfl hu2.cell hu4.cell fun bb w38 hbb x38 hB=>?_
     have Y:=(x34.trans x35).trans (x36.trans (x37.trans x38))
     refine iCall ((goW hil (hr33.ext Y) (FsR.blk2 hB (hu2.sl.ext (x36.trans (x37.trans x38))) (hu4.sl.ext x38)) (by simp only [List.mem_cons,List.not_mem_nil,or_false];rintro x (rfl | rfl) <;> simp only [Fm.size] <;> omega) (by simp)).mono ?_)
     rintro u5 w39 ⟨x39,hr39⟩
     refine iRet (IH l hr39 (hc.ext ((X33.trans Y).trans x39))) fun w40 x40=>⟨by rw [vF_eq k],((X33.trans Y).trans x39).trans x40⟩
    | var p=>
     refine iFld (j:=0) hux rfl (Fm.size_pos _) (by decide) kx (iEq (iCndF rfl ?_))
     refine iFld (j:=0) hux rfl (Fm.size_pos _) (by decide) kx (iEq (iCndF rfl ?_))
     exact last (fun a b e=>by cases e) (fun a b e=>by cases e)
    | fls=>
     refine iFld (j:=0) hux rfl (Fm.size_pos _) (by decide) kx (iEq (iCndF rfl ?_))
     refine iFld (j:=0) hux rfl (Fm.size_pos _) (by decide) kx (iEq (iCndF rfl ?_))
     exact last (fun a b e=>by cases e) (fun a b e=>by cases e)
    | imp a b=>
     refine iFld (j:=0) hux rfl (Fm.size_pos _) (by decide) kx (iEq (iCndF rfl ?_))
     refine iFld (j:=0) hux rfl (Fm.size_pos _) (by decide) kx (iEq (iCndF rfl ?_))
     exact last (fun a b e=>by cases e) (fun a b e=>by cases e)
  have hin:∀ j (hj:j < fs.length),Inert fs fs[j]:=fun j hj=>hin j hj (by omega)
  have hc7:FmS w7 vc c:=hc.ext X7
  have hs7:=hs.ext X7
  refine iFld (j:=0) hc7 rfl (Fm.size_pos _) (by decide) (aP hc).1 ?_
  refine iEq (iCndP (fun hk=>?_) (fun hk=>?_))
  ·obtain ⟨a,b,rfl⟩:∃ a b,c = .and a b:=by
    cases c <;> simp [Fm.kind] at hk
    exact ⟨_,_,rfl⟩
   obtain ⟨l1,l2,k⟩:=YL h rfl
   refine iJnB (vF fs (.and a b)) w7 (fun J hJ=>?_) (fun w2 x2=>fun _=>⟨by first | trivial | rfl,X7.trans x2⟩)
   rw [aB8 k] at hJ
   refine iCall ((aL (f:=.and a b) hc7 rfl (by omega)).mono ?_)
   rintro u1 w8 ⟨x8,hu1⟩
   refine iRet (IH l1 (hs7.ext x8) hu1) fun w9 x9=>?_
   refine iCnd (fun hT=>?_) (fun hT=>?_)
   ·rw [hT,Bool.true_and] at hJ
    refine iCall ((aK (f:=.and a b) (hc7.ext (x8.trans x9)) rfl (by omega)).mono ?_)
    rintro u2 w10 ⟨x10,hu2⟩
    have y:=x8.trans (x9.trans x10)
    refine iRet (IH l2 (hs7.ext y) hu2) fun w11 x11=>hJ _ (y.trans x11)
   ·rw [hT,Bool.false_and] at hJ
    exact hJ _ (x8.trans x9)
  refine iEq (iCndP (fun hk2=>?_) (fun hk2=>?_))
  ·obtain ⟨a,b,rfl⟩:∃ a b,c = .imp a b:=by
    cases c <;> simp [Fm.kind] at hk2
    exact ⟨_,_,rfl⟩
   obtain ⟨l,k⟩:=XN h rfl
   simp only [Fm.size] at hcz
   refine iCall ((aL (f:=.imp a b) hc7 rfl (by simp only [Fm.size];omega)).mono ?_)
   rintro u1 w8 ⟨x8,hu1⟩
   refine iBs1 rfl hu1.cellOk' fun bb w9 hbb x9 hB=>?_
   have y9:=x8.trans x9
   refine iCall ((AA (hs7.ext y9) (FsR.blk1 hB (hu1.ext x9)) hsz (by simp only [List.mem_singleton];rintro x rfl;omega) (by simp only [List.length_singleton];omega)).mono ?_)
   rintro u2 w10 ⟨x10,hr10⟩
   have y10:=y9.trans x10
   refine iCall ((aK (f:=.imp a b) (hc7.ext y10) rfl (by simp only [Fm.size];omega)).mono ?_)
   rintro u3 w11 ⟨x11,hu3⟩
   refine iRet (IH l (hr10.ext x11) hu3) fun w12 x12=>⟨by rw [vF_eq k],(X7.trans (y10.trans x11)).trans x12⟩
  have hr2:∀ a b,c ≠ .and a b ∧ c ≠ .imp a b:=fun a b=>⟨fun e=>hk (by rw [e];rfl),fun e=>hk2 (by rw [e];rfl)⟩
  refine iEq ?_
  refine iJnX (fun xs w'=>xs = [] ∧ Ext w7 w' ∧ ∀ a b,c = .or a b → ¬ Vld fs a ∧ ¬ Vld fs b) (fun J hJ=>?_) ?_
  ·refine iCndP (fun hk3=>?_) (fun hk3=>?_)
   ·obtain ⟨a,b,rfl⟩:∃ a b,c = .or a b:=by
     cases c <;> simp [Fm.kind] at hk3
     exact ⟨_,_,rfl⟩
    obtain ⟨l1,l2,k⟩:=aAA h rfl
    refine iJnB (vF fs a || vF fs b) w7 (fun J2 hJ2=>?_) (fun w8 x8=>?_)
    ·refine iCall ((aL (f:=.or a b) hc7 rfl (by omega)).mono ?_)
     rintro u1 w8 ⟨x8,hu1⟩
     refine iRet (IH l1 (hs7.ext x8) hu1) fun w9 x9=>?_
     refine iCnd (fun hT=>?_) (fun hT=>?_)
     ·rw [hT,Bool.true_or] at hJ2
      exact hJ2 _ (x8.trans x9)
     ·rw [hT,Bool.false_or] at hJ2
      refine iCall ((aK (f:=.or a b) (hc7.ext (x8.trans x9)) rfl (by omega)).mono ?_)
      rintro u2 w10 ⟨x10,hu2⟩
      have y:=x8.trans (x9.trans x10)
      refine iRet (IH l2 (hs7.ext y) hu2) fun w11 x11=>hJ2 _ (y.trans x11)
    ·intro _
     simp only [gx]
     refine iCnd (fun hT=>?_) (fun hT=>?_)
     ·rw [Bool.or_eq_true,d6,d6] at hT
      exact ⟨by rw [d6.2 (k hT)],X7.trans x8⟩
     ·rw [Bool.or_eq_false_iff,NC,NC] at hT
      refine hJ _ _ ⟨rfl,x8,fun a' b' e=>?_⟩
      cases e
      exact hT
   ·exact hJ _ _ ⟨rfl,Ext.refl _,fun a b e=>absurd (by rw [e];rfl) hk3⟩
  rintro xs w64 ⟨rfl,x64,hor⟩
  intro _
  have X64:=X7.trans x64
  refine iLp (fun i:Nat=>[.int .i64 (i:Int)]) (fun i w'=>i ≤ fs.length ∧ Ext w w' ∧ ∀ j (hj:j < fs.length),j < i → ∀ x y z,fs[j] = .imp (.imp x y) z → ¬ (Vld (withF (restF fs j) [.imp y z,x]) y ∧ Vld (withF (restF fs j) [z]) c)) (fun i=>fs.length - i) 0 rfl ⟨Nat.zero_le _,X64,fun j hj h=>by omega⟩ ?_
  rintro i w72 Kn2 ⟨hi,X72,hno⟩ hKn2
  intro _
  simp only [gx]
  refine iLenF (hs.ext X72) ?_
  refine iLt ?_
  refine iCndP (fun hlt=>?_) (fun hlt=>?_)
  ·have hil:i < fs.length:=by omega
   refine iFsAt hs X72 rfl hil fun va ha=>?_
   have hza:=h.sz_left (List.getElem_mem hil)
   have kd:=(aP ha).1
   have cont:(∀ x y z,fs[i] = .imp (.imp x y) z → ¬ (Vld (withF (restF fs i) [.imp y z,x]) y ∧ Vld (withF (restF fs i) [z]) c)) → ∀ w',Ext w w' → Kn2 [.int .i64 ((i:Int) + 1)] w':=fun hI w' x'=>hKn2 (i + 1) w' ⟨hil,x',fun j hj hji=>by
    by_cases e:j = i
    ·subst e;exact hI
    ·exact hno j hj (by omega)⟩ (by omega)
   by_cases hnest:∃ x y z,fs[i] = .imp (.imp x y) z
   ·obtain ⟨x,y,z,e⟩:=hnest
    rw [e] at ha kd hza
    obtain ⟨l1,l2,k1,k2⟩:=YW h hil e
    simp only [Fm.size] at hza
    refine iJnB false w72 (fun J hJ=>?_) (fun w74 x74=>?_)
    ·refine iFld (j:=0) (ha.ext X72) rfl (Fm.size_pos _) (by decide) kd (iNe (iCndF rfl ?_))
     refine iCall ((aL (f:=.imp (.imp x y) z) (ha.ext X72) rfl (by simp only [Fm.size];omega)).mono ?_)
     rintro u1 w75 ⟨x75,hu1⟩
     refine iFld (j:=0) hu1 rfl (Fm.size_pos _) (by decide) (aP hu1).1 (iNe ?_)
     exact hJ _ x75
    intro _
    simp only [gx]
    refine iCndF rfl ?_
    have X74:=X72.trans x74
    refine iRest hs X74 hil (by omega) fun vr w82 x82 hr=>?_
    have X82:=X74.trans x82
    refine iCall ((aL (f:=.imp (.imp x y) z) (ha.ext X82) rfl (by simp only [Fm.size];omega)).mono ?_)
    rintro ux w83 ⟨x83,hux⟩
    refine iCall ((aK (f:=.imp (.imp x y) z) (ha.ext (X82.trans x83)) rfl (by simp only [Fm.size];omega)).mono ?_)
    rintro uz w84 ⟨x84,huz⟩
    have y84:=x83.trans x84
    have X84:=X82.trans y84
    have hux:FmS w84 ux (.imp x y):=hux.ext x84
    have hr84:=hr.ext y84
    refine iJnB (vF (withF (restF fs i) [.imp y z,x]) y && vF (withF (restF fs i) [z]) c) w84 (fun J hJ=>?_) (fun w86 x86=>?_)
    ·refine iCall ((aK (f:=.imp x y) hux rfl (by simp only [Fm.size];omega)).mono ?_)
     rintro u1 w87 ⟨x87,hu1⟩
     refine iCall ((bL (k:=4) (c:=.imp y z) rfl rfl hu1 (huz.ext x87) (by simp only [Fm.size];omega)).mono ?_)
     rintro u2 w88 ⟨x88,hu2⟩
     refine iCall ((aL (f:=.imp x y) (hux.ext (x87.trans x88)) rfl (by simp only [Fm.size];omega)).mono ?_)
     rintro u3 w89 ⟨x89,hu3⟩
     refine iBs2 rfl hu2.cell hu3.cellOk' fun bb w90 hbb x90 hB=>?_
     have Y:=(x87.trans x88).trans (x89.trans x90)
     refine iCall ((goW hil (hr84.ext Y) (FsR.blk2 hB (hu2.sl.ext (x89.trans x90)) (hu3.ext x90)) (by simp only [List.mem_cons,List.not_mem_nil,or_false];rintro x (rfl | rfl) <;> (try simp only [Fm.size]) <;> omega) (by simp)).mono ?_)
     rintro u4 w91 ⟨x91,hr91⟩
     have Y91:=Y.trans x91
     refine iCall ((aK (f:=.imp x y) (hux.ext Y91) rfl (by simp only [Fm.size];omega)).mono ?_)
     rintro u5 w92 ⟨x92,hu5⟩
     refine iRet (IH l1 (hr91.ext x92) hu5) fun w93 x93=>?_
     have Y93:=(Y91.trans x92).trans x93
     refine iCnd (fun hT=>?_) (fun hT=>?_)
     ·rw [hT,Bool.true_and] at hJ
      refine iBs1 rfl huz.cellOk' fun bb w94 hbb x94 hB2=>?_
      have Y94:=Y93.trans x94
      refine iCall ((goW hil (hr84.ext Y94) (FsR.blk1 hB2 (huz.ext Y94)) (by simp only [List.mem_singleton];rintro x rfl;omega) (by simp)).mono ?_)
      rintro u6 w95 ⟨x95,hr95⟩
      refine iRet (IH l2 hr95 (hc.ext ((X84.trans Y94).trans x95))) fun w96 x96=>hJ _ ((Y94.trans x95).trans x96)
     ·rw [hT,Bool.false_and] at hJ
      exact hJ _ Y93
    intro _
    simp only [gx]
    refine iCnd (fun hT=>?_) (fun hT=>?_)
    ·rw [Bool.and_eq_true,d6,d6] at hT
     exact ⟨by rw [d6.2 ((k2 (k1.1 hT.1)).1 hT.2)],X84.trans x86⟩
    ·refine iAdd (by omega) (cont (fun x' y' z' e' hV=>?_) _ (X84.trans x86))
     rw [e] at e'
     cases e'
     rw [d6.2 hV.1,d6.2 hV.2] at hT
     cases hT
   ·refine iJnB true w72 (fun J hJ=>?_) (fun w74 x74=>?_)
    ·refine iFld (j:=0) (ha.ext X72) rfl (Fm.size_pos _) (by decide) kd ?_
     refine iNe (iCndP (fun _=>hJ _ (Ext.refl _)) (fun hk4=>?_))
     obtain ⟨x,z,e⟩:∃ x z,fs[i] = .imp x z:=by
      cases e:fs[i] <;> rw [e] at hk4 <;> simp [Fm.kind] at hk4
      exact ⟨_,_,rfl⟩
     refine iCall ((aL (f:=fs[i]) (g:=x) (gs:=[z]) (ha.ext X72) (by rw [e];rfl) (by omega)).mono ?_)
     rintro u1 w75 ⟨x75,hu1⟩
     refine iFld (j:=0) hu1 rfl (Fm.size_pos _) (by decide) (aP hu1).1 (iNe ?_)
     rw [decide_eq_true (p:=¬ ((x.kind:Int) = 4)) (fun hk5=>?_)]
     ·exact hJ _ x75
     ·cases x <;> simp [Fm.kind] at hk5
      exact hnest ⟨_,_,_,e⟩
    intro _
    simp only [gx]
    refine iCndT rfl (iAdd (by omega) (cont (fun x y z e=>absurd ⟨x,y,z,e⟩ hnest) _ (X72.trans x74)))
  ·refine ⟨?_,X72⟩
   rw [NC.2 (aEP h hb.1 hin hr2 hor fun j hj x y z e=>hno j hj (by omega) x y z e)]
end Go.Proofs.YteifjhpddhppcaaGreatDoor

namespace Go.Vc
def Fm.ks:Fm → List (Nat × Nat)
 | .var v=>[(0,v)]
 | .fls=>[(1,0)]
 | .and a b=>(2,0) :: (a.ks ++ b.ks)
 | .or a b=>(3,0) :: (a.ks ++ b.ks)
 | .imp a b=>(4,0) :: (a.ks ++ b.ks)
 | .box a=>(5,0) :: a.ks
 | .dia a=>(6,0) :: a.ks
def nds (l:List (Nat × Nat)):List Value:=l.flatMap fun p=>nd p.1 p.2
theorem rA (p:Nat × Nat) (l:List (Nat × Nat)):nds (p :: l) = nd p.1 p.2 ++ nds l:=by simp [nds]
theorem SV (l m:List (Nat × Nat)):nds (l ++ m) = nds l ++ nds m:=by simp [nds]
theorem Fm.cells_ks:∀ f:Fm,f.cells = nds f.ks
 | .var v=>rfl
 | .fls=>rfl
 | .and a b=>by rw [Fm.ks,rA,SV,← a.cells_ks,← b.cells_ks];simp [Fm.cells]
 | .or a b=>by rw [Fm.ks,rA,SV,← a.cells_ks,← b.cells_ks];simp [Fm.cells]
 | .imp a b=>by rw [Fm.ks,rA,SV,← a.cells_ks,← b.cells_ks];simp [Fm.cells]
 | .box a=>by rw [Fm.ks,rA,← a.cells_ks];simp [Fm.cells]
 | .dia a=>by rw [Fm.ks,rA,← a.cells_ks];simp [Fm.cells]
theorem Fm.ks_len:∀ f:Fm,f.ks.length = f.size
 | .var _=>rfl
 | .fls=>rfl
 | .and a b=>by simp only [Fm.ks,Fm.size,List.length_cons,List.length_append,a.ks_len,b.ks_len];omega
 | .or a b=>by simp only [Fm.ks,Fm.size,List.length_cons,List.length_append,a.ks_len,b.ks_len];omega
 | .imp a b=>by simp only [Fm.ks,Fm.size,List.length_cons,List.length_append,a.ks_len,b.ks_len];omega
 | .box a=>by simp only [Fm.ks,Fm.size,List.length_cons,a.ks_len];omega
 | .dia a=>by simp only [Fm.ks,Fm.size,List.length_cons,a.ks_len];omega
theorem VZ:∀ {l:List (Nat × Nat)} {i:Nat} (h:i < l.length),(nds l)[i * 2 + 0]? = some (.int .i64 (l[i].1:Int)) ∧ (nds l)[i * 2 + 1]? = some (.int .i64 (l[i].2:Int))
 | [],_,h=>by simp at h
 | p :: l,0,_=>⟨rfl,rfl⟩
 | p :: l,i + 1,h=>by
  have:=VZ (l:=l) (i:=i) (by simpa using h)
  have e:∀ f,(nds (p :: l))[(i + 1) * 2 + f]? = (nds l)[i * 2 + f]?:=fun f=>by
   rw [rA,List.getElem?_append_right (by simp [nd];omega)]
   congr 1
   simp [nd];omega
  rw [e,e]
  simpa using this
def modal (p:Nat × Nat):Bool:=decide (p.1 = 5) || decide (p.1 = 6)
theorem Fm.plain_ks:∀ f:Fm,f.ks.any modal = !f.plain
 | .var _=>rfl
 | .fls=>rfl
 | .and a b=>by simp only [Fm.ks,List.any_cons,List.any_append,a.plain_ks,b.plain_ks,Fm.plain];simp [modal]
 | .or a b=>by simp only [Fm.ks,List.any_cons,List.any_append,a.plain_ks,b.plain_ks,Fm.plain];simp [modal]
 | .imp a b=>by simp only [Fm.ks,List.any_cons,List.any_append,a.plain_ks,b.plain_ks,Fm.plain];simp [modal]
 | .box a=>by simp only [Fm.ks,List.any_cons,Fm.plain];simp [modal]
 | .dia a=>by simp only [Fm.ks,List.any_cons,Fm.plain];simp [modal]
theorem ZS {α:Type} {l:List α} {p:α → Bool} {i:Nat} (hi:i < l.length) (h:p l[i] = true):l.any p = true:=List.any_eq_true.2 ⟨l[i],List.getElem_mem _,h⟩
theorem ZB {α:Type} {l:List α} {p:α → Bool} (h:∀ i (hi:i < l.length),p l[i] = false):l.any p = false:=by
 rw [List.any_eq_false]
 intro x hx
 obtain ⟨i,hi,rfl⟩:=List.getElem_of_mem hx
 rw [h i hi];exact Bool.false_ne_true
theorem vB_vF {f:Fm} (h:f.good):vB [] f.body = vF [] f:=Bool.eq_iff_iff.2 (bY.trans ((by unfold VT;rw [aF h];exact Iff.rfl:VT [] f.body ↔ Vld [] f).trans d6.symm))
noncomputable def fE (t:Str):Bool:=(fT t).plain && (decide ((fT t).size ≤ 20) && vF [] (fT t))
theorem M5 {f:Fm} (hp:f.plain = true) (hs:f.size ≤ 20):f.w2 ≤ 1099511627776:=by
 have:=(Fm.wt_size hp).2
 have h2:f.wt ≤ 40:=by omega
 have:=Nat.pow_le_pow_right (n:=2) (by omega) h2
 simpa [Fm.w2] using this
end Go.Vc
namespace Go.Proofs.YteifjhpddhppcaaGreatDoor
open Go.Vc
theorem QR (k:Nat) (w:World):Ret Tryz.prog rL #[.int .i64 (k:Int)] w (.bool (decide (k = 5) || decide (k = 6))):=by
 apply CX;unfold r3
 refine iJnB (decide (k = 5) || decide (k = 6)) w (fun J hJ=>?_) (fun w2 x2=>fun _=>⟨by first | trivial | rfl,x2⟩)
 refine iEq (iCndP (fun h=>?_) (fun h=>?_))
 ·rw [decide_eq_true (show k = 5 by omega),Bool.true_or] at hJ
  exact hJ _ (Ext.refl _)
 ·rw [decide_eq_false (show ¬ k = 5 by omega),Bool.false_or] at hJ
  refine iEq ?_
  rw [show decide ((k:Int) = 6) = decide (k = 6) from decide_eq_decide.2 (by omega)]
  exact hJ _ (Ext.refl _)
theorem pQ {v:Value} {f:Fm} {w:World} (hs:FmS w v f):Ret Tryz.prog q0 #[v] w (.bool f.plain):=by
 apply DI;unfold rF
 have hln:=hs.len
 have hkl:=f.ks_len
 refine iRet (v:=.bool (f.ks.any modal)) ?_ fun w1 x1=>iNot ⟨by rw [f.plain_ks,Bool.not_not],x1⟩
 apply dA;unfold bR
 refine iCall (Cal.mono (R:=fun r w'=>Ext w w' ∧ ∃ z:Int,r = .int .i64 z ∧ (decide (0 ≤ z) = f.ks.any modal)) ?_ ?_)
 ·apply dR;unfold b9
  refine iLenK hs ?_
  refine iLp (fun i:Nat=>[.int .i64 (i:Int)]) (fun i w'=>i ≤ f.size ∧ Ext w w' ∧ ∀ j (hj:j < f.ks.length),j < i → modal f.ks[j] = false) (fun i=>f.size - i) 0 rfl ⟨Nat.zero_le _,Ext.refl _,fun j hj h=>by omega⟩ ?_
  rintro i w2 Kn ⟨hi,h2,hno⟩ hKn
  intro _
  simp only [gx]
  refine iLt ?_
  refine iCndP (fun h=>?_) (fun h=>?_)
  ·have hil:i < f.ks.length:=by omega
   have hat:=VZ hil
   rw [← f.cells_ks] at hat
   refine iLdK (cs:=#[.int .i64 (f.ks[i].1:Int),.int .i64 (f.ks[i].2:Int)]) (hs.ext h2) rfl (by omega) rfl (fun j hj=>?_) ?_
   ·rcases j with _ | _ | j
    ·exact hat.1
    ·exact hat.2
    ·omega
   refine iRet (v:=.bool (modal f.ks[i])) ?_ fun w3 x3=>?_
   ·apply xY;unfold nI
    refine iNew2 fun q w3 hq x3 hB=>?_
    refine iFa (iLdB hB rfl ?_)
    refine iRet (QR _ _) fun w4 x4=>⟨rfl,x3.trans x4⟩
   ·refine iCnd (fun h3=>?_) (fun h3=>?_)
    ·exact ⟨h2.trans x3,_,rfl,by rw [ZS hil h3];simp⟩
    ·refine iAdd (by omega) ?_
     refine hKn (i + 1) _ ⟨by omega,h2.trans x3,fun j hj hji=>?_⟩ (by omega)
     by_cases e:j = i
     ·subst e;exact h3
     ·exact hno j hj (by omega)
  ·exact ⟨h2,-1,rfl,by rw [ZB fun j hj=>hno j hj (by omega)];rfl⟩
 ·rintro r w1 ⟨h1,z,rfl,hz⟩
  refine iLe ?_
  rw [hz]
  exact ⟨by first | trivial | rfl,h1⟩
theorem KO {v va:Value} {f:Fm} {w:World} (hs:Sl w v [va]) (ha:FmS w va f):Ret Tryz.prog yU #[v] w (.bool (decide (f.size ≤ 20))):=by
 apply NA;unfold wO
 refine iRet (v:=.bool (decide (20 < f.size))) ?_ fun w1 x1=>iNot ⟨by congr 1;rw [← decide_not];exact decide_eq_decide.2 (by omega),x1⟩
 apply cT;unfold bN
 refine iCall (Cal.mono (R:=fun r w'=>Ext w w' ∧ ∃ z:Int,r = .int .i64 z ∧ (decide (0 ≤ z) = decide (20 < f.size))) ?_ ?_)
 ·apply dF;unfold bX
  refine iLenS hs ?_
  refine iLp (fun i:Nat=>[.int .i64 (i:Int)]) (fun i w'=>i ≤ 1 ∧ Ext w w' ∧ (i = 1 → ¬ 20 < f.size)) (fun i=>1 - i) 0 rfl ⟨Nat.zero_le _,Ext.refl _,fun h=>by omega⟩ ?_
  rintro i w2 Kn ⟨hi,h2,hno⟩ hKn
  intro _
  simp only [gx]
  refine iLt ?_
  refine iCndP (fun h=>?_) (fun h=>?_)
  ·have hi0:i = 0:=by simp at h;omega
   subst hi0
   refine iIa (j:=0) (hs.ext h2) (by omega) (by simp) fun p hp=>?_
   have hp:w2.cell? p = some va:=hp
   refine iLd hp ?_
   refine iRet (v:=.bool (decide (20 < f.size))) ?_ fun w3 x3=>?_
   ·apply JV;unfold sE
    refine iLenK (ha.ext h2) (iLt ⟨by congr 1;exact decide_eq_decide.2 (by omega),Ext.refl _⟩)
   ·refine iCnd (fun h3=>?_) (fun h3=>?_)
    ·exact ⟨h2.trans x3,_,rfl,by rw [h3];rfl⟩
    ·refine iAdd (by omega) ?_
     exact hKn 1 _ ⟨Nat.le_refl _,h2.trans x3,fun _=>of_decide_eq_false h3⟩ (by omega)
  ·have hi1:i = 1:=by simp at h;omega
   exact ⟨h2,-1,rfl,by rw [decide_eq_false (hno hi1)];rfl⟩
 ·rintro r w1 ⟨h1,z,rfl,hz⟩
  refine iLe ?_
  rw [hz]
  exact ⟨by first | trivial | rfl,h1⟩
theorem LJ {v:Value} {f:Fm} {w:World} (hs:FmS w v f) (hg:f.good) (hp:f.plain = true) (hn:f.size ≤ 20):Ret Tryz.prog xL #[v] w (.bool (vF [] f)):=by
 apply N9;unfold xM
 refine iRet (bD hs hg (by omega)) fun w1 x1=>?_
 have h:SqT (setT []) f.body:=⟨fun t ht=>by simp [setT] at ht,GT.of hg hp,by
  have:=M5 hp hn
  rw [cL hg]
  show 0 + _ ≤ _
  omega⟩
 refine iRet (xU (L:=[]) (Ow.nil _ _ _) h (by simp)) fun w2 x2=>⟨?_,x1.trans x2⟩
 rw [show setT [] = [] from rfl,vB_vF hg]
theorem IA {t:Str} (hg:goodT t = true) (w:World):Ret Tryz.prog sH #[sv t] w (.bool (fE t)):=by
 apply KT;unfold sJ
 have hpc:pCode t = 0:=by unfold goodT at hg;rw [Bool.and_eq_true,decide_eq_true_eq] at hg;exact hg.1
 refine iCall ((bH t w).mono ?_)
 rintro v w1 ⟨x1,hv,-⟩
 have hv:FmW w.heap.size w1 v (fT t):=hv hpc
 refine iJnB (fE t) w1 (fun J hJ=>?_) (fun w2 x2=>fun _=>⟨by first | trivial | rfl,x1.trans x2⟩)
 refine iRet (pQ hv.sl) fun w4 x4=>?_
 unfold fE at hJ
 refine iCnd (fun hp=>?_) (fun hp=>?_)
 ·rw [hp,Bool.true_and] at hJ
  refine iBs1 rfl hv.cell fun b w5 hb x5 hB=>?_
  have y:=x4.trans x5
  refine iRet (KO (Sl.ofBlk (n:=1) hB rfl (by decide)) (hv.sl.ext y)) fun w6 x6=>?_
  refine iCndP (fun hs=>?_) (fun hs=>?_)
  ·rw [decide_eq_true hs,Bool.true_and] at hJ
   refine iRet (LJ (hv.sl.ext (y.trans x6)) (EL t) hp hs) fun w7 x7=>hJ _ ((y.trans x6).trans x7)
  ·rw [decide_eq_false hs,Bool.false_and] at hJ
   exact hJ _ (y.trans x6)
 ·rw [hp,Bool.false_and] at hJ
  exact hJ _ x4
theorem OD {v:Value} {f:Fm} {w:World} (hs:FmS w v f):Ret Tryz.prog zQ #[v] w (.bool f.plain):=by
 apply OW;unfold zR
 have hln:=hs.len
 have hkl:=f.ks_len
 refine iLp (fun i:Nat=>[.int .i64 (i:Int)]) (fun i w'=>i ≤ f.size ∧ Ext w w' ∧ ∀ j (hj:j < f.ks.length),j < i → modal f.ks[j] = false) (fun i=>f.size - i) 0 rfl ⟨Nat.zero_le _,Ext.refl _,fun j hj h=>by omega⟩ ?_
 rintro i w2 Kn ⟨hi,h2,hno⟩ hKn
 intro _
 simp only [gx]
 refine iLenK (hs.ext h2) ?_
 refine iLt ?_
 refine iCndP (fun h=>?_) (fun h=>?_)
 ·have hil:i < f.ks.length:=by omega
  have hat:=VZ hil
  rw [← f.cells_ks] at hat
  refine iJnB (modal f.ks[i]) w2 (fun J hJ=>?_) (fun w4 x4=>?_)
  ·refine iFld (j:=i) (hs.ext h2) rfl (by omega) (by decide) hat.1 ?_
   unfold modal at hJ
   refine iEq (iCndP (fun h5=>?_) (fun h5=>?_))
   ·rw [decide_eq_true (show f.ks[i].1 = 5 by omega),Bool.true_or] at hJ
    exact hJ _ (Ext.refl _)
   ·rw [decide_eq_false (show ¬ f.ks[i].1 = 5 by omega),Bool.false_or] at hJ
    refine iFld (j:=i) (hs.ext h2) rfl (by omega) (by decide) hat.1 ?_
    refine iEq ?_
    rw [show decide ((f.ks[i].1:Int) = 6) = decide (f.ks[i].1 = 6) from decide_eq_decide.2 (by omega)]
    exact hJ _ (Ext.refl _)
  ·intro _
   simp only [gx]
   refine iCnd (fun h3=>?_) (fun h3=>?_)
   ·have hp:=f.plain_ks
    rw [ZS hil h3] at hp
    exact ⟨by rw [show f.plain = false by simpa using hp.symm],h2.trans x4⟩
   ·refine iAdd (by omega) ?_
    refine hKn (i + 1) _ ⟨by omega,h2.trans x4,fun j hj hji=>?_⟩ (by omega)
    by_cases e:j = i
    ·subst e;exact h3
    ·exact hno j hj (by omega)
 ·have hp:=f.plain_ks
  rw [ZB fun j hj=>hno j hj (by omega)] at hp
  exact ⟨by rw [show f.plain = true by simpa using hp.symm],h2⟩
end Go.Proofs.YteifjhpddhppcaaGreatDoor

namespace Go.Vc
abbrev addT (L:List Str) (t:Str):List Str:=setT (L ++ [t])
theorem fB {L:List Str} {t u:Str}:u ∈ addT L t ↔ u ∈ L ∨ u = t:=by
 rw [fX,List.mem_append,List.mem_singleton]
theorem LA {L:List Str} {x:Fm} (hx:x.good) {M:KM} {w:M.W}:M.fs ((addT L x.body).map fT) w ↔ M.f x w ∧ M.fs (L.map fT) w:=by
 refine aZ M w fun u=>?_
 simp only [List.mem_map,fB]
 constructor
 ·rintro ⟨t,h | rfl,rfl⟩
  ·exact .inr ⟨t,h,rfl⟩
  ·exact .inl (aF hx)
 ·rintro (rfl | ⟨t,h,rfl⟩)
  ·exact ⟨_,.inr rfl,aF hx⟩
  ·exact ⟨t,.inl h,rfl⟩
theorem mem_f {L:List Str} {x:Fm} (hx:x.good) {M:KM} {w:M.W} (h:M.fs (L.map fT) w) (hm:x.body ∈ L):M.f x w:=by
 have:=h (fT x.body) (List.mem_map.2 ⟨_,hm,rfl⟩)
 rwa [aF hx] at this
end Go.Vc

namespace Go.Vc
/-! ### Parts, and what a left side lacks of them -/
def subF:Fm → List Fm
 | .and x y=>.and x y :: (subF x ++ subF y)
 | .or x y=>.or x y :: (subF x ++ subF y)
 | .imp x y=>.imp x y :: (subF x ++ subF y)
 | a=>[a]
theorem lF (a:Fm):a ∈ subF a:=by cases a <;> simp [subF]
theorem lJ {u:Fm}:∀ {c:Fm},u ∈ subF c → ∀ x ∈ subF u,x ∈ subF c:=by
 intro c
 induction c with
 | var _=>intro h x hx;simp only [subF,List.mem_singleton] at h;subst h;exact hx
 | fls=>intro h x hx;simp only [subF,List.mem_singleton] at h;subst h;exact hx
 | box _ _=>intro h x hx;simp only [subF,List.mem_singleton] at h;subst h;exact hx
 | dia _ _=>intro h x hx;simp only [subF,List.mem_singleton] at h;subst h;exact hx
 | and a b ia ib=>
  intro h x hx
  rw [subF,List.mem_cons,List.mem_append] at h
  rcases h with rfl | h | h
  ·exact hx
  ·rw [subF];exact List.mem_cons_of_mem _ (List.mem_append_left _ (ia h x hx))
  ·rw [subF];exact List.mem_cons_of_mem _ (List.mem_append_right _ (ib h x hx))
 | or a b ia ib=>
  intro h x hx
  rw [subF,List.mem_cons,List.mem_append] at h
  rcases h with rfl | h | h
  ·exact hx
  ·rw [subF];exact List.mem_cons_of_mem _ (List.mem_append_left _ (ia h x hx))
  ·rw [subF];exact List.mem_cons_of_mem _ (List.mem_append_right _ (ib h x hx))
 | imp a b ia ib=>
  intro h x hx
  rw [subF,List.mem_cons,List.mem_append] at h
  rcases h with rfl | h | h
  ·exact hx
  ·rw [subF];exact List.mem_cons_of_mem _ (List.mem_append_left _ (ia h x hx))
  ·rw [subF];exact List.mem_cons_of_mem _ (List.mem_append_right _ (ib h x hx))
theorem D5 {c x y:Fm} (h:Fm.and x y ∈ subF c):x ∈ subF c ∧ y ∈ subF c:=⟨lJ h x (by rw [subF];simp [lF]),lJ h y (by rw [subF];simp [lF])⟩
theorem PI {c x y:Fm} (h:Fm.or x y ∈ subF c):x ∈ subF c ∧ y ∈ subF c:=⟨lJ h x (by rw [subF];simp [lF]),lJ h y (by rw [subF];simp [lF])⟩
theorem lL {c x y:Fm} (h:Fm.imp x y ∈ subF c):x ∈ subF c ∧ y ∈ subF c:=⟨lJ h x (by rw [subF];simp [lF]),lJ h y (by rw [subF];simp [lF])⟩
theorem lD:∀ {c u:Fm},u ∈ subF c → u.size ≤ c.size:=by
 intro c
 induction c with
 | var _=>intro u h;simp only [subF,List.mem_singleton] at h;subst h;exact Nat.le_refl _
 | fls=>intro u h;simp only [subF,List.mem_singleton] at h;subst h;exact Nat.le_refl _
 | box _ _=>intro u h;simp only [subF,List.mem_singleton] at h;subst h;exact Nat.le_refl _
 | dia _ _=>intro u h;simp only [subF,List.mem_singleton] at h;subst h;exact Nat.le_refl _
 | and a b ia ib=>
  intro u h
  rw [subF,List.mem_cons,List.mem_append] at h
  rcases h with rfl | h | h
  ·exact Nat.le_refl _
  ·have:=ia h;simp only [Fm.size];omega
  ·have:=ib h;simp only [Fm.size];omega
 | or a b ia ib=>
  intro u h
  rw [subF,List.mem_cons,List.mem_append] at h
  rcases h with rfl | h | h
  ·exact Nat.le_refl _
  ·have:=ia h;simp only [Fm.size];omega
  ·have:=ib h;simp only [Fm.size];omega
 | imp a b ia ib=>
  intro u h
  rw [subF,List.mem_cons,List.mem_append] at h
  rcases h with rfl | h | h
  ·exact Nat.le_refl _
  ·have:=ia h;simp only [Fm.size];omega
  ·have:=ib h;simp only [Fm.size];omega
theorem WM:∀ c:Fm,((subF c).map Fm.w2).sum ≤ 2 * c.w2:=by
 intro c
 induction c with
 | var _=>simp [subF];omega
 | fls=>simp [subF];omega
 | box _ _=>simp [subF];omega
 | dia _ _=>simp [subF];omega
 | and a b ia ib=>
  have h:=oA a.w2_ge b.w2_ge
  have e:=VP a b
  simp only [subF,List.map_cons,List.sum_cons,List.map_append,List.sum_append]
  generalize a.w2 * b.w2 = p at *
  omega
 | or a b ia ib=>
  have h:=oA a.w2_ge b.w2_ge
  have e:=w2_or a b
  simp only [subF,List.map_cons,List.sum_cons,List.map_append,List.sum_append]
  generalize a.w2 * b.w2 = p at *
  omega
 | imp a b ia ib=>
  have h:=oA a.w2_ge b.w2_ge
  have e:=jD a b
  simp only [subF,List.map_cons,List.sum_cons,List.map_append,List.sum_append]
  generalize a.w2 * b.w2 = p at *
  omega
theorem R9 {f:Fm → Nat}:∀ {M S:List Fm},M.Nodup → (∀ x ∈ M,x ∈ S) → (M.map f).sum ≤ (S.map f).sum
 | [],_,_,_=>Nat.zero_le _
 | x :: M,S,hn,hs=>by
  obtain ⟨A,B,rfl⟩:=List.append_of_mem (hs x List.mem_cons_self)
  obtain ⟨h1,h2⟩:=List.nodup_cons.1 hn
  have ih:=R9 (f:=f) (M:=M) (S:=A ++ B) h2 fun y hy=>by
   have:=hs y (List.mem_cons_of_mem _ hy)
   rw [List.mem_append,List.mem_cons] at this
   rcases this with h | h | h
   ·exact List.mem_append_left _ h
   ·subst h;exact absurd hy h1
   ·exact List.mem_append_right _ h
  simp only [List.map_cons,List.sum_cons,List.map_append,List.sum_append] at *
  omega
theorem VU:∀ {a:Fm},a.plain = true → 2 * a.wt + 1 ≤ 3 * a.size:=by
 intro a
 induction a with
 | var _=>intro _;simp [Fm.wt,Fm.size]
 | fls=>intro _;simp [Fm.wt,Fm.size]
 | box _ _=>intro h;cases h
 | dia _ _=>intro h;cases h
 | and a b ia ib=>intro h;have h:=cC h;have:=ia h.1;have:=ib h.2;simp only [Fm.wt,Fm.size];omega
 | or a b ia ib=>intro h;have h:=e6 h;have:=ia h.1;have:=ib h.2;simp only [Fm.wt,Fm.size];omega
 | imp a b ia ib=>intro h;have h:=aQ h;have:=ia h.1;have:=ib h.2;simp only [Fm.wt,Fm.size];omega
theorem JK {α:Type} {p q:α → Bool}:∀ {l:List α},(∀ x ∈ l,q x = true → p x = true) → (l.filter q).length ≤ (l.filter p).length
 | [],_=>Nat.le_refl _
 | x :: l,h=>by
  have ih:=JK (p:=p) (q:=q) (l:=l) fun y hy=>h y (List.mem_cons_of_mem _ hy)
  rw [List.filter_cons,List.filter_cons]
  by_cases hq:q x = true
  ·rw [if_pos hq,if_pos (h x List.mem_cons_self hq),List.length_cons,List.length_cons];omega
  ·rw [if_neg hq]
   split
   ·rw [List.length_cons];omega
   ·exact ih
theorem TS {α:Type} {p q:α → Bool}:∀ {l:List α} {u:α},(∀ x ∈ l,q x = true → p x = true) → u ∈ l → p u = true → q u = false → (l.filter q).length < (l.filter p).length
 | [],_,_,hu,_,_=>by cases hu
 | x :: l,u,h,hu,hp,hq=>by
  have hl:∀ y ∈ l,q y = true → p y = true:=fun y hy=>h y (List.mem_cons_of_mem _ hy)
  rw [List.filter_cons,List.filter_cons]
  rcases List.mem_cons.1 hu with e | hu
  ·subst e
   rw [if_neg (by rw [hq];simp),if_pos hp,List.length_cons]
   have:=JK hl
   omega
  ·have ih:=TS hl hu hp hq
   by_cases hx:q x = true
   ·rw [if_pos hx,if_pos (h x List.mem_cons_self hx),List.length_cons,List.length_cons];omega
   ·rw [if_neg hx]
    split
    ·rw [List.length_cons];omega
    ·exact ih
def cnt (c:Fm) (L:List Str):Nat:=((subF c).filter fun u=>!decide (u.body ∈ L)).length
theorem aB3 {c:Fm} {L L':List Str} (h:∀ t ∈ L,t ∈ L'):cnt c L' ≤ cnt c L:=JK fun x _ hx=>by
 simp only [Bool.not_eq_true',decide_eq_false_iff_not] at *
 exact fun hm=>hx (h _ hm)
theorem PT {c u:Fm} {L L':List Str} (h:∀ t ∈ L,t ∈ L') (hu:u ∈ subF c) (h1:¬ u.body ∈ L) (h2:u.body ∈ L'):cnt c L' < cnt c L:=TS (u:=u) (fun x _ hx=>by
 simp only [Bool.not_eq_true',decide_eq_false_iff_not] at *
 exact fun hm=>hx (h _ hm)) hu (by simp [h1]) (by simp [h2])
/-! ### Moves -/
def findT (p:Str → Bool) (L:List Str):Str:=(L.find? p).getD []
theorem FW {p:Str → Bool} {L:List Str} (h:¬ findT p L = []):findT p L ∈ L ∧ p (findT p L) = true:=by
 unfold findT at *
 cases hf:L.find? p with
 | none=>rw [hf] at h;exact absurd rfl h
 | some t=>
  rw [hf] at h
  exact ⟨List.mem_of_find?_eq_some hf,List.find?_some hf⟩
theorem GT.ne {t:Str} (h:GT t):¬ t = []:=by
 obtain ⟨a,_,hp,rfl⟩:=h
 intro e
 cases a with
 | imp x y=>
  simp only [Fm.body] at e
  split at e
  ·split at e <;> simp at e
  ·simp at e
 | box _=>cases hp
 | dia _=>cases hp
 | _=>simp [Fm.body] at e
theorem FD {p:Str → Bool} {L:List Str} (hg:∀ t ∈ L,GT t) (h:findT p L = []):∀ t ∈ L,p t = false:=by
 unfold findT at h
 cases hf:L.find? p with
 | none=>intro t ht;have:=List.find?_eq_none.1 hf t ht;simpa using this
 | some t=>
  rw [hf] at h
  exact absurd h (hg t (List.mem_of_find?_eq_some hf)).ne
def hasB (L:List Str) (x:Fm):Bool:=decide (x.body ∈ L)
def fAnd (L:List Str) (t:Str):Bool:=match fT t with | .and x y=>!(hasB L x && hasB L y) | _=>false
def fOr (L:List Str) (t:Str):Bool:=match fT t with | .or x y=>!hasB L x && !hasB L y | _=>false
theorem YS {L L':List Str} {r:Str} (h:∀ t ∈ L,t ∈ L') (k:VT L r):VT L' r:=fun M w hw=>k M w fun a ha=>by
 obtain ⟨t,ht,rfl⟩:=List.mem_map.1 ha
 exact hw _ (List.mem_map.2 ⟨t,h t ht,rfl⟩)
end Go.Vc

namespace Go.Vc
structure SmT (t:Str):Prop where
 gt:GT t
 size:(fT t).size ≤ 20
theorem SmT.len {t:Str} (h:SmT t):t.length ≤ 200:=by
 have h1:=KC h.gt
 have h2:=VU h.gt.at.2.1
 have:=h.size
 omega
theorem SmT.code {t:Str} (h:SmT t):pCode t = 0:=by
 obtain ⟨g,p,b⟩:=h.gt.at
 have hl:=h.len
 have hs:=h.size
 have e:rd t = (fT t,([],false)):=by
  have:=ZM g
  rw [b] at this;exact this
 unfold pCode
 rw [if_neg (by omega),if_pos (by unfold rdOk;rw [e];rfl)]
 rw [show (rd t).1 = fT t from rfl,if_neg (by omega)]
theorem SmT.good {t:Str} (h:SmT t):goodT t = true:=by
 unfold goodT
 rw [decide_eq_true h.code,decide_eq_true (show (rd t).1.body = t from h.gt.at.2.2)];rfl
theorem SmT.of {a:Fm} (hg:a.good) (hp:a.plain = true) (hs:a.size ≤ 20):SmT a.body:=⟨GT.of hg hp,by rw [aF hg];exact hs⟩
theorem aB2 {L:List Str} (h:Inc L):L.Nodup:=h.imp fun {a b} hab e=>by subst e;rw [cV] at hab;cases hab
structure PL (c:Fm) (L:List Str):Prop where
 inc:Inc L
 left:∀ t ∈ L,GT t ∧ fT t ∈ subF c
theorem PL.sum {c:Fm} {L:List Str} (h:PL c L):mT L ≤ 2 * c.w2:=by
 have h1:(L.map fT).Nodup:=by
  refine List.pairwise_map.2 ((aB2 h.inc).imp_of_mem fun {a b} ha hb hab e=>?_)
  exact hab ((h.left a ha).1.inj (h.left b hb).1 e)
 have h2:=R9 (f:=Fm.w2) h1 (S:=subF c) fun x hx=>by
  obtain ⟨t,ht,rfl⟩:=List.mem_map.1 hx
  exact (h.left t ht).2
 rw [List.map_map] at h2
 have h3:=WM c
 have:mT L = (L.map (Fm.w2 ∘ fT)).sum:=rfl
 omega
theorem PL.add {c:Fm} {L:List Str} (h:PL c L) {x:Fm} (hg:x.good) (hp:x.plain = true) (hx:x ∈ subF c):PL c (addT L x.body):=⟨F0 _,fun t ht=>by
 rcases fB.1 ht with ht | rfl
 ·exact h.left t ht
 ·exact ⟨GT.of hg hp,by rw [aF hg];exact hx⟩⟩
theorem w2_20 {c:Fm} (hp:c.plain = true) (hs:c.size ≤ 20):c.w2 ≤ 536870912:=by
 have:=VU hp
 exact Nat.le_trans (Nat.pow_le_pow_right (by omega) (show c.wt ≤ 29 by omega)) (by decide)
theorem aE1 {c:Fm} {u:Fm} (hu:u ∈ subF c):u.w2 ≤ 2 * c.w2:=by
 have h:=R9 (f:=Fm.w2) (M:=[u]) (S:=subF c) (by simp) (fun x hx=>by rw [List.mem_singleton.1 hx];exact hu)
 have:=WM c
 simp at h
 omega
theorem PL.sq {c:Fm} {L:List Str} {r:Str} (h:PL c L) (hp:c.plain = true) (hs:c.size ≤ 20) (hr:GT r ∧ fT r ∈ subF c):SqT L r:=by
 refine ⟨fun t ht=>(h.left t ht).1,hr.1,?_⟩
 have h1:=h.sum
 have h2:wT r ≤ 2 * c.w2:=aE1 hr.2
 have h3:=w2_20 hp hs
 omega
theorem PL.sm {c:Fm} {L:List Str} (h:PL c L) (hs:c.size ≤ 20):∀ t ∈ L,SmT t:=fun t ht=>⟨(h.left t ht).1,Nat.le_trans (lD (h.left t ht).2) hs⟩
theorem PL.len {c:Fm} {L:List Str} (h:PL c L) (hp:c.plain = true) (hs:c.size ≤ 20):L.length ≤ 1000000000:=by
 have h1:=h.sum
 have h2:=XC L
 have h3:=w2_20 hp hs
 omega
theorem aEU (L:List Str) (r:Str):vB (setT L) r = vB L r:=by
 rw [Bool.eq_iff_iff,bY,bY]
 exact ⟨YS fun t ht=>fX.1 ht,YS fun t ht=>fX.2 ht⟩
/-! ### Proofs -/
end Go.Vc

namespace Go.Proofs.YteifjhpddhppcaaGreatDoor
open Go.Vc
theorem qX {t:Str} (h:SmT t) (w:World):Ret Tryz.prog sP #[sv t] w (.bool true):=by
 apply I6;unfold sY
 refine iJnB true w (fun J hJ=>?_) (fun w2 x2=>fun _=>⟨by first | trivial | rfl,x2⟩)
 refine iRet (DF t w) fun w3 x3=>?_
 rw [h.good]
 refine iCndT rfl ?_
 refine iCall ((bH t w3).mono ?_)
 rintro v w4 ⟨x4,hv,-⟩
 have hv:FmW w3.heap.size w4 v (fT t):=hv h.code
 refine iRet (pQ hv.sl) fun w5 x5=>?_
 rw [h.gt.at.2.1]
 exact hJ _ ((x3.trans x4).trans x5)
theorem TD {v:Value} {L:List Str} {w:World} (hs:SlT w v L) (hi:Inc L) (hl:∀ t ∈ L,SmT t):Ret Tryz.prog G9 #[v] w (.bool true):=by
 have hln:=hs.len
 rw [bG] at hln
 apply UN;unfold G7
 refine bO hs ?_
 refine iLp (fun i:Nat=>[.int .i64 (i:Int)]) (fun i w'=>i ≤ L.length ∧ Ext w w') (fun i=>L.length - i) 0 rfl ⟨Nat.zero_le _,Ext.refl _⟩ ?_
 rintro i w2 Kn ⟨hi2,x2⟩ hKn
 intro _
 simp only [gx]
 refine iLt (iCndP (fun h=>?_) (fun h=>⟨by first | trivial | rfl,x2⟩))
 have hil:i < L.length:=by omega
 refine iIaG (hs.ext x2) rfl hil ?_
 refine iJnB false w2 (fun J hJ=>?_) (fun w4 x4=>?_)
 ·refine iRet (qX (hl _ (by rw [gt_eq hil];exact List.getElem_mem _)) w2) fun w5 x5=>iNot (iCndF rfl ?_)
  refine iLt (iCndP (fun h0=>?_) (fun _=>hJ _ x5))
  have hi0:0 < i:=by omega
  refine iSub (by omega) ?_
  refine iIaG (j:=i - 1) (hs.ext (x2.trans x5)) (by omega) (by omega) ?_
  refine iGeT ?_
  have:=List.pairwise_iff_getElem.1 hi (i - 1) i (by omega) hil (by omega)
  rw [← gt_eq (show i - 1 < L.length by omega),← gt_eq hil] at this
  rw [this]
  exact hJ _ x5
 ·intro _
  simp only [gx]
  refine iCndF rfl (iAdd (by omega) ?_)
  exact hKn (i + 1) _ ⟨by omega,x2.trans x4⟩ (by omega)
theorem KK {v:Value} {L:List Str} {w:World} (hs:SlT w v L) (hi:Inc L) (hl:∀ t ∈ L,SmT t) (h12:L.length ≤ 12):Ret Tryz.prog uS #[v] w (.bool true):=by
 apply LF;unfold uM
 refine iJnB true w (fun J hJ=>?_) (fun w2 x2=>fun _=>⟨by first | trivial | rfl,x2⟩)
 refine bO hs ?_
 refine iLe (iCndT (decide_eq_true (by omega)) ?_)
 exact iRet (TD hs hi hl) fun w3 x3=>hJ _ x3
theorem vI {v:Value} {L:List Str} {r:Str} {w:World} (hs:SlT w v L) (hi:Inc L) (hl:∀ t ∈ L,SmT t) (h12:L.length ≤ 12) (hr:SmT r):Ret Tryz.prog yO #[v,sv r] w (.bool true):=by
 apply OO;unfold xW
 refine iJnB true w (fun J hJ=>?_) (fun w2 x2=>fun _=>⟨by first | trivial | rfl,x2⟩)
 refine iRet (KK hs hi hl h12) fun w3 x3=>iCndT rfl ?_
 exact iRet (qX hr w3) fun w4 x4=>hJ _ (x3.trans x4)
theorem zJ {v:Value} {L:List Str} {w:World} (hs:SlT w v L) (hl:∀ t ∈ L,SmT t) (hL:L.length ≤ 1000):Ret Tryz.prog EE #[v] w (.int .i64 (((L.map fun t=>(fT t).size).sum:Nat):Int)):=by
 have hb:∀ k,((L.take k).map fun t=>(fT t).size).sum ≤ 20 * k:=fun k=>by
  induction k with
  | zero=>simp
  | succ k ih=>
   rcases Nat.lt_or_ge k L.length with h | h
   ·rw [List.take_succ_eq_append_getElem h,List.map_append,List.sum_append]
    have:=(hl _ (List.getElem_mem h)).size
    simp only [List.map_cons,List.map_nil,List.sum_cons,List.sum_nil,Nat.add_zero];omega
   ·rw [List.take_of_length_le (by omega)]
    rw [List.take_of_length_le h] at ih
    omega
 apply TF;unfold DO
 refine bO hs ?_
 refine iLp (fun i:Nat=>[.int .i64 ((((L.take i).map fun t=>(fT t).size).sum:Nat):Int),.int .i64 (i:Int)]) (fun i w'=>i ≤ L.length ∧ Ext w w') (fun i=>L.length - i) 0 rfl ⟨Nat.zero_le _,Ext.refl _⟩ ?_
 rintro i w2 Kn ⟨hi,x2⟩ hKn
 intro _
 simp only [gx]
 refine iLt (iCndP (fun h=>?_) (fun h=>?_))
 ·have hil:i < L.length:=by omega
  have hm:=hl _ (List.getElem_mem hil)
  rw [← gt_eq hil] at hm
  refine iIaG (hs.ext x2) rfl hil ?_
  refine iCall ((bH (gt L i) w2).mono ?_)
  rintro u w3 ⟨x3,hv,-⟩
  have hv:FmW w2.heap.size w3 u (fT (gt L i)):=hv hm.code
  refine iLenK hv.sl ?_
  have:=hb i
  have:=hm.size
  refine iAdd (by omega) (iAdd (by omega) ?_)
  have e:((L.take (i + 1)).map fun t=>(fT t).size).sum = ((L.take i).map fun t=>(fT t).size).sum + (fT (gt L i)).size:=by
   rw [List.take_succ_eq_append_getElem hil,List.map_append,List.sum_append,← gt_eq hil];simp
  have:=hKn (i + 1) w3 ⟨by omega,x2.trans x3⟩ (by omega)
  rw [e] at this
  exact this
 ·have:i = L.length:=by omega
  subst this
  rw [List.take_length]
  exact ⟨by first | trivial | rfl,x2⟩
theorem LP {v:Value} {r:Str} {w:World} (hs:SlT w v []) (hr:SmT r):Ret Tryz.prog AZ #[v,sv r] w (.int .i64 0):=by
 apply P4;unfold A9
 refine iRet (vI hs List.Pairwise.nil (fun t ht=>by cases ht) (by simp) hr) fun w1 x1=>iNot (iCndF rfl ?_)
 refine iBs1 rfl rfl fun b w2 hb x2 hB=>?_
 have hone:SlT w2 (.slice (some ⟨b,0,none⟩) 1 1) [r]:=Sl.ofBlk (n:=1) hB rfl (by decide)
 refine iRet (v:=.bool true) ?_ fun w3 x3=>iNot (iCndF rfl ⟨rfl,(x1.trans x2).trans x3⟩)
 apply IY;unfold sS
 have hsz:=hr.size
 refine iRet (zJ (hs.ext (x1.trans x2)) (fun t ht=>by cases ht) (by simp)) fun w4 x4=>?_
 refine iRet (zJ (hone.ext x4) (fun t ht=>by rw [List.mem_singleton.1 ht];exact hr) (by simp)) fun w5 x5=>?_
 simp only [List.map_nil,List.sum_nil,List.map_cons,List.sum_cons,Nat.add_zero]
 refine iAdd (by omega) (iLe ⟨?_,x4.trans x5⟩)
 rw [decide_eq_true (by omega)]
theorem kM {db mb:Nat} {v:Value} {L:List Str} {r:Str} {w:World} (hD:Dec w db mb) (hv:TxW 0 w v L) (h:SqT (setT L) r) (hl:L.length ≤ 549755813888):Cal Tryz.prog gI #[dp db,v,sv r] w (DQ KnQ mb w (vB L r)):=by
 apply l8;unfold gJ
 refine iCall ((mJ (A:=L) (B:=[]) hv.sl (Sl.nil w) hv.cell rfl (by simp only [List.length_nil];omega)).mono ?_)
 rintro u w2 ⟨x2,ho⟩
 rw [List.append_nil] at ho
 refine dD ho.cell rfl ?_
 refine iCall ((ok_Pv _ _ _ h (Nat.lt_succ_self _) w2 u (hD.ext x2) (ho.mono (Nat.zero_le _))).mono ?_)
 rintro u w3 h3
 rw [aEU] at h3
 exact h3.ext x2 (Ext.refl _)
end Go.Proofs.YteifjhpddhppcaaGreatDoor

namespace Go.Vc
end Go.Vc
namespace Go.Proofs.YteifjhpddhppcaaGreatDoor
open Go.Vc
end Go.Proofs.YteifjhpddhppcaaGreatDoor

namespace Go.Vc
theorem MapB.chB {Q:Str → Value → Prop} {S:Nat → Prop} {w w':World} {b:Nat} (h:MapB Q w b) (hc:Ch S w w') (hn:¬ S b):MapB Q w' b:=by
 obtain ⟨es,clock,h1,h2⟩:=h
 have hlt:b < w.heap.size:=by
  rw [Array.getElem?_eq_some_iff] at h1;exact h1.1
 exact ⟨es,clock,by rw [hc.block b hlt hn];exact h1,h2⟩
end Go.Vc
namespace Go.Proofs.YteifjhpddhppcaaGreatDoor
open Go.Vc
end Go.Proofs.YteifjhpddhppcaaGreatDoor

namespace Go.Vc
end Go.Vc
namespace Go.Proofs.YteifjhpddhppcaaGreatDoor
open Go.Vc
theorem mB {mb:Nat} {v fv:Value} {L:List Str} {r:Str} {p:Str → Bool} (hL:∀ t ∈ L,SmT t) (hno:∀ t ∈ L,(fT t).kids.length ≠ 2 → p t = false) {w:World} (hm:MapB KnQ w mb) (hv:TxW 0 w v L)
  (hf:∀ t ∈ L,∀ x y,(fT t).kids = [x,y] → ∀ w',MapB KnQ w' mb → Ch (fun c=>c = mb) w w' → ∀ va,FmS w' va (fT t) → callV Tryz.prog fv [va,.bool (hasB L x),.bool (hasB L y)] w' (DQ KnQ mb w' (p t))):
  Cal Tryz.prog xI #[.agg #[v,sv r],fv] w fun u w'=>u = sv (findT p L) ∧ MapB KnQ w' mb ∧ Ch (fun c=>c = mb) w w':=by
 have hln:=hv.sl.len
 rw [bG] at hln
 apply OA;unfold xA
 refine iNew2 fun b2 w1 hb2 x1 hB2=>?_
 refine iFa (iLdB hB2 (i:=0) (v:=v) rfl ?_)
 have hm1:=hm.ext x1
 have hv1:=hv.ext x1
 refine bO hv1.sl ?_
 refine iLp (fun i:Nat=>[.int .i64 (i:Int)]) (fun i w'=>i ≤ L.length ∧ MapB KnQ w' mb ∧ Ch (fun c=>c = mb) w1 w' ∧ ∀ j,j < i → p (gt L j) = false) (fun i=>L.length - i) 0 rfl ⟨Nat.zero_le _,hm1,(Ext.refl _).ch,fun j hj=>absurd hj (Nat.not_lt_zero _)⟩ ?_
 rintro i w3 Kn ⟨hi,hm3,hc3,hno3⟩ hKn
 intro _
 simp only [gx]
 have c03:Ch (fun c=>c = mb) w w3:=cQ x1 hc3
 refine iLt (iCndP (fun h=>?_) (fun h=>?_))
 ·have hil:i < L.length:=by omega
  have hmem:gt L i ∈ L:=by rw [gt_eq hil];exact List.getElem_mem _
  have hsm:=hL _ hmem
  have hv3:=TxW.tr hv1 hm1 hc3
  have hB3:=hB2.ch hc3 (hm1.ne_blk hB2)
  refine iIaG hv3.sl rfl hil ?_
  refine iCall ((bH (gt L i) w3).mono ?_)
  rintro va w4 ⟨x4,hva,-⟩
  have hva:FmW w3.heap.size w4 va (fT (gt L i)):=hva hsm.code
  have hs4:FmS w4 va (fT (gt L i)):=hva.sl
  have hm4:=hm3.ext x4
  have hv4:=hv3.ext x4
  have hB4:=hB3.ext x4
  have hgood:=hsm.gt.at.1
  have hsz:=hsm.size
  have hpos:=(fT (gt L i)).size_pos
  have hi3:=hno _ hmem
  have hf3:=hf _ hmem
  generalize hr:gt L i = t at *
  refine iJnX (fun xs w'=>∃ q,xs = [.bool q] ∧ q = p t ∧ MapB KnQ w' mb ∧ Ch (fun c=>c = mb) w4 w') (fun J hJ=>?_) ?_
  ·refine iFld (f:=0) (j:=0) hs4 rfl hpos (by decide) (aP hs4).1 ?_
   refine iRetQ (fun w' _=>jY (fT t).kind w') ?_
   rw [(fT t).arity_kids]
   refine iEq (iCndP (fun h2=>?_) (fun h2=>?_))
   ·obtain ⟨x,y,hk⟩:∃ x y,(fT t).kids = [x,y]:=by
     have h2:(fT t).kids.length = 2:=by omega
     match (fT t).kids,h2 with
     | [x,y],_=>exact ⟨x,y,rfl⟩
    have hgx:x.good ∧ y.good ∧ x.size ≤ 20 ∧ y.size ≤ 20:=by
     have:=(fT t).size_kids
     rw [hk] at this
     simp [sizeL] at this
     exact ⟨N1 hgood x (by rw [hk];simp),N1 hgood y (by rw [hk];simp),by omega,by omega⟩
    refine iFa (iLdB hB4 (i:=0) (v:=v) rfl ?_)
    refine iFa (iLdB hB4 (i:=0) (v:=v) rfl ?_)
    intro w7 x7
    refine iCall ((aO (g:=x) (gs:=[y]) (SlK.ext hs4 x7) hk (by omega)).mono ?_)
    rintro vx w8 ⟨x8,hx⟩
    refine ⟨x8,?_⟩
    refine iRetQ (fun w' x'=>bD (SlK.ext hx x') hgx.1 (by omega)) ?_
    have x48:=x7.trans x8
    refine iRetQ (fun w' x'=>bP (hv4.ext (x48.trans x')).sl) ?_
    intro w9 x9
    have x49:=x48.trans x9
    refine iCall ((aU (g:=x) (h:=y) (SlK.ext hs4 x49) hk (by omega)).mono ?_)
    rintro vy w10 ⟨x10,hy⟩
    refine ⟨x10,?_⟩
    refine iRetQ (fun w' x'=>bD (SlK.ext hy x') hgx.2.1 (by omega)) ?_
    have x410:=x49.trans x10
    refine iRetQ (fun w' x'=>bP (hv4.ext (x410.trans x')).sl) ?_
    intro w11 x11
    have x411:=x410.trans x11
    refine (hf3 x y hk w11 (hm4.ext x411) (c03.trans ((x4.trans x411).ch (S:=fun c=>c = mb)) fun _ e=>.inl e) va (SlK.ext hs4 x411)).mono ?_
    rintro _ w12 ⟨rfl,hm12,hc12⟩
    intro w13 x13
    exact hJ _ _ ⟨_,rfl,rfl,hm12.ext x13,(cQ x411 hc12).trans (x13.ch (S:=fun c=>c = mb)) fun _ e=>.inl e⟩
   ·have hpf:=hi3 (by omega)
    intro w14 x14 w15 x15 w16 x16 w17 x17
    have xx:=((x14.trans x15).trans x16).trans x17
    exact hJ _ _ ⟨false,rfl,hpf.symm,hm4.ext xx,xx.ch⟩
  ·rintro _ w6 ⟨q,rfl,hq,hm6,hc6⟩
   have c36:Ch (fun c=>c = mb) w3 w6:=cQ x4 hc6
   intro _
   simp only [gx]
   refine iCnd (fun hp=>?_) (fun hp=>?_)
   ·refine ⟨?_,hm6,c03.trans c36 fun _ e=>.inl e⟩
    have hfd:L.find? p = some t:=by
     rw [List.find?_eq_some_iff_getElem]
     refine ⟨by rw [← hq];exact hp,i,hil,by rw [← gt_eq hil];exact hr,fun j hj=>?_⟩
     rw [← gt_eq (show j < L.length by omega),hno3 j hj];rfl
    unfold findT
    rw [hfd];rfl
   ·refine iAdd (by omega) ?_
    refine hKn (i + 1) _ ⟨by omega,hm6,hc3.trans c36 fun _ e=>.inl e,fun j hj=>?_⟩ (by omega)
    by_cases e:j = i
    ·subst e;rw [hr,← hq];exact hp
    ·exact hno3 j (by omega)
 ·refine ⟨?_,hm3,c03⟩
  have hfd:L.find? p = none:=by
   rw [List.find?_eq_none]
   intro t ht
   obtain ⟨j,hj,rfl⟩:=List.getElem_of_mem ht
   rw [← gt_eq hj,hno3 j (by omega)];simp
  unfold findT
  rw [hfd];rfl
end Go.Proofs.YteifjhpddhppcaaGreatDoor

namespace Go.Vc
theorem aE4 {α:Type} [Inhabited α] {A B:List α} (hl:A.length = B.length) (h:∀ j,j < A.length → gt A j = gt B j):A = B:=List.ext_getElem hl fun j g1 g2=>by
 rw [← gt_eq g1,← gt_eq g2];exact h j g1
def jN (R:List (Value × Sq)):List Value:=R.flatMap fun x=>[x.1,sv x.2.2]
theorem aAB (A B:List (Value × Sq)):jN (A ++ B) = jN A ++ jN B:=by simp [jN]
theorem kJ:∀ {R:List (Value × Sq)} {j:Nat},j < R.length → (jN R)[j * 2 + 0]? = some (gt R j).1 ∧ (jN R)[j * 2 + 1]? = some (sv (gt R j).2.2)
 | [],j,h=>absurd h (Nat.not_lt_zero j)
 | x :: R,0,_=>⟨rfl,rfl⟩
 | x :: R,j + 1,h=>by
  have:=kJ (R:=R) (j:=j) (by simpa using h)
  rw [show jN (x :: R) = [x.1,sv x.2.2] ++ jN R by simp [jN],show (j + 1) * 2 + 0 = j * 2 + 0 + 2 by omega,show (j + 1) * 2 + 1 = j * 2 + 1 + 2 by omega,List.getElem?_append_right (by simp),List.getElem?_append_right (by simp)]
  exact this
def GsL (tg:TypeId) (lo:Nat) (tt:TypeId) (w:World) (v:Value) (G:List Sq):Prop:=∃ R:List (Value × Sq),R.map Prod.snd = G ∧ OwK 2 lo tg w v R.length (jN R) ∧ ∀ x ∈ R,Ow 0 tt w x.1 (strs x.2.1)
theorem GsL.ext {tg tt:TypeId} {lo:Nat} {w w':World} {v:Value} {G:List Sq} (h:GsL tg lo tt w v G) (x:Ext w w'):GsL tg lo tt w' v G:=by
 obtain ⟨R,h1,h2,h3⟩:=h
 exact ⟨R,h1,OwK.ext h2 x,fun y hy=>(h3 y hy).ext x⟩
theorem GsL.nil (tg tt:TypeId) (lo:Nat) (w:World):GsL tg lo tt w (.slice none 0 0) []:=⟨[],rfl,OwK.nil 2 lo _ w,fun x hx=>by cases hx⟩
theorem GsL.mono {tg tt:TypeId} {lo lo':Nat} {w:World} {v:Value} {G:List Sq} (h:GsL tg lo tt w v G) (hl:lo' ≤ lo):GsL tg lo' tt w v G:=by
 obtain ⟨R,h1,h2,h3⟩:=h
 exact ⟨R,h1,h2.mono hl,h3⟩
theorem GsL.one {tg tt:TypeId} {lo:Nat} {w:World} {b:Nat} {v:Value} {L:List Str} {r:Str} (hb:lo ≤ b) (hB:Blk tg w b [v,sv r]) (hv:Ow 0 tt w v (strs L)):GsL tg lo tt w (.slice (some ⟨b,0,none⟩) 1 1) [(L,r)]:=
 ⟨[(v,(L,r))],rfl,OwK.ofBlk (n:=1) hB hb rfl (by decide),fun x hx=>by rw [List.mem_singleton.1 hx];exact hv⟩
end Go.Vc
namespace Go.Proofs.YteifjhpddhppcaaGreatDoor
open Go.Vc
theorem NV {v v':Value} {L L':List Str} {w:World} (hs:SlT w v L) (hs':SlT w v' L'):Ret Tryz.prog hY #[v,v'] w (.bool (decide (L = L'))):=by
 have hln:=hs.len
 rw [bG] at hln
 apply p0;unfold g8
 refine bO hs (bO hs' ?_)
 refine iNe (iCndP (fun h=>?_) (fun h=>?_))
 ·exact ⟨by rw [decide_eq_false (fun e:L = L'=>h (by rw [e]))],Ext.refl _⟩
 have hl:L.length = L'.length:=by omega
 refine bO hs ?_
 refine iLp (fun i:Nat=>[.int .i64 (i:Int)]) (fun i w'=>i ≤ L.length ∧ Ext w w' ∧ ∀ j,j < i → gt L j = gt L' j) (fun i=>L.length - i) 0 rfl ⟨Nat.zero_le _,Ext.refl _,fun j hj=>absurd hj (Nat.not_lt_zero _)⟩ ?_
 rintro i w2 Kn ⟨hi,x2,he⟩ hKn
 intro _
 simp only [gx]
 refine iLt (iCndP (fun h2=>?_) (fun h2=>?_))
 ·have hil:i < L.length:=by omega
  refine iIaG (hs.ext x2) rfl hil ?_
  refine iIaG (hs'.ext x2) rfl (by omega) ?_
  refine iNeT ?_
  intro w3 x3
  refine iCndP (fun hne=>?_) (fun heq=>?_)
  ·exact ⟨by rw [decide_eq_false fun e:L = L'=>hne (by rw [e])],x2.trans x3⟩
  ·refine iAdd (by omega) ?_
   refine hKn (i + 1) _ ⟨by omega,x2.trans x3,fun j hj=>?_⟩ (by omega)
   by_cases e:j = i
   ·subst e;exact Classical.not_not.1 heq
   ·exact he j (by omega)
 ·rw [decide_eq_true (aE4 hl fun j hj=>he j (by omega))]
  exact ⟨by first | trivial | rfl,x2⟩
end Go.Proofs.YteifjhpddhppcaaGreatDoor

namespace Go.Vc

/-! ### Counting -/
theorem aAY {m a:Nat} (hm:m ≤ 62) (ha:a < 2 ^ m):popc a ≤ m:=by
 have:popc a = (memK a m).length:=by
  unfold popc mem
  have:=I9 (m:=a) (a:=m) (fun j hj=>Nat.testBit_lt_two_pow (Nat.lt_of_lt_of_le ha (Nat.pow_le_pow_right (by omega) hj))) (63 - m)
  rw [show m + (63 - m) = 63 by omega] at this
  rw [this]
 rw [this];exact rQ a m
theorem SZ {l:List Nat} {m x:Nat} (h:∀ y ∈ l,y < m) (hx:x < l.length):l.getD x 0 < m:=by
 simp only [List.getD_eq_getElem?_getD,List.getElem?_eq_getElem hx,Option.getD_some]
 exact h _ (List.getElem_mem _)
theorem aCN {l:List Nat} {x:Nat} (hx:x < l.length):l.getD x 0 ∈ l:=by
 simp only [List.getD_eq_getElem?_getD,List.getElem?_eq_getElem hx,Option.getD_some]
 exact List.getElem_mem _
theorem VV (n i:Nat):(2 ^ n - 1).testBit i = decide (i < n):=Nat.testBit_two_pow_sub_one n i

/-! ### The frames and what is asked of a map -/
structure Fr where
 n:Nat
 a:List Nat
def Fr.ok (f:Fr):Prop:=f.n ≤ 8 ∧ f.a.length = f.n ∧ ∀ x ∈ f.a,x < 2 ^ f.n
theorem Fr.ok.lt {f:Fr} (h:f.ok) {x:Nat} (hx:x < f.n):f.a.getD x 0 < 2 ^ f.n:=by
 simp only [List.getD_eq_getElem?_getD,List.getElem?_eq_getElem (show x < f.a.length by rw [h.2.1];exact hx),Option.getD_some]
 exact h.2.2 _ (List.getElem_mem _)

theorem jI {a b:Nat}:sdiff a b = 0 ↔ ∀ i,a.testBit i = true → b.testBit i = true:=by
 constructor
 ·intro h i hi
  have:=e8 a b i
  rw [h,hi] at this
  simpa using this.symm
 ·intro h
  apply Nat.eq_of_testBit_eq
  intro i
  rw [e8]
  cases ha:a.testBit i
  ·simp
  ·simp [h i ha]

section
variable {f g:Fr} {onto one:Bool} {im:List Nat}

end

/-! ### The search -/
end Go.Vc

namespace Go.Vc
theorem aD0 {a n y:Nat} (h:y ∈ memK a n):y < n:=by
 unfold memK at h
 exact List.mem_range.1 (List.mem_filter.1 h).1
theorem SQ {f:Fr} (h:f.ok) (x:Nat):f.a.getD x 0 < 2 ^ 8:=by
 by_cases hx:x < f.n
 ·exact Nat.lt_of_lt_of_le (h.lt hx) (Nat.pow_le_pow_right (by omega) h.1)
 ·have:f.a.length ≤ x:=by rw [h.2.1];omega
  simp [List.getD_eq_getElem?_getD,List.getElem?_eq_none this]
end Go.Vc
namespace Go.Proofs.YteifjhpddhppcaaGreatDoor
open Go.Vc
end Go.Proofs.YteifjhpddhppcaaGreatDoor

namespace Go.Vc
end Go.Vc
namespace Go.Proofs.YteifjhpddhppcaaGreatDoor
open Go.Vc
end Go.Proofs.YteifjhpddhppcaaGreatDoor

namespace Go.Vc
end Go.Vc
namespace Go.Proofs.YteifjhpddhppcaaGreatDoor
open Go.Vc
end Go.Proofs.YteifjhpddhppcaaGreatDoor

namespace Go.Vc
def frOf (n:Int) (l:List Int):Fr:=⟨n.toNat,l.map Int.toNat⟩
end Go.Vc

namespace Go.Proofs.YteifjhpddhppcaaGreatDoor
open Go.Vc

def iK (n:Int) (l:List Int):Bool:=decide (0 ≤ n ∧ n ≤ 8) && decide ((l.length:Int) = n) && l.all (maskB n.toNat)
end Go.Proofs.YteifjhpddhppcaaGreatDoor

namespace Go.Proofs.YteifjhpddhppcaaGreatDoor
open Go.Vc
theorem QO {n:Int} {l:List Int} (h:iK n l = true):(frOf n l).ok ∧ n = ((frOf n l).n:Int) ∧ l = nats (frOf n l).a:=by
 unfold iK at h
 rw [Bool.and_eq_true,Bool.and_eq_true,decide_eq_true_eq,decide_eq_true_eq,List.all_eq_true] at h
 obtain ⟨⟨h1,h2⟩,h3⟩:=h
 have hx:∀ x ∈ l,0 ≤ x ∧ x ≤ ((2 ^ n.toNat - 1:Nat):Int):=fun x hx=>by
  have:=h3 x hx
  unfold maskB at this
  simpa using this
 refine ⟨⟨by show n.toNat ≤ 8;omega,by show (l.map Int.toNat).length = n.toNat;rw [List.length_map];omega,?_⟩,by show n = (n.toNat:Int);omega,?_⟩
 ·intro y hy
  obtain ⟨x,h4,rfl⟩:=List.mem_map.1 hy
  have:=hx x h4
  have hp:=Nat.two_pow_pos n.toNat
  show x.toNat < 2 ^ n.toNat
  omega
 ·show l = (l.map Int.toNat).map Int.ofNat
  rw [List.map_map]
  conv=>lhs;rw [← List.map_id l]
  refine List.map_congr_left fun x h4=>?_
  have:=hx x h4
  simp only [id,Function.comp,Int.ofNat_eq_natCast]
  omega
end Go.Proofs.YteifjhpddhppcaaGreatDoor

namespace Go.Proofs.YteifjhpddhppcaaGreatDoor
open Go.Vc
end Go.Proofs.YteifjhpddhppcaaGreatDoor

namespace Go.Vc
end Go.Vc
namespace Go.Proofs.YteifjhpddhppcaaGreatDoor
open Go.Vc
end Go.Proofs.YteifjhpddhppcaaGreatDoor

namespace Go.Vc
def rowsK (a:List Nat) (m k:Nat):Nat:=((memK m k).map fun i=>a.getD i 0).foldl (· ||| ·) 0
theorem WG (l:List Nat) (z j:Nat):(l.foldl (· ||| ·) z).testBit j = (z.testBit j || l.any fun y=>y.testBit j):=by
 induction l generalizing z with
 | nil=>simp
 | cons x l ih=>rw [List.foldl_cons,ih,Nat.testBit_or,List.any_cons,Bool.or_assoc]
theorem zM (a:List Nat) (m k j:Nat):(rowsK a m k).testBit j = true ↔ ∃ i,i < k ∧ m.testBit i = true ∧ (a.getD i 0).testBit j = true:=by
 unfold rowsK
 rw [WG,Nat.zero_testBit,Bool.false_or,List.any_map,List.any_eq_true]
 unfold memK
 constructor
 ·rintro ⟨i,hi,hj⟩
  obtain ⟨h1,h2⟩:=List.mem_filter.1 hi
  exact ⟨i,List.mem_range.1 h1,h2,hj⟩
 ·rintro ⟨i,h1,h2,h3⟩
  exact ⟨i,List.mem_filter.2 ⟨List.mem_range.2 h1,h2⟩,h3⟩
def flag1 (t:Int) (f:Fr) (x:Nat):Bool:=(!decide (t = 0) || (f.a.getD x 0).testBit x) && (!decide (t = 2) || decide (sdiff (rowsK f.a (f.a.getD x 0) f.n) (f.a.getD x 0) = 0))
def flag2 (t:Int) (f:Fr) (x y:Nat):Bool:=!(f.a.getD x 0).testBit y || (!decide (t = 8) || (decide (x = y) || !(f.a.getD y 0).testBit x))
def flagB (t:Int) (f:Fr):Bool:=(List.range f.n).all fun x=>flag1 t f x && (List.range f.n).all fun y=>flag2 t f x y
end Go.Vc
namespace Go.Proofs.YteifjhpddhppcaaGreatDoor
open Go.Vc
end Go.Proofs.YteifjhpddhppcaaGreatDoor

namespace Go.Vc
end Go.Vc
namespace Go.Proofs.YteifjhpddhppcaaGreatDoor
open Go.Vc
end Go.Proofs.YteifjhpddhppcaaGreatDoor

namespace Go.Vc
end Go.Vc
namespace Go.Proofs.YteifjhpddhppcaaGreatDoor
open Go.Vc
theorem sB {a:List Nat} {m:Nat} (h:∀ x ∈ a,x < m) (hm:0 < m) (i:Nat):a.getD i 0 < m:=by
 by_cases hi:i < a.length
 ·exact SZ h hi
 ·simp [List.getD_eq_getElem?_getD,List.getElem?_eq_none (Nat.le_of_not_lt hi)];exact hm
end Go.Proofs.YteifjhpddhppcaaGreatDoor

namespace Go.Vc
def invC (a:List Nat) (k y:Nat):Nat:=setOf ((List.range k).filter fun x=>(a.getD x 0).testBit y)
theorem aAZ (a:List Nat) (k y:Nat):invC a (k + 1) y = if (a.getD k 0).testBit y then invC a k y ||| 2 ^ k else invC a k y:=by
 unfold invC
 rw [List.range_succ,List.filter_append]
 cases h:(a.getD k 0).testBit y
 ·simp only [List.filter_cons,List.filter_nil,h]
  simp
 ·simp only [List.filter_cons,List.filter_nil,h,if_true]
  rw [PE]
theorem Y3 (a:List Nat) (k y:Nat):invC a k y < 2 ^ k:=FL fun _ hz=>List.mem_range.1 (List.mem_filter.1 hz).1
theorem XD (a:List Nat) (k y x:Nat):(invC a k y).testBit x = (decide (x < k) && (a.getD x 0).testBit y):=by
 unfold invC
 rw [uG,Bool.eq_iff_iff,List.contains_iff_mem,List.mem_filter,List.mem_range]
 simp
def invL (a:List Nat) (n k:Nat) (ms:List Nat) (j:Nat):List Nat:=(List.range n).map fun y=>if (ms.take j).contains y then invC a k y ||| 2 ^ k else invC a k y
def inv (f:Fr):List Nat:=(List.range f.n).map fun y=>invC f.a f.n y
theorem aBT (a:List Nat) (n k:Nat) (ms:List Nat):invL a n k ms 0 = (List.range n).map fun y=>invC a k y:=by simp [invL]
theorem aB0 (a:List Nat) (n k:Nat) (hk:a.getD k 0 < 2 ^ 63):invL a n k (mem (a.getD k 0)) (mem (a.getD k 0)).length = (List.range n).map fun y=>invC a (k + 1) y:=by
 unfold invL
 refine List.map_congr_left fun y _=>?_
 rw [List.take_length,aAZ]
 have:(mem (a.getD k 0)).contains y = (a.getD k 0).testBit y:=by
  rw [Bool.eq_iff_iff,List.contains_iff_mem,Y7 hk]
 rw [this]
theorem XY (a:List Nat) (n k:Nat) (ms:List Nat) (j:Nat):(invL a n k ms j).length = n:=by simp [invL]
theorem aBD (a:List Nat) (n k:Nat) (ms:List Nat) (j:Nat) (hj:j < ms.length):(invL a n k ms j).set ms[j] ((invL a n k ms j).getD ms[j] 0 ||| 2 ^ k) = invL a n k ms (j + 1):=by
 apply List.ext_getElem
 ·simp [invL]
 ·intro i h1 h2
  have hi:i < n:=by simpa [invL] using h2
  rw [List.getElem_set]
  have ht:ms.take (j + 1) = ms.take j ++ [ms[j]]:=List.take_succ_eq_append_getElem hj
  split
  ·rename_i h
   rw [h]
   have e1:(invL a n k ms j).getD i 0 = if (ms.take j).contains i then invC a k i ||| 2 ^ k else invC a k i:=by simp [invL,hi]
   have e2:(invL a n k ms (j + 1))[i] = invC a k i ||| 2 ^ k:=by
    have hc:(ms.take (j + 1)).contains i = true:=by rw [List.contains_iff_mem,ht,h];simp
    simp only [invL,List.getElem_map,List.getElem_range]
    rw [if_pos hc]
   rw [e1,e2]
   split
   ·rw [Nat.or_assoc,Nat.or_self]
   ·rfl
  ·rename_i h
   simp only [invL,List.getElem_map,List.getElem_range]
   have hc:(ms.take (j + 1)).contains i = (ms.take j).contains i:=by
    rw [Bool.eq_iff_iff,List.contains_iff_mem,List.contains_iff_mem]
    have hm:i ∈ ms.take (j + 1) ↔ i ∈ ms.take j ++ [ms[j]]:=by rw [← ht]
    rw [hm,List.mem_append,List.mem_singleton]
    exact ⟨fun h'=>h'.resolve_right fun e=>h e.symm,.inl⟩
   rw [hc]
theorem aDN (f:Fr) (x:Nat) (hx:x < f.n):(inv f).getD x 0 = invC f.a f.n x:=by simp [inv,hx]
def wStep (k:Nat) (c:List Nat) (i:Nat):List Nat:=if (c.getD i 0).testBit k then c.set i (c.getD i 0 ||| c.getD k 0) else c
def wRow (c:List Nat) (k j:Nat):List Nat:=(List.range j).foldl (wStep k) c
def wAll (a:List Nat) (k:Nat):List Nat:=(List.range k).foldl (fun c k=>wRow c k c.length) a
theorem WZ (k:Nat) (c:List Nat) (i:Nat):(wStep k c i).length = c.length:=by
 unfold wStep;split <;> simp
theorem kH (c:List Nat) (k j:Nat):wRow c k (j + 1) = wStep k (wRow c k j) j:=by
 unfold wRow;rw [List.range_succ,List.foldl_append];rfl
theorem mX (c:List Nat) (k j:Nat):(wRow c k j).length = c.length:=by
 induction j with
 | zero=>rfl
 | succ j ih=>rw [kH,WZ,ih]
theorem kR (a:List Nat) (k:Nat):wAll a (k + 1) = wRow (wAll a k) k (wAll a k).length:=by
 unfold wAll;rw [List.range_succ,List.foldl_append];rfl
theorem mQ (a:List Nat) (k:Nat):(wAll a k).length = a.length:=by
 induction k with
 | zero=>rfl
 | succ k ih=>rw [kR,mX,ih]
def subL (c d:List Nat):Prop:=∀ i j,(c.getD i 0).testBit j = true → (d.getD i 0).testBit j = true
theorem T3 (k:Nat) (c:List Nat) (i l:Nat) (hi:i < c.length):(wStep k c i).getD l 0 = if l = i ∧ (c.getD i 0).testBit k = true then c.getD i 0 ||| c.getD k 0 else c.getD l 0:=by
 unfold wStep
 by_cases hb:(c.getD i 0).testBit k = true
 ·rw [if_pos hb]
  by_cases hl:l = i
  ·subst hl;rw [if_pos ⟨rfl,hb⟩];simp [List.getD_eq_getElem?_getD,hi]
  ·rw [if_neg (fun h=>hl h.1)];simp [List.getD_eq_getElem?_getD,List.getElem?_set_ne (fun h=>hl h.symm)]
 ·rw [if_neg hb,if_neg (fun h=>hb h.2)]
theorem TR (k:Nat) (c:List Nat) (i:Nat) (hi:i < c.length):subL c (wStep k c i):=by
 intro l j h
 rw [T3 k c i l hi]
 split
 ·rename_i h1
  obtain ⟨rfl,_⟩:=h1
  rw [Nat.testBit_or,h];rfl
 ·exact h
theorem subL.trans {a b c:List Nat} (h:subL a b) (k:subL b c):subL a c:=fun i j hb=>k i j (h i j hb)
theorem FA (c:List Nat) (k:Nat):∀ j,j ≤ c.length → subL c (wRow c k j)
 | 0,_=>fun _ _ h=>h
 | j + 1,hj=>by
  rw [kH]
  exact (FA c k j (by omega)).trans (TR k _ j (by rw [mX];omega))
theorem WR (a:List Nat):∀ k,subL a (wAll a k)
 | 0=>fun _ _ h=>h
 | k + 1=>by
  rw [kR]
  exact (WR a k).trans (FA _ k _ (Nat.le_refl _))
theorem UA {a:List Nat} (h:∀ x y z,(a.getD x 0).testBit y = true → (a.getD y 0).testBit z = true → (a.getD x 0).testBit z = true):∀ k,wAll a k = a
 | 0=>rfl
 | k + 1=>by
  rw [kR,UA h k]
  have key:∀ j,j ≤ a.length → wRow a k j = a:=by
   intro j
   induction j with
   | zero=>intro _;rfl
   | succ j ih=>
    intro hj
    rw [kH,ih (by omega)]
    unfold wStep
    split
    ·rename_i hb
     have hor:a.getD j 0 ||| a.getD k 0 = a.getD j 0:=by
      apply Nat.eq_of_testBit_eq
      intro z
      rw [Nat.testBit_or]
      cases hz:(a.getD j 0).testBit z
      ·cases hz2:(a.getD k 0).testBit z
       ·rfl
       ·rw [h j k z hb hz2] at hz;cases hz
      ·rfl
     rw [hor]
     apply List.ext_getElem
     ·simp
     ·intro i h1 h2
      rw [List.getElem_set]
      split
      ·rename_i e;subst e;simp [List.getD_eq_getElem?_getD,h2]
      ·rfl
    ·rfl
  exact key _ (Nat.le_refl _)
theorem aAQ {a:List Nat} {n:Nat} (hn:a.length = n) (he:wAll a n = a):∀ x y z,x < n → y < n → (a.getD x 0).testBit y = true → (a.getD y 0).testBit z = true → (a.getD x 0).testBit z = true:=by
 intro x y z hx hy h1 h2
 -- behind step (y, x) the row of x has that of y
 have hA:=WR a y
 have hrow:=FA (wAll a y) y x (by rw [mQ];omega)
 have hle:∀ k d,subL (wAll a k) (wAll a (k + d)):=by
  intro k d
  induction d with
  | zero=>exact fun _ _ h=>h
  | succ d ih=>exact ih.trans (by rw [← Nat.add_assoc,kR];exact FA _ _ _ (Nat.le_refl _))
 have hmono:∀ c k j d,j + d ≤ c.length → subL (wRow c k j) (wRow c k (j + d)):=by
  intro c k j d
  induction d with
  | zero=>exact fun _ _ _ h=>h
  | succ d ih=>
   intro hd
   refine (ih (by omega)).trans ?_
   rw [← Nat.add_assoc,kH]
   exact TR k _ _ (by rw [mX];omega)
 have hstep:((wRow (wAll a y) y (x + 1)).getD x 0).testBit z = true:=by
  rw [kH,T3 _ _ _ _ (by rw [mX,mQ];omega),if_pos ⟨rfl,hrow _ _ (hA _ _ h1)⟩,Nat.testBit_or,hrow _ _ (hA _ _ h2),Bool.or_true]
 have h3:((wAll a (y + 1)).getD x 0).testBit z = true:=by
  rw [kR,mQ]
  have:=hmono (wAll a y) y (x + 1) (a.length - (x + 1)) (by rw [mQ];omega) _ _ hstep
  rwa [show x + 1 + (a.length - (x + 1)) = a.length by omega] at this
 have h4:=hle (y + 1) (n - (y + 1)) _ _ h3
 rw [show y + 1 + (n - (y + 1)) = n by omega,he] at h4
 exact h4
end Go.Vc
namespace Go.Proofs.YteifjhpddhppcaaGreatDoor
open Go.Vc
theorem FU {l:List Nat} {j:Nat} (h:j < l.length):l.getD j 0 = l[j]:=by simp [List.getD_eq_getElem?_getD,h]
theorem aA1 (a:List Nat) (n k:Nat) (ms:List Nat) (j y:Nat) (hy:y < n):(invL a n k ms j).getD y 0 = if (ms.take j).contains y then invC a k y ||| 2 ^ k else invC a k y:=by simp [invL,hy]
theorem F4 (l:List Nat) (y x:Nat):ints (nats (l.set y x)) = (ints (nats l)).set y (.int .i64 (x:Int)):=by simp [ints,nats,List.map_set]
theorem UI (l:List Nat) (y:Nat) (h:y < l.length):(ints (nats l))[y]? = some (.int .i64 ((l.getD y 0:Nat):Int)):=by
 simp [ints,nats,List.getD_eq_getElem?_getD,h]
theorem QU {f:Fr} (hf:f.ok) {v:Value} {w:World} (hs:SlN w v f.a):Cal Tryz.prog DG #[v] w fun r w'=>Ext w w' ∧ Ow w.heap.size t_i64 w' r (ints (nats (inv f))):=by
 have hf8:=hf.1
 have hfl:=hf.2.1
 have hs0:=hs
 apply RT;unfold DJ
 have hX:=Ext.refl w
 ((with_reducible refine iLenN (by assumption) ?_))
 refine iMk (n:=f.a.length) (by omega) (by omega) rfl fun c w1 hc h hC=>?_
 have hlc:w.heap.size ≤ c:=by omega
 have hcl:c < w1.heap.size:=hC.lt
 have hX:=hX.trans h
 have hs:=hs.ext h
 ((with_reducible refine iLenN (by assumption) ?_))
 have hrow0:List.replicate f.a.length (Value.int .i64 0) = ints (nats ((List.range f.n).map fun y=>invC f.a 0 y)):=by
  apply List.ext_getElem
  ·simp [ints,nats,hfl]
  ·intro i h1 h2
   simp [ints,nats,invC,setOf]
 rw [hrow0] at hC
 refine iLp (fun k:Nat=>[.int .i64 (k:Int)]) (fun k w'=>k ≤ f.n ∧ Ext w w' ∧ Blk t_i64 w' c (ints (nats ((List.range f.n).map fun y=>invC f.a k y)))) (fun k=>f.n - k) 0 rfl ⟨Nat.zero_le _,hX,hC⟩ ?_
 rintro k w3 Kn ⟨hk,hX,hC⟩ hKn
 have hs:=hs0.ext hX
 (intro _;(try simp only [gx]);(with_reducible refine iLt ?_))
 refine iCndP (fun h4=>?_) (fun h4=>?_)
 ·have hk1:k < f.n:=by omega
  have hgk:=SQ hf k
  have hgk2:=hf.lt hk1
  ((with_reducible refine iIaNN (by assumption) ?_ (fun pa_ hpa_=>?_));omega;(with_reducible refine iLd (by assumption) ?_))
  refine iCall ((vE (f.a.getD k 0) (by omega) w3).mono ?_)
  rintro u w4 ⟨h,ho⟩
  have hcl3:=hC.lt
  have hX:=hX.trans h
  have hC:=hC.ext h
  have hms:SlN w4 u (mem (f.a.getD k 0)):=ho.sl
  have hml:=aAY (m:=8) (a:=f.a.getD k 0) (by omega) hgk
  unfold popc at hml
  have hmlt:∀ y ∈ mem (f.a.getD k 0),y < f.n:=fun y hy=>by
   have:=(Y7 (by omega)).1 hy
   rcases Nat.lt_or_ge y f.n with h' | h'
   ·exact h'
   ·rw [Nat.testBit_lt_two_pow (Nat.lt_of_lt_of_le hgk2 (Nat.pow_le_pow_right (by omega) h'))] at this;cases this
  have hcne:u.ownBlock ≠ some c:=fun e=>by have:=(ho.blk c e).1;omega
  ((with_reducible refine iLenN (by assumption) ?_))
  rw [← aBT f.a f.n k (mem (f.a.getD k 0))] at hC
  refine iLp (fun j:Nat=>[.int .i64 (j:Int)]) (fun j w'=>j ≤ (mem (f.a.getD k 0)).length ∧ Ext w w' ∧ Ow w3.heap.size t_i64 w' u (ints (nats (mem (f.a.getD k 0)))) ∧ Blk t_i64 w' c (ints (nats (invL f.a f.n k (mem (f.a.getD k 0)) j)))) (fun j=>(mem (f.a.getD k 0)).length - j) 0 rfl ⟨Nat.zero_le _,hX,ho,hC⟩ ?_
  rintro j w6 Kn2 ⟨hj,hX,ho,hC⟩ hKn2
  have hms:SlN w6 u (mem (f.a.getD k 0)):=ho.sl
  (intro _;(try simp only [gx]);(with_reducible refine iLt ?_))
  refine iCndP (fun h5=>?_) (fun h5=>?_)
  ·have hj1:j < (mem (f.a.getD k 0)).length:=by omega
   have hy:(mem (f.a.getD k 0))[j] < f.n:=hmlt _ (List.getElem_mem hj1)
   have hyy:(mem (f.a.getD k 0)).getD j 0 = (mem (f.a.getD k 0))[j]:=FU hj1
   have hlen:(invL f.a f.n k (mem (f.a.getD k 0)) j).length = f.n:=XY _ _ _ _ _
   ((with_reducible refine iIaNN (by assumption) ?_ (fun pa_ hpa_=>?_));omega;(with_reducible refine iLd (by assumption) ?_))
   rw [hyy]
   refine iIaL (by omega) ?_
   refine iLdB hC (v:=.int .i64 (((invL f.a f.n k (mem (f.a.getD k 0)) j).getD (mem (f.a.getD k 0))[j] 0:Nat):Int)) ?_ ?_
   ·rw [Nat.zero_add];exact UI _ _ (by omega)
   refine rI (by omega) ?_
   have hcur:(invL f.a f.n k (mem (f.a.getD k 0)) j).getD (mem (f.a.getD k 0))[j] 0 < 2 ^ 9:=by
    have e1:(invL f.a f.n k (mem (f.a.getD k 0)) j).getD (mem (f.a.getD k 0))[j] 0 = if ((mem (f.a.getD k 0)).take j).contains (mem (f.a.getD k 0))[j] then invC f.a k (mem (f.a.getD k 0))[j] ||| 2 ^ k else invC f.a k (mem (f.a.getD k 0))[j]:=aA1 _ _ _ _ _ _ hy
    rw [e1]
    have i1:invC f.a k (mem (f.a.getD k 0))[j] < 2 ^ 9:=Nat.lt_of_lt_of_le (Y3 _ _ _) (Nat.pow_le_pow_right (by omega) (by omega))
    split
    ·exact Nat.or_lt_two_pow i1 (Nat.pow_lt_pow_right (by omega) (by omega))
    ·exact i1
   have h2k:2 ^ k < 2 ^ 9:=Nat.pow_lt_pow_right (by omega) (by omega)
   refine iBOr (by omega) (by omega) ?_
   refine iIaL (by omega) ?_
   intro w7 h
   have hX:=hX.trans h
   have ho:=ho.ext h
   have hC:=hC.ext h
   refine iStB hC (by rw [bV,bU,hlen];omega) rfl fun hC'=>?_
   have hu:=Upd.setCell w7 c (0 + (mem (f.a.getD k 0))[j]) (.int .i64 (((invL f.a f.n k (mem (f.a.getD k 0)) j).getD (mem (f.a.getD k 0))[j] 0 ||| 2 ^ k:Nat):Int))
   have hX:=hX.upd hu hlc
   have ho:=ho.upd hu hcne
   have e1:(ints (nats (invL f.a f.n k (mem (f.a.getD k 0)) j))).set (0 + (mem (f.a.getD k 0))[j]) (.int .i64 (((invL f.a f.n k (mem (f.a.getD k 0)) j).getD (mem (f.a.getD k 0))[j] 0 ||| 2 ^ k:Nat):Int)) = ints (nats (invL f.a f.n k (mem (f.a.getD k 0)) (j + 1))):=by
    rw [Nat.zero_add,← aBD f.a f.n k _ j hj1]
    exact (F4 _ _ _).symm
   rw [e1] at hC'
   intro w9 h
   have hC:=hC'.ext h
   have hX:=hX.trans h
   have ho:=ho.ext h
   (refine iAdd (by omega) ?_)
   exact hKn2 (j + 1) _ ⟨by omega,hX,ho,hC⟩ (by omega)
  ·obtain rfl:j = (mem (f.a.getD k 0)).length:=by omega
   (refine iAdd (by omega) ?_)
   rw [aB0 f.a f.n k (by omega)] at hC
   exact hKn (k + 1) _ ⟨by omega,hX,hC⟩ (by omega)
 ·obtain rfl:k = f.n:=by omega
  exact ⟨hX,Ow.ofBlk hC hlc (by rw [bV,bU,hfl];simp [inv]) (by omega)⟩
theorem yE {v v':Value} {w:World} {l l':List Int} (hs:SlI w v l) (hs':SlI w v' l'):Ret Tryz.prog lX #[v,v'] w (.bool (decide (l = l'))):=by
 have hl:=hs.len
 have hl':=hs'.len
 apply zB;unfold l4
 ((with_reducible refine iLenI (by assumption) ?_;refine iLenI (by assumption) ?_;refine iNe ?_))
 refine iCndP (fun h=>?_) (fun h=>?_)
 ·refine ⟨?_,Ext.refl _⟩
  rw [decide_eq_false]
  rintro rfl
  exact h rfl
 ·((with_reducible refine iLenI (by assumption) ?_))
  have hll:l.length = l'.length:=by omega
  refine iLp (fun k:Nat=>[.int .i64 (k:Int)]) (fun k w'=>k ≤ l.length ∧ Ext w w' ∧ l.take k = l'.take k) (fun k=>l.length - k) 0 rfl ⟨Nat.zero_le _,Ext.refl _,by simp⟩ ?_
  rintro k w2 Kn ⟨hk,h2,hk2⟩ hKn
  have hs2:=hs.ext h2
  have hs2':=hs'.ext h2
  (intro _;(try simp only [gx]);(with_reducible refine iLt ?_))
  refine iCndP (fun h3=>?_) (fun h3=>?_)
  ·have hk1:k < l.length:=by omega
   ((with_reducible refine iIaN (by assumption) ?_ (fun pa_ hpa_=>?_));omega;(with_reducible refine iLd (by assumption) ?_);(with_reducible refine iIaN (by assumption) ?_ (fun pa_ hpa_=>?_));omega;(with_reducible refine iLd (by assumption) ?_;refine iNe ?_))
   intro w3 h4
   refine iCndP (fun h5=>?_) (fun h5=>?_)
   ·refine ⟨?_,h2.trans h4⟩
    rw [decide_eq_false]
    rintro rfl
    exact h5 rfl
   ·(refine iAdd (by omega) ?_)
    refine hKn (k + 1) _ ⟨by omega,h2.trans h4,?_⟩ (by omega)
    rw [List.take_succ_eq_append_getElem hk1,List.take_succ_eq_append_getElem (show k < l'.length by omega),hk2]
    have e1:l.getD k 0 = l[k]:=by simp [List.getD_eq_getElem?_getD,hk1]
    have e2:l'.getD k 0 = l'[k]'(by omega):=by simp [List.getD_eq_getElem?_getD,show k < l'.length by omega]
    have h5:l.getD k 0 = l'.getD k 0:=Decidable.not_not.1 h5
    rw [e1,e2] at h5
    rw [h5]
  ·refine ⟨?_,h2⟩
   obtain rfl:k = l.length:=by omega
   rw [List.take_length,hll,List.take_length] at hk2
   rw [decide_eq_true hk2]
theorem KI {a:List Nat} {n:Nat} (hn:n ≤ 8) (hal:a.length = n) (hlt:∀ x ∈ a,x < 2 ^ n) {v:Value} {w:World} (hs:SlN w v a):Cal Tryz.prog vG #[v] w fun r w'=>Ext w w' ∧ Ow w.heap.size t_i64 w' r (ints (nats (wAll a n))):=by
 apply LG;unfold uV
 refine iCall ((yT (l:=nats a) hs (by rw [bU];omega)).mono ?_)
 rintro u w1 ⟨h,ho⟩
 have hX:=h
 have hil:∀ c:List Nat,(ints (nats c)).length = c.length:=fun c=>by rw [bV,bU]
 have hsl:SlN w1 u a:=ho.sl
 ((with_reducible refine iLenN (by assumption) ?_))
 have hbnd:∀ k j,∀ x ∈ wRow (wAll a k) k j,x < 2 ^ n:=by
  have hst:∀ k (c:List Nat) i,(∀ x ∈ c,x < 2 ^ n) → ∀ x ∈ wStep k c i,x < 2 ^ n:=by
   intro k c i hc x hx
   unfold wStep at hx
   split at hx
   ·rcases List.mem_or_eq_of_mem_set hx with h1 | h1
    ·exact hc x h1
    ·rw [h1];exact Nat.or_lt_two_pow (sB hc (Nat.two_pow_pos n) _) (sB hc (Nat.two_pow_pos n) _)
   ·exact hc x hx
  have hrw:∀ k (c:List Nat) j,(∀ x ∈ c,x < 2 ^ n) → ∀ x ∈ wRow c k j,x < 2 ^ n:=by
   intro k c j hc
   induction j with
   | zero=>exact hc
   | succ j ih=>rw [kH];exact hst k _ _ ih
  have hal:∀ k,∀ x ∈ wAll a k,x < 2 ^ n:=by
   intro k
   induction k with
   | zero=>exact hlt
   | succ k ih=>rw [kR];exact hrw k _ _ ih
  exact fun k j=>hrw k _ j (hal k)
 refine iLp (fun k:Nat=>[.int .i64 (k:Int)]) (fun k w'=>k ≤ n ∧ Ext w w' ∧ Ow w.heap.size t_i64 w' u (ints (nats (wAll a k)))) (fun k=>n - k) 0 rfl ⟨Nat.zero_le _,hX,ho⟩ ?_
 rintro k w3 Kn ⟨hk,hX,ho⟩ hKn
 have hkl:(wAll a k).length = n:=by rw [mQ,hal]
 have hsl:SlN w3 u (wAll a k):=ho.sl
 (intro _;(try simp only [gx]);(with_reducible refine iLt ?_))
 refine iCndP (fun h4=>?_) (fun h4=>?_)
 ·have hk1:k < n:=by omega
  ((with_reducible refine iLenN (by assumption) ?_))
  refine iLp (fun j:Nat=>[.int .i64 (j:Int)]) (fun j w'=>j ≤ n ∧ Ext w w' ∧ Ow w.heap.size t_i64 w' u (ints (nats (wRow (wAll a k) k j)))) (fun j=>n - j) 0 rfl ⟨Nat.zero_le _,hX,ho⟩ ?_
  rintro j w5 Kn2 ⟨hj,hX,ho⟩ hKn2
  have hjl:(wRow (wAll a k) k j).length = n:=by rw [mX,hkl]
  have hsl:SlN w5 u (wRow (wAll a k) k j):=ho.sl
  (intro _;(try simp only [gx]);(with_reducible refine iLt ?_))
  refine iCndP (fun h5=>?_) (fun h5=>?_)
  ·have hj1:j < n:=by omega
   have h28:2 ^ n ≤ 2 ^ 8:=Nat.pow_le_pow_right (by omega) hn
   have g1:=sB (hbnd k j) (Nat.two_pow_pos n) j
   have g2:=sB (hbnd k j) (Nat.two_pow_pos n) k
   ((with_reducible refine iIaNN (by assumption) ?_ (fun pa_ hpa_=>?_));omega;(with_reducible refine iLd (by assumption) ?_))
   refine iRet (sC _ k (by omega) (by omega) w5) fun w6 h=>?_
   have hX:=hX.trans h
   have ho:=ho.ext h
   have hsl:SlN w6 u (wRow (wAll a k) k j):=ho.sl
   have hstep:=kH (wAll a k) k j
   refine iCnd (fun h6=>?_) (fun h6=>?_)
   ·have e1:wRow (wAll a k) k (j + 1) = (wRow (wAll a k) k j).set j ((wRow (wAll a k) k j).getD j 0 ||| (wRow (wAll a k) k j).getD k 0):=by
     rw [hstep];unfold wStep;rw [if_pos h6]
    ((with_reducible refine iIaNN (by assumption) ?_ (fun pa_ hpa_=>?_));omega;(with_reducible refine iLd (by assumption) ?_);(with_reducible refine iIaNN (by assumption) ?_ (fun pa_ hpa_=>?_));omega;(with_reducible refine iLd (by assumption) ?_))
    refine iBOr (by omega) (by omega) ?_
    refine PR ho (by rw [hil];omega) fun b hb hwr=>?_
    intro w7 h
    have hX:=hX.trans h
    have ho:=ho.ext h
    obtain ⟨hc1,hc2,hc3⟩:=hwr w7 _ rfl ho
    rw [List.getElem?_eq_getElem (by rw [hil];omega)] at hc1
    refine iSt hc1 hc2 rfl ?_
    have ho:=hc3 (.int .i64 (((wRow (wAll a k) k j).getD j 0 ||| (wRow (wAll a k) k j).getD k 0:Nat):Int))
    rw [← F4,← e1] at ho
    have hu:=Upd.setCell w7 b j (.int .i64 (((wRow (wAll a k) k j).getD j 0 ||| (wRow (wAll a k) k j).getD k 0:Nat):Int))
    have hX:=hX.upd hu (ho.blk b hb).1
    intro w9 h
    have hX:=hX.trans h
    have ho:=ho.ext h
    (refine iAdd (by omega) ?_)
    exact hKn2 (j + 1) _ ⟨by omega,hX,ho⟩ (by omega)
   ·(refine iAdd (by omega) ?_)
    refine hKn2 (j + 1) _ ⟨by omega,hX,?_⟩ (by omega)
    have e1:wRow (wAll a k) k (j + 1) = wRow (wAll a k) k j:=by
     rw [hstep];unfold wStep;rw [if_neg (by rw [h6];simp)]
    rw [e1];exact ho
  ·obtain rfl:j = n:=by omega
   (refine iAdd (by omega) ?_)
   refine hKn (k + 1) _ ⟨by omega,hX,?_⟩ (by omega)
   rw [kR,hkl];exact ho
 ·obtain rfl:k = n:=by omega
  exact ⟨hX,ho⟩
theorem lA {n:Nat} {fv u:Value} (p:Nat → Bool) (hn:n ≤ 1000) (w:World) (hf:∀ w',Ext w w' → ∀ x,x < n → callV Tryz.prog fv [.int .i64 (x:Int)] w' fun r w''=>r = .bool (p x) ∧ Ext w' w''):Ret Tryz.prog lW #[.agg #[.int .i64 (n:Int),u],fv] w (.bool ((List.range n).all p)):=by
 apply y8;unfold lS
 refine iNew fun b w1 hb h hB=>?_
 ((with_reducible refine iFa ?_);refine iLdB (by assumption) (by first | rfl | simp) ?_)
 refine iLp (fun k:Nat=>[.int .i64 (k:Int)]) (fun k w'=>k ≤ n ∧ Ext w w' ∧ ∀ x,x < k → p x = true) (fun k=>n - k) 0 rfl ⟨Nat.zero_le _,h,fun x hx=>by omega⟩ ?_
 rintro k w2 Kn ⟨hk,h2,hk2⟩ hKn
 (intro _;(try simp only [gx]);(with_reducible refine iLt ?_))
 refine iCndP (fun h3=>?_) (fun h3=>?_)
 ·have hk1:k < n:=by omega
  refine (hf w2 h2 k hk1).mono ?_
  rintro _ w4 ⟨rfl,h4⟩
  ((with_reducible refine iNot ?_))
  cases hp:p k
  ·refine iCndT rfl ?_
   refine ⟨?_,h2.trans h4⟩
   have:(List.range n).all p = false:=by
    rw [List.all_eq_false]
    exact ⟨k,List.mem_range.2 hk1,by rw [hp];simp⟩
   rw [this]
  ·refine iCndF rfl ?_
   (refine iAdd (by omega) ?_)
   refine hKn (k + 1) _ ⟨by omega,h2.trans h4,fun x hx=>?_⟩ (by omega)
   by_cases hxk:x < k
   ·exact hk2 x hxk
   ·obtain rfl:x = k:=by omega
    exact hp
 ·refine ⟨?_,h2⟩
  have:(List.range n).all p = true:=by
   rw [List.all_eq_true]
   exact fun x hx=>hk2 x (by have:=List.mem_range.1 hx;omega)
  rw [this]
end Go.Proofs.YteifjhpddhppcaaGreatDoor

namespace Go.Vc
theorem oE {f:Fr} (hf:f.ok) {x y:Nat} (h:(f.a.getD x 0).testBit y = true):x < f.n ∧ y < f.n:=by
 have hx:x < f.n:=by
  rcases Nat.lt_or_ge x f.n with h' | h'
  ·exact h'
  ·rw [List.getD_eq_getElem?_getD,List.getElem?_eq_none (by rw [hf.2.1];exact h')] at h
   simp at h
 refine ⟨hx,?_⟩
 rcases Nat.lt_or_ge y f.n with h' | h'
 ·exact h'
 ·rw [Nat.testBit_lt_two_pow (Nat.lt_of_lt_of_le (hf.lt hx) (Nat.pow_le_pow_right (by omega) h'))] at h;cases h
theorem sX {t:Int} {f:Fr}:flagB t f = true ↔ ∀ x,x < f.n → flag1 t f x = true ∧ ∀ y,y < f.n → flag2 t f x y = true:=by
 unfold flagB
 simp only [List.all_eq_true,List.mem_range,Bool.and_eq_true]
theorem FK {f:Fr}:flagB 0 f = (List.range f.n).all fun x=>(f.a.getD x 0).testBit x:=by
 rw [Bool.eq_iff_iff,sX]
 simp only [List.all_eq_true,List.mem_range]
 constructor
 ·intro h x hx
  have:=(h x hx).1
  unfold flag1 at this
  simpa using this
 ·intro h x hx
  refine ⟨?_,fun y hy=>?_⟩
  ·unfold flag1;rw [h x hx];simp
  ·unfold flag2;simp
theorem B1 {f:Fr} (hf:f.ok):flagB 2 f = true ↔ ∀ x y z,(f.a.getD x 0).testBit y = true → (f.a.getD y 0).testBit z = true → (f.a.getD x 0).testBit z = true:=by
 rw [sX]
 constructor
 ·intro h x y z h1 h2
  obtain ⟨hx,hy⟩:=oE hf h1
  have:=(h x hx).1
  unfold flag1 at this
  simp only [decide_true,Bool.not_true,Bool.false_or,Bool.and_eq_true,decide_eq_true_eq] at this
  exact jI.1 this.2 z ((zM _ _ _ _).2 ⟨y,hy,h1,h2⟩)
 ·intro h x hx
  refine ⟨?_,fun y hy=>?_⟩
  ·unfold flag1
   simp only [decide_true,Bool.not_true,Bool.false_or,Bool.and_eq_true,decide_eq_true_eq]
   refine ⟨by simp,jI.2 fun z hz=>?_⟩
   obtain ⟨y,_,h1,h2⟩:=(zM _ _ _ _).1 hz
   exact h x y z h1 h2
  ·unfold flag2;simp
theorem Z4 {f:Fr} (hf:f.ok):flagB 2 f = decide (wAll f.a f.n = f.a):=by
 rw [Bool.eq_iff_iff,B1 hf,decide_eq_true_eq]
 constructor
 ·exact fun h=>UA h f.n
 ·intro h x y z h1 h2
  obtain ⟨hx,hy⟩:=oE hf h1
  exact aAQ hf.2.1 h x y z hx hy h1 h2
theorem Z5 {f:Fr}:flagB 8 f = (List.range f.n).all fun x=>decide (sdiff (f.a.getD x 0 &&& invC f.a f.n x) (2 ^ x) = 0):=by
 rw [Bool.eq_iff_iff,sX]
 simp only [List.all_eq_true,List.mem_range,decide_eq_true_eq]
 constructor
 ·intro h x hx
  rw [jI]
  intro y hy
  rw [Nat.testBit_and,XD,Bool.and_eq_true,Bool.and_eq_true,decide_eq_true_eq] at hy
  have:=(h x hx).2 y hy.2.1
  unfold flag2 at this
  rw [hy.1,hy.2.2] at this
  simp at this
  subst this
  rw [Nat.testBit_two_pow];simp
 ·intro h x hx
  refine ⟨by unfold flag1;simp,fun y hy=>?_⟩
  unfold flag2
  cases h1:(f.a.getD x 0).testBit y
  ·rfl
  ·cases h2:(f.a.getD y 0).testBit x
   ·simp
   ·have:=jI.1 (h x hx) y (by rw [Nat.testBit_and,XD,h1,h2];simp [hy])
    rw [Nat.testBit_two_pow,decide_eq_true_eq] at this
    simp [this]
def poB (f:Fr):Bool:=flagB 0 f && (flagB 2 f && flagB 8 f)
end Go.Vc
namespace Go.Proofs.YteifjhpddhppcaaGreatDoor
open Go.Vc
theorem KE {f:Fr} (hf:f.ok) {v:Value} {w:World} (hs:SlN w v f.a) (x y:Nat) (hx:x < f.n) (hy:y ≤ 60):Ret Tryz.prog vP #[.agg #[.int .i64 (f.n:Int),v],.int .i64 (x:Int),.int .i64 (y:Int)] w (.bool ((f.a.getD x 0).testBit y)):=by
 have hfl:=hf.2.1
 have hg:=SQ hf x
 apply MB;unfold vJ
 refine iNew fun b w1 hb h hB=>?_
 have hs:=hs.ext h
 ((with_reducible refine iFa ?_);refine iLdB (by assumption) (by first | rfl | simp) ?_;(with_reducible refine iIaNN (by assumption) ?_ (fun pa_ hpa_=>?_));omega;(with_reducible refine iLd (by assumption) ?_))
 refine iRet (sC _ y (by omega) (by omega) w1) fun w2 h2=>?_
 exact ⟨rfl,h.trans h2⟩
theorem iI {f:Fr} (hf:f.ok) {v:Value} {w:World} (hs:SlN w v f.a) (t:Int) (ht:t = 0 ∨ t = 2 ∨ t = 8):Ret Tryz.prog pF #[.agg #[.int .i64 (f.n:Int),v],.int .i64 t] w (.bool (flagB t f)):=by
 have hf8:=hf.1
 have hfl:=hf.2.1
 apply E6;unfold oN
 have hX:=Ext.refl w
 have hs0:=hs
 refine iNew fun b2 w1 hb2 h hB=>?_
 have hlb2:w.heap.size ≤ b2:=by have:=hX.size;omega
 have hX:=hX.trans h
 have hs:=hs.ext h
 ((with_reducible refine iFa ?_);refine iLdB (by assumption) (by first | rfl | simp) ?_)
 refine iCall ((QU hf hs).mono ?_)
 rintro u w2 ⟨h,ho⟩
 have hX:=hX.trans h
 have hs:=hs.ext h
 have hB:=hB.ext h
 have hB:Blk _ w2 b2 [.int .i64 (f.n:Int),v]:=hB
 refine iNew fun b5 w3 hb5 h hC=>?_
 have hlb5:w.heap.size ≤ b5:=by have:=hX.size;omega
 have hne:b2 ≠ b5:=by have:=hB.lt;omega
 have hou:u.ownBlock ≠ some b5:=ho.lt (by omega)
 have hX:=hX.trans h
 have hB:=hB.ext h
 have ho:=ho.ext h
 refine iStB hC (by simp [Value.cells]) ho.cell fun hC'=>?_
 have hu:=Upd.setCell w3 b5 0 u
 have hX:=hX.upd hu hlb5
 have hB:=hB.upd hu hne
 have ho:=ho.upd hu hou
 have hC:Blk _ (w3.setCell ⟨b5,0,none⟩ u) b5 [u]:=hC'
 ((with_reducible refine iEq ?_))
 have hcall:∀ w',Ext (w3.setCell ⟨b5,0,none⟩ u) w' → SlN w' v f.a ∧ Blk _ w' b2 [.int .i64 (f.n:Int),v] ∧ Blk _ w' b5 [u] ∧ SlN w' u (inv f):=fun w' h'=>⟨hs0.ext (hX.trans h'),hB.ext h',hC.ext h',(ho.ext h').sl⟩
 refine iCndP (fun h=>?_) (fun h0=>?_)
 ·subst h
  ((with_reducible refine iLdA (by assumption) ?_ ?_);rfl)
  refine iRet (lA (n:=f.n) (u:=v) (fun x=>(f.a.getD x 0).testBit x) (by omega) _ ?_) fun w5 h=>?_
  ·intro w' h' x hx
   refine iClo rfl ?_
   obtain ⟨hs',hB',_,_⟩:=hcall w' h'
   refine BO ?_
   show gY (.int .i64 (x:Int)) (.pointer (some ⟨b2,0,none⟩)) w' _
   unfold gY
   ((with_reducible refine iLdA (by assumption) ?_ ?_);rfl)
   refine iRet (KE hf hs' x x hx (by omega)) fun w4 h4=>?_
   exact ⟨rfl,h4⟩
  ·rw [FK]
   exact ⟨rfl,hX.trans h⟩
 ·((with_reducible refine iEq ?_))
  refine iCndP (fun h=>absurd h (by omega)) (fun _=>?_)
  ((with_reducible refine iEq ?_))
  refine iCndP (fun h2=>?_) (fun h2=>?_)
  ·subst h2
   ((with_reducible refine iFa ?_);refine iLdB (by assumption) (by first | rfl | simp) ?_;(with_reducible refine iFa ?_);refine iLdB (by assumption) (by first | rfl | simp) ?_)
   intro w7 h
   have hX:=hX.trans h
   refine iCall ((KI hf.1 hf.2.1 hf.2.2 (hs0.ext hX)).mono ?_)
   rintro r w8 ⟨h,ho8⟩
   (try refine ⟨h,?_⟩)
   have hX:=hX.trans h
   refine iRetQ (fun w' h'=>yE (l:=nats (wAll f.a f.n)) (l':=nats f.a) (ho8.ext h').sl (hs0.ext (hX.trans h'))) ?_
   intro w9 h
   refine ⟨?_,hX.trans h⟩
   rw [Z4 hf]
   have hinj:(nats (wAll f.a f.n) = nats f.a) ↔ wAll f.a f.n = f.a:=by
    constructor
    ·intro h
     have h2:∀ c:List Nat,(nats c).map Int.toNat = c:=fun c=>by rw [nats,List.map_map];exact List.map_id c
     have:=congrArg (List.map Int.toNat) h
     rwa [h2,h2] at this
    ·rintro h;rw [h]
   exact congrArg Value.bool (decide_eq_decide.2 hinj)
  ·((with_reducible refine iEq ?_))
   refine iCndP (fun h=>absurd h (by omega)) (fun _=>?_)
   ((with_reducible refine iEq ?_))
   refine iCndP (fun h=>absurd h (by omega)) (fun _=>?_)
   ((with_reducible refine iEq ?_))
   refine iCndP (fun h=>absurd h (by omega)) (fun _=>?_)
   ((with_reducible refine iEq ?_))
   refine iCndP (fun h=>absurd h (by omega)) (fun _=>?_)
   ((with_reducible refine iEq ?_))
   refine iCndP (fun h=>absurd h (by omega)) (fun _=>?_)
   ((with_reducible refine iEq ?_))
   refine iCndP (fun h8=>?_) (fun h=>absurd ht (by omega))
   subst h8
   ((with_reducible refine iLdA (by assumption) ?_ ?_);rfl)
   refine iRet (lA (n:=f.n) (u:=v) (fun x=>decide (sdiff (f.a.getD x 0 &&& invC f.a f.n x) (2 ^ x) = 0)) (by omega) _ ?_) fun w5 h=>?_
   ·intro w' h' x hx
    refine iClo rfl ?_
    obtain ⟨hs',hB',hC',hi'⟩:=hcall w' h'
    have hil:(inv f).length = f.n:=by simp [inv]
    refine BN ?_
    show gX (.int .i64 (x:Int)) (.pointer (some ⟨b2,0,none⟩)) (.pointer (some ⟨b5,0,none⟩)) w' _
    unfold gX
    have hg:=SQ hf x
    have hi8:invC f.a f.n x < 2 ^ 8:=Nat.lt_of_lt_of_le (Y3 _ _ _) (Nat.pow_le_pow_right (by omega) hf8)
    have hand:f.a.getD x 0 &&& invC f.a f.n x < 2 ^ 8:=Nat.and_lt_two_pow _ hi8
    have h2x:2 ^ x < 2 ^ 8:=Nat.pow_lt_pow_right (by omega) (by omega)
    ((with_reducible refine iFa ?_);refine iLdB (by assumption) (by first | rfl | simp) ?_;(with_reducible refine iIaNN (by assumption) ?_ (fun pa_ hpa_=>?_));omega;(with_reducible refine iLd (by assumption) ?_);refine iLdB (by assumption) (by first | rfl | simp) ?_;(with_reducible refine iIaNN (by assumption) ?_ (fun pa_ hpa_=>?_));omega;(with_reducible refine iLd (by assumption) ?_))
    rw [aDN f x hx]
    refine iBAnd (by omega) (by omega) ?_
    refine rI (by omega) ?_
    refine iRetQ (fun w'' _=>EM _ _ (by omega) (by omega) w'') ?_
    intro w1' h1'
    exact ⟨rfl,h1'⟩
   ·rw [Z5]
    exact ⟨rfl,hX.trans h⟩
theorem M7 {v:Value} {w:World} {l:List Int} (hs:SlI w v l):Ret Tryz.prog D9 #[v] w (.agg #[.int .i64 (l.length:Int),v]):=by
 apply RY;unfold CM
 have hX:=Ext.refl w
 refine iNew fun b w1 hb h hB=>?_
 have hlb:w.heap.size ≤ b:=by have:=hX.size;omega
 have hX:=hX.trans h
 have hs:=hs.ext h
 refine iRet (jA hs) fun w2 h=>?_
 rw [bV]
 have hX:=hX.trans h
 have hB:=hB.ext h
 obtain ⟨va,vc,rfl,_⟩:=id hs
 refine bB (cs:=#[.int .i64 (l.length:Int),.slice va (ints l).length vc]) (by simp [Instr.fill,Value.cells]) ?_
 refine iStAB hB rfl rfl (by
  intro x hx
  simp at hx
  rcases hx with rfl | rfl <;> rfl) fun w3 hu hB=>?_
 have hX:=hX.upd hu hlb
 ((with_reducible refine iLdA (by assumption) ?_ ?_);rfl)
 exact ⟨rfl,hX⟩
theorem H3 {v:Value} {w:World} {l:List Int} (hs:SlI w v l) (n:Int):Ret Tryz.prog tZ #[.agg #[.int .i64 n,v]] w (.agg #[.int .i64 (l.length:Int),v]):=by
 apply IJ;unfold tB
 have hX:=Ext.refl w
 refine iNew fun b1 w1 hb1 h hB1=>?_
 have hX:=hX.trans h
 have hs:=hs.ext h
 refine iNew fun b2 w2 hb2 h hB2=>?_
 have hlb2:w.heap.size ≤ b2:=by have:=hX.size;omega
 have hX:=hX.trans h
 have hs:=hs.ext h
 have hB1:=hB1.ext h
 ((with_reducible refine iFa ?_);refine iLdB (by assumption) (by first | rfl | simp) ?_)
 refine iRet (M7 hs) fun w3 h=>?_
 have hX:=hX.trans h
 have hB2:=hB2.ext h
 obtain ⟨va,vc,rfl,_⟩:=id hs
 refine iStAB hB2 rfl rfl (by
  intro x hx
  simp at hx
  rcases hx with rfl | rfl <;> rfl) fun w4 hu hB2=>?_
 have hX:=hX.upd hu hlb2
 ((with_reducible refine iLdA (by assumption) ?_ ?_);rfl)
 exact ⟨rfl,hX⟩
def iM (n:Int) (l:List Int):Bool:=iK n l && poB (frOf n l)
theorem Q2 {v:Value} {w:World} {l:List Int} (hs:SlI w v l) (n:Int):Ret Tryz.prog CU #[.agg #[.int .i64 n,v]] w (.bool (iM n l)):=by
 apply TA;unfold DV
 have hX:=Ext.refl w
 refine iNew fun b w1 hb h hB=>?_
 have hX:=hX.trans h
 have hs:=hs.ext h
 refine iJnB (!iK n l) w1 (fun J hJ=>?_) (fun w3 h=>?_)
 ·((with_reducible refine iFa ?_);refine iLdB (by assumption) (by first | rfl | simp) ?_)
  refine iRetQ (fun w' _=>e4 _ _ _ w') ?_
  ((with_reducible refine iNot ?_))
  refine iCnd (fun h3=>?_) (fun h3=>?_)
  ·intro w4 h4
   have:=hJ w4 h4
   unfold iK at this
   rw [Bool.not_eq_true'] at h3
   rwa [h3,Bool.false_and,Bool.false_and] at this
  ·rw [Bool.not_eq_false'] at h3
   have h3':=of_decide_eq_true h3
   ((with_reducible refine iFa ?_);refine iLdB (by assumption) (by first | rfl | simp) ?_)
   refine iRetQ (fun w' h'=>jA (hs.ext h')) ?_
   rw [bV]
   ((with_reducible refine iFa ?_);refine iLdB (by assumption) (by first | rfl | simp) ?_;(with_reducible refine iNe ?_))
   refine iCndP (fun h4=>?_) (fun h4=>?_)
   ·intro w4 h5
    have:=hJ w4 h5
    unfold iK at this
    rwa [decide_eq_false h4,Bool.and_false,Bool.false_and] at this
   ·have h4:(l.length:Int) = n:=Decidable.not_not.1 h4
    ((with_reducible refine iFa ?_);refine iLdB (by assumption) (by first | rfl | simp) ?_)
    refine iRetQ (fun w' h'=>JO (hs.ext h')) ?_
    ((with_reducible refine iNot ?_))
    intro w4 h5
    have:=hJ w4 h5
    unfold iK at this
    rw [h3,decide_eq_true h4,Bool.true_and,Bool.true_and] at this
    have e:n.toNat = l.length:=by omega
    rw [e] at this
    simp only [show l.length ≤ 30 by omega,decide_true,Bool.true_and]
    exact this
 have hX:=hX.trans h
 have hs:=hs.ext h
 have hB:=hB.ext h
 (intro _;(try simp only [gx]))
 unfold iM
 cases hfr:iK n l
 ·refine iCndT rfl ?_
  exact ⟨rfl,hX⟩
 ·refine iCndF rfl ?_
  obtain ⟨hf,hn,hl⟩:=QO hfr
  generalize frOf n l = f at *
  subst hn;subst hl
  have hs0:=hs
  have hX0:=hX
  have hX:=Ext.refl w3
  ((with_reducible refine iLdA (by assumption) ?_ ?_);rfl)
  refine iRet (H3 hs _) fun w7 h=>?_
  have hlen:(nats f.a).length = f.n:=by rw [bU,hf.2.1]
  rw [hlen]
  have hX:=hX.trans h
  refine iNew fun b3 w8 hb3 h hC=>?_
  have hlb3:w3.heap.size ≤ b3:=by have:=hX.size;omega
  have hX:=hX.trans h
  obtain ⟨va,vc,rfl,_⟩:=id hs
  refine iStAB hC rfl rfl (by
   intro x hx
   simp at hx
   rcases hx with rfl | rfl <;> rfl) fun w9 hu hC=>?_
  have hX:=hX.upd hu hlb3
  refine iJnB (poB f) w9 (fun J hJ=>?_) (fun w11 h=>?_)
  ·((with_reducible refine iLdA (by assumption) ?_ ?_);rfl)
   refine iRet (iI hf (hs0.ext hX) 0 (.inl rfl)) fun w12 h=>?_
   have hX:=hX.trans h
   have hC:=hC.ext h
   have hh:=h
   cases h1:flagB 0 f
   ·refine iCndF rfl ?_
    have:=hJ w12 hh
    unfold poB at this
    rwa [h1] at this
   ·refine iCndT rfl ?_
    ((with_reducible refine iLdA (by assumption) ?_ ?_);rfl)
    refine iRet (iI hf (hs0.ext hX) 2 (.inr (.inl rfl))) fun w13 h=>?_
    have hX:=hX.trans h
    have hC:=hC.ext h
    have hh:=hh.trans h
    cases h2:flagB 2 f
    ·refine iCndF rfl ?_
     have:=hJ w13 hh
     unfold poB at this
     rwa [h1,h2] at this
    ·refine iCndT rfl ?_
     ((with_reducible refine iLdA (by assumption) ?_ ?_);rfl)
     refine iRet (iI hf (hs0.ext hX) 8 (.inr (.inr rfl))) fun w14 h=>?_
     have:=hJ w14 (hh.trans h)
     unfold poB at this
     rwa [h1,h2,Bool.true_and,Bool.true_and] at this
  ·(intro _;(try simp only [gx]))
   exact ⟨rfl,hX0.trans (hX.trans h)⟩
end Go.Proofs.YteifjhpddhppcaaGreatDoor

namespace Go.Vc
section
variable {f g:Fr} {fix:List Int} {onto:Bool} {ord:List Nat}
end
end Go.Vc

namespace Go.Vc
structure Po (f:Fr):Prop where
 ok:f.ok
 refl:∀ x,x < f.n → (f.a.getD x 0).testBit x = true
 trans:∀ x y z,(f.a.getD x 0).testBit y = true → (f.a.getD y 0).testBit z = true → (f.a.getD x 0).testBit z = true
 anti:∀ x y,(f.a.getD x 0).testBit y = true → (f.a.getD y 0).testBit x = true → x = y
theorem po_of {f:Fr} (hf:f.ok) (h:poB f = true):Po f:=by
 unfold poB at h
 rw [Bool.and_eq_true,Bool.and_eq_true] at h
 obtain ⟨h0,h2,h8⟩:=h
 refine ⟨hf,fun x hx=>?_,(B1 hf).1 h2,fun x y h1 h2=>?_⟩
 ·rw [FK,List.all_eq_true] at h0
  exact h0 x (List.mem_range.2 hx)
 ·obtain ⟨hx,hy⟩:=oE hf h1
  have:=(sX.1 h8 x hx).2 y hy
  unfold flag2 at this
  rw [h1,h2] at this
  simpa using this
end Go.Vc

namespace Go.Vc
section
variable {f g:Fr} {fix:List Int} {onto:Bool}
end
end Go.Vc

namespace Go.Vc
section
variable {α:Type} {lt:α → α → Bool}
variable {β:Type} {key:β → α}
end
end Go.Vc

namespace Go.Vc
end Go.Vc

namespace Go.Vc
section
variable {f:Fr} {mask:Nat}
end
def upK (f:Fr) (k:Nat):List Nat:=(List.range k).filter fun m=>decide (rowsK f.a m f.n = m)
def dZ (f:Fr):List Nat:=upK f (2 ^ f.n)
theorem I4 {f:Fr} {m:Nat} (h:m ∈ dZ f):m < 2 ^ f.n:=List.mem_range.1 (List.mem_filter.1 h).1
end Go.Vc

namespace Go.Vc
section
variable {w:World}
end
end Go.Vc
namespace Go.Proofs.YteifjhpddhppcaaGreatDoor
open Go.Vc
end Go.Proofs.YteifjhpddhppcaaGreatDoor

namespace Go.Proofs.YteifjhpddhppcaaGreatDoor
open Go.Vc
end Go.Proofs.YteifjhpddhppcaaGreatDoor

namespace Go.Vc
end Go.Vc
namespace Go.Proofs.YteifjhpddhppcaaGreatDoor
open Go.Vc
theorem U8 {n:Int} {l:List Int} (h:iM n l = true):iK n l = true ∧ (l.length:Int) = n:=by
 unfold iM at h
 rw [Bool.and_eq_true] at h
 refine ⟨h.1,?_⟩
 have h1:=h.1
 unfold iK at h1
 rw [Bool.and_eq_true,Bool.and_eq_true,decide_eq_true_eq,decide_eq_true_eq] at h1
 exact h1.1.2
end Go.Proofs.YteifjhpddhppcaaGreatDoor

namespace Go.Proofs.YteifjhpddhppcaaGreatDoor
open Go.Vc
end Go.Proofs.YteifjhpddhppcaaGreatDoor

namespace Go.Vc
end Go.Vc
namespace Go.Proofs.YteifjhpddhppcaaGreatDoor
open Go.Vc
end Go.Proofs.YteifjhpddhppcaaGreatDoor

namespace Go.Vc
end Go.Vc
namespace Go.Proofs.YteifjhpddhppcaaGreatDoor
open Go.Vc
end Go.Proofs.YteifjhpddhppcaaGreatDoor

namespace Go.Vc
end Go.Vc
namespace Go.Proofs.YteifjhpddhppcaaGreatDoor
open Go.Vc
end Go.Proofs.YteifjhpddhppcaaGreatDoor

namespace Go.Vc
def orK (a:List Nat) (ms:List Nat) (k:Nat):Nat:=((ms.take k).map fun i=>a.getD i 0).foldl (· ||| ·) 0
theorem V3 (a ms:List Nat) (k:Nat) (h:k < ms.length):orK a ms (k + 1) = orK a ms k ||| a.getD ms[k] 0:=by
 unfold orK
 rw [List.take_succ_eq_append_getElem h,List.map_append,List.foldl_append];rfl
theorem XG {a:List Nat} {n:Nat} (h:∀ x ∈ a,x < 2 ^ n) (ms:List Nat):∀ k,k ≤ ms.length → orK a ms k < 2 ^ n
 | 0,_=>by simp [orK];exact Nat.two_pow_pos n
 | k + 1,hk=>by
  rw [V3 a ms k (by omega)]
  refine Nat.or_lt_two_pow (XG h ms k (by omega)) ?_
  by_cases hi:ms[k] < a.length
  ·simp only [List.getD_eq_getElem?_getD,List.getElem?_eq_getElem hi,Option.getD_some];exact h _ (List.getElem_mem _)
  ·simp [List.getD_eq_getElem?_getD,List.getElem?_eq_none (Nat.le_of_not_lt hi)];exact Nat.two_pow_pos n
theorem V5 {m n:Nat} (hn:n ≤ 62) (hm:m < 2 ^ n):memK m n = mem m:=
 TV (Nat.lt_of_lt_of_le hm (Nat.pow_le_pow_right (by omega) (by omega))) (by rw [Nat.shiftRight_eq_div_pow];exact Nat.div_eq_of_lt hm)
theorem aDB {a:List Nat} {m n:Nat} (hn:n ≤ 62) (hm:m < 2 ^ n):orK a (mem m) (mem m).length = rowsK a m n:=by
 unfold orK rowsK
 rw [List.take_length,V5 hn hm]
theorem V0 {m n:Nat} (hn:n ≤ 62) (hm:m < 2 ^ n):∀ x ∈ mem m,x < n:=by
 rw [← V5 hn hm]
 exact fun _ hx=>aD0 hx
end Go.Vc
namespace Go.Proofs.YteifjhpddhppcaaGreatDoor
open Go.Vc
theorem VB {v:Value} {w:World} {a:List Nat} (hs:SlN w v a) (hal:a.length ≤ 8) (hlt:∀ x ∈ a,x < 2 ^ a.length) (m:Nat) (hm:m < 2 ^ a.length):Ret Tryz.prog KS #[v,.int .i64 (m:Int)] w (.int .i64 ((rowsK a m a.length:Nat):Int)):=by
 apply WC;unfold II
 have h8:∀ z,z < 2 ^ a.length → z < 2 ^ 8:=fun z hz=>Nat.lt_of_lt_of_le hz (Nat.pow_le_pow_right (by omega) hal)
 have hm8:=h8 m hm
 refine iCall ((vE m (by omega) w).mono ?_)
 rintro u w1 ⟨h1,hou⟩
 have hml63:(mem m).length ≤ 63:=rQ _ _
 have hmlt:=V0 (by omega) hm
 have hus:SlN w1 u (mem m):=hou.sl
 ((with_reducible refine iLenN (by assumption) ?_))
 refine iLp (fun k:Nat=>[.int .i64 ((orK a (mem m) k:Nat):Int),.int .i64 (k:Int)]) (fun k w'=>k ≤ (mem m).length ∧ Ext w1 w') (fun k=>(mem m).length - k) 0 rfl ⟨Nat.zero_le _,Ext.refl _⟩ ?_
 rintro k w3 Kn ⟨hk,h3⟩ hKn
 have hus3:=hus.ext h3
 have hs3:=(hs.ext h1).ext h3
 (intro _;(try simp only [gx]);(with_reducible refine iLt ?_))
 refine iCndP (fun h4=>?_) (fun h4=>?_)
 ·have hk1:k < (mem m).length:=by omega
  have hg:(mem m).getD k 0 = (mem m)[k]:=FU hk1
  have hx:=hmlt _ (List.getElem_mem hk1)
  ((with_reducible refine iIaNN (by assumption) ?_ (fun pa_ hpa_=>?_));omega;(with_reducible refine iLd (by assumption) ?_);(with_reducible refine iIaNN (by assumption) ?_ (fun pa_ hpa_=>?_));omega;(with_reducible refine iLd (by assumption) ?_))
  rw [hg]
  have ho:=h8 _ (XG hlt (mem m) k (by omega))
  have ho':=h8 _ (XG hlt (mem m) (k + 1) (by omega))
  have hsu:=V3 a (mem m) k hk1
  have hgl:a.getD (mem m)[k] 0 < 2 ^ 8:=by
   rw [FU hx];exact h8 _ (hlt _ (List.getElem_mem hx))
  refine iBOr (by omega) (by omega) ?_
  rw [← hsu]
  (refine iAdd (by omega) ?_)
  exact hKn (k + 1) _ ⟨by omega,h3⟩ (by omega)
 ·obtain rfl:k = (mem m).length:=by omega
  rw [aDB (by omega) hm]
  exact ⟨rfl,h1.trans h3⟩
theorem vH (n:Nat) (hn:n ≤ 8) (v:Value) (w:World):Ret Tryz.prog yK #[.agg #[.int .i64 (n:Int),v]] w (.int .i64 ((2 ^ n - 1:Nat):Int)):=by
 apply M4;unfold xG
 have h2n:2 ^ n ≤ 2 ^ 8:=Nat.pow_le_pow_right (by omega) hn
 have hpos:=Nat.two_pow_pos n
 refine iNew fun b w1 hb1 h hB=>?_
 ((with_reducible refine iFa ?_);refine iLdB (by assumption) (by first | rfl | simp) ?_)
 refine rI (by omega) ?_
 (refine iSub (by omega) ?_)
 exact ⟨by congr 1;omega,h⟩
theorem DH {f:Fr} (hf:f.ok) {v:Value} {w:World} (hs:SlN w v f.a) (m:Nat) (hm:m < 2 ^ f.n):Ret Tryz.prog i7 #[.agg #[.int .i64 (f.n:Int),v],.int .i64 (m:Int)] w (.bool (decide (rowsK f.a m f.n = m))):=by
 apply pB;unfold jC
 have hf8:=hf.1
 have hfl:=hf.2.1
 have h2n:2 ^ f.n ≤ 2 ^ 8:=Nat.pow_le_pow_right (by omega) hf8
 refine iNew fun b w1 hb1 h hB=>?_
 refine iJnB (decide (rowsK f.a m f.n = m)) w1 (fun J hJ=>?_) (fun w3 h3=>?_)
 ·((with_reducible refine iFa ?_);refine iLdB (by assumption) (by first | rfl | simp) ?_)
  refine iRet (rD f.n m (by omega) w1) fun w4 h4=>?_
  have hB4:=hB.ext h4
  have hs4:=(hs.ext h).ext h4
  have hmb:(decide (f.n ≤ 30) && maskB f.n (m:Int)) = true:=by
   unfold maskB
   rw [Bool.and_eq_true,decide_eq_true_eq,decide_eq_true_eq];omega
  rw [hmb]
  refine iCndT rfl ?_
  have hri:=VB hs4 (by omega) (by rw [hfl];exact hf.2.2) m (by rw [hfl];exact hm)
  rw [hfl] at hri
  ((with_reducible refine iFa ?_);refine iLdB (by assumption) (by first | rfl | simp) ?_)
  refine iRet hri fun w5 h5=>?_
  ((with_reducible refine iEq ?_))
  have:=hJ w5 (h4.trans h5)
  have e:decide (((rowsK f.a m f.n:Nat):Int) = (m:Int)) = decide (rowsK f.a m f.n = m):=decide_eq_decide.2 (by omega)
  rw [e];exact this
 ·(intro _;(try simp only [gx]))
  exact ⟨by trivial,h.trans h3⟩
end Go.Proofs.YteifjhpddhppcaaGreatDoor

namespace Go.Vc
end Go.Vc
namespace Go.Proofs.YteifjhpddhppcaaGreatDoor
open Go.Vc
end Go.Proofs.YteifjhpddhppcaaGreatDoor

namespace Go.Vc
end Go.Vc
namespace Go.Proofs.YteifjhpddhppcaaGreatDoor
open Go.Vc
end Go.Proofs.YteifjhpddhppcaaGreatDoor

namespace Go.Vc
section
variable {a:List Nat}
end
section
variable {f g:Fr}
end
end Go.Vc

namespace Go.Vc
section
variable {w:World}
end
end Go.Vc
namespace Go.Proofs.YteifjhpddhppcaaGreatDoor
open Go.Vc
end Go.Proofs.YteifjhpddhppcaaGreatDoor

namespace Go.Vc
end Go.Vc
namespace Go.Proofs.YteifjhpddhppcaaGreatDoor
open Go.Vc
end Go.Proofs.YteifjhpddhppcaaGreatDoor

namespace Go.Vc
end Go.Vc
namespace Go.Proofs.YteifjhpddhppcaaGreatDoor
open Go.Vc
end Go.Proofs.YteifjhpddhppcaaGreatDoor

namespace Go.Proofs.YteifjhpddhppcaaGreatDoor
open Go.Vc
theorem aAE {n:Int} {l:List Int} (h:iM n l = true):Po (frOf n l) ∧ n = ((frOf n l).n:Int) ∧ l = nats (frOf n l).a:=by
 have h0:=U8 h
 unfold iM at h
 rw [Bool.and_eq_true] at h
 obtain ⟨hf,hn,hl⟩:=QO h0.1
 exact ⟨po_of hf h.2,hn,hl⟩
end Go.Proofs.YteifjhpddhppcaaGreatDoor

namespace Go.Vc
section
variable {P:Program} {w:World}
end
end Go.Vc
namespace Go.Proofs.YteifjhpddhppcaaGreatDoor
open Go.Vc
end Go.Proofs.YteifjhpddhppcaaGreatDoor

namespace Go.Vc
end Go.Vc
namespace Go.Proofs.YteifjhpddhppcaaGreatDoor
open Go.Vc
end Go.Proofs.YteifjhpddhppcaaGreatDoor

namespace Go.Vc
section
variable {f g:Fr}
end
end Go.Vc
namespace Go.Proofs.YteifjhpddhppcaaGreatDoor
open Go.Vc
end Go.Proofs.YteifjhpddhppcaaGreatDoor

namespace Go.Proofs.YteifjhpddhppcaaGreatDoor
open Go.Vc
end Go.Proofs.YteifjhpddhppcaaGreatDoor

namespace Go.Vc
def Fr.r (f:Fr) (x y:Nat):Prop:=(f.a.getD x 0).testBit y = true
theorem fN {f:Fr} (hp:Po f) {m:Nat}:m ∈ dZ f ↔ m < 2 ^ f.n ∧ ∀ v u,m.testBit v = true → f.r v u → m.testBit u = true:=by
 unfold dZ upK
 rw [List.mem_filter,List.mem_range,decide_eq_true_eq]
 refine and_congr_right fun hm=>?_
 constructor
 ·intro h v u hv hu
  rw [← h,zM]
  exact ⟨v,(oE hp.ok hu).1,hv,hu⟩
 ·intro h
  apply Nat.eq_of_testBit_eq
  intro j
  rw [Bool.eq_iff_iff,zM]
  constructor
  ·rintro ⟨i,_,hi,hj⟩;exact h i j hi hj
  ·intro hj
   have hjn:j < f.n:=by
    rcases Nat.lt_or_ge j f.n with h' | h'
    ·exact h'
    ·rw [Nat.testBit_lt_two_pow (Nat.lt_of_lt_of_le hm (Nat.pow_le_pow_right (by omega) h'))] at hj;cases hj
   exact ⟨j,hjn,hj,hp.refl j hjn⟩
end Go.Vc

namespace Go.Proofs.YteifjhpddhppcaaGreatDoor
open Go.Vc
end Go.Proofs.YteifjhpddhppcaaGreatDoor

namespace Go.Vc
def impM (f:Fr) (a b:Nat):Nat:=setOf ((List.range f.n).filter fun i=>decide (sdiff (f.a.getD i 0) (sdiff (2 ^ f.n - 1) a ||| b) = 0))
end Go.Vc

namespace Go.Vc
section
universe u
variable {α:Type u} {enc:α → Value}
end
end Go.Vc
namespace Go.Proofs.YteifjhpddhppcaaGreatDoor
open Go.Vc
end Go.Proofs.YteifjhpddhppcaaGreatDoor

namespace Go.Vc
def boxK (a:List Nat) (m k:Nat):Nat:=setOf ((List.range k).filter fun i=>decide (sdiff (a.getD i 0) m = 0))
theorem aAX (a:List Nat) (m k:Nat):boxK a m (k + 1) = if sdiff (a.getD k 0) m = 0 then boxK a m k ||| 2 ^ k else boxK a m k:=by
 unfold boxK
 rw [List.range_succ,List.filter_append]
 by_cases h:sdiff (a.getD k 0) m = 0
 ·rw [if_pos h,← PE,List.filter_cons,if_pos (decide_eq_true h),List.filter_nil]
 ·rw [if_neg h,List.filter_cons,if_neg (by rw [decide_eq_true_eq];exact h),List.filter_nil,List.append_nil]
theorem aDU (a:List Nat) (m k:Nat):boxK a m k < 2 ^ k:=FL fun _ hy=>List.mem_range.1 (List.mem_filter.1 hy).1
end Go.Vc
namespace Go.Proofs.YteifjhpddhppcaaGreatDoor
open Go.Vc
theorem X0 {v:Value} {w:World} {a:List Nat} (hs:SlN w v a) (hl:a.length ≤ 8) (ha:∀ x ∈ a,x < 2 ^ 8) (m:Nat) (hm:m < 2 ^ 63):Ret Tryz.prog Q9 #[v,.int .i64 (m:Int)] w (.int .i64 ((boxK a m a.length:Nat):Int)):=by
 apply aAD;unfold QS
 ((with_reducible refine iLenN (by assumption) ?_))
 refine iLp (fun k:Nat=>[.int .i64 ((boxK a m k:Nat):Int),.int .i64 (k:Int)]) (fun k w'=>k ≤ a.length ∧ Ext w w') (fun k=>a.length - k) 0 rfl ⟨Nat.zero_le _,Ext.refl w⟩ ?_
 rintro k w2 Kn ⟨hk,h2⟩ hKn
 have hs2:=hs.ext h2
 (intro _;(try simp only [gx]);(with_reducible refine iLt ?_))
 refine iCndP (fun h3=>?_) (fun h3=>?_)
 ·have hk1:k < a.length:=by omega
  have hak:a.getD k 0 < 2 ^ 8:=SZ ha hk1
  have hb8:boxK a m k < 2 ^ 8:=Nat.lt_of_lt_of_le (aDU a m k) (Nat.pow_le_pow_right (by omega) (by omega))
  have hbs:=aAX a m k
  ((with_reducible refine iIaNN (by assumption) ?_ (fun pa_ hpa_=>?_));omega;(with_reducible refine iLd (by assumption) ?_))
  refine iRet (EM _ m (by omega) hm w2) fun w3 h4=>?_
  refine iCndP (fun h5=>?_) (fun h5=>?_)
  ·rw [if_pos h5] at hbs
   have h2k:2 ^ k < 2 ^ 63:=Nat.pow_lt_pow_right (by omega) (by omega)
   refine rI (by omega) ?_
   refine iBOr (by omega) h2k ?_
   rw [← hbs]
   (refine iAdd (by omega) ?_)
   exact hKn (k + 1) _ ⟨by omega,h2.trans h4⟩ (by omega)
  ·rw [if_neg h5] at hbs
   rw [← hbs]
   (refine iAdd (by omega) ?_)
   exact hKn (k + 1) _ ⟨by omega,h2.trans h4⟩ (by omega)
 ·obtain rfl:k = a.length:=by omega
  exact ⟨rfl,h2⟩
theorem U5 {f:Fr} (hf:f.ok) {v:Value} {w:World} (hs:SlN w v f.a) (a b:Nat) (ha:a < 2 ^ f.n) (hb:b < 2 ^ f.n):Ret Tryz.prog t6 #[.agg #[.int .i64 (f.n:Int),v],.int .i64 (a:Int),.int .i64 (b:Int)] w (.int .i64 ((impM f a b:Nat):Int)):=by
 apply KB;unfold sZ
 have hf8:=hf.1
 have h28:2 ^ f.n ≤ 2 ^ 8:=Nat.pow_le_pow_right (by omega) hf8
 refine iNew fun q w1 hq x1 hB=>?_
 have hs1:=hs.ext x1
 ((with_reducible refine iFa ?_);refine iLdB (by assumption) (by first | rfl | simp) ?_;(with_reducible refine iLdA (by assumption) ?_ ?_);rfl)
 refine iRetQ (fun w' _=>vH f.n hf8 v w') ?_
 refine OT (by omega) (by omega) ?_
 have h1:sdiff (2 ^ f.n - 1) a < 2 ^ f.n:=WX (by have:=Nat.two_pow_pos f.n;omega)
 refine iBOr (by omega) (by omega) ?_
 have h2:sdiff (2 ^ f.n - 1) a ||| b < 2 ^ f.n:=Nat.or_lt_two_pow h1 hb
 refine iRetQ (fun w' h'=>X0 (hs1.ext h') (by rw [hf.2.1];exact hf8) (fun x hx=>Nat.lt_of_lt_of_le (hf.2.2 x hx) h28) _ (by omega)) ?_
 intro w2 x2
 rw [hf.2.1]
 exact ⟨rfl,x1.trans x2⟩
end Go.Proofs.YteifjhpddhppcaaGreatDoor

namespace Go.Proofs.YteifjhpddhppcaaGreatDoor
open Go.Vc
def frc (f:Fr) (V:Nat → Nat):Fm → Nat
 | .var v=>V v
 | .fls=>0
 | .and a b=>frc f V a &&& frc f V b
 | .or a b=>frc f V a ||| frc f V b
 | .imp a b=>impM f (frc f V a) (frc f V b)
 | .box _=>0
 | .dia _=>0
def ValOk (f:Fr) (V:Nat → Nat):Prop:=∀ v,V v ∈ dZ f
theorem E5 {f:Fr} (hf:f.ok) {a b x:Nat}:(impM f a b).testBit x = true ↔ x < f.n ∧ ∀ y,f.r x y → a.testBit y = true → b.testBit y = true:=by
 unfold impM
 rw [uG,List.contains_iff_mem,List.mem_filter,List.mem_range,decide_eq_true_eq,jI]
 refine and_congr_right fun hx=>?_
 constructor
 ·intro h y hy ha
  have:=h y hy
  rw [Nat.testBit_or,e8,ha] at this
  simpa using this
 ·intro h y hy
  rw [Nat.testBit_or,e8,VV,decide_eq_true (oE hf hy).2]
  cases ha:a.testBit y
  ·simp
  ·rw [h y hy ha];simp
theorem KZ {f:Fr} (hp:Po f):0 ∈ dZ f:=(fN hp).2 ⟨Nat.two_pow_pos _,fun v u h=>by rw [Nat.zero_testBit] at h;cases h⟩
theorem aFJ {f:Fr} (hp:Po f) {a b:Nat} (ha:a ∈ dZ f) (hb:b ∈ dZ f):a &&& b ∈ dZ f:=by
 obtain ⟨a1,a2⟩:=(fN hp).1 ha
 obtain ⟨b1,b2⟩:=(fN hp).1 hb
 refine (fN hp).2 ⟨Nat.and_lt_two_pow _ b1,fun v u h hr=>?_⟩
 rw [Nat.testBit_and,Bool.and_eq_true] at h ⊢
 exact ⟨a2 v u h.1 hr,b2 v u h.2 hr⟩
theorem or_up {f:Fr} (hp:Po f) {a b:Nat} (ha:a ∈ dZ f) (hb:b ∈ dZ f):a ||| b ∈ dZ f:=by
 obtain ⟨a1,a2⟩:=(fN hp).1 ha
 obtain ⟨b1,b2⟩:=(fN hp).1 hb
 refine (fN hp).2 ⟨Nat.or_lt_two_pow a1 b1,fun v u h hr=>?_⟩
 rw [Nat.testBit_or,Bool.or_eq_true] at h ⊢
 exact h.imp (fun h=>a2 v u h hr) fun h=>b2 v u h hr
theorem aE9 {f:Fr} (hp:Po f) {a b:Nat}:impM f a b ∈ dZ f:=by
 refine (fN hp).2 ⟨FL fun y hy=>List.mem_range.1 (List.mem_filter.1 hy).1,fun v u h hr=>?_⟩
 rw [E5 hp.ok] at h ⊢
 exact ⟨(oE hp.ok hr).2,fun y hy=>h.2 y (hp.trans _ _ _ hr hy)⟩
theorem IU {f:Fr} (hp:Po f) {V:Nat → Nat} (hV:ValOk f V):∀ a,frc f V a ∈ dZ f
 | .var v=>hV v
 | .fls=>KZ hp
 | .and a b=>aFJ hp (IU hp hV a) (IU hp hV b)
 | .or a b=>or_up hp (IU hp hV a) (IU hp hV b)
 | .imp _ _=>aE9 hp
 | .box _=>KZ hp
 | .dia _=>KZ hp
theorem aEM {f:Fr} (hp:Po f) {V:Nat → Nat} (hV:ValOk f V) (a:Fm):frc f V a < 2 ^ f.n:=I4 (IU hp hV a)

/-! ### The least elements of a set -/

/-! ### Premises -/

/-! ### The poset's own sets -/
end Go.Proofs.YteifjhpddhppcaaGreatDoor

namespace Go.Proofs.YteifjhpddhppcaaGreatDoor
open Go.Vc
theorem jL {L:List Str} {a:Fm} (hg:a.good):VT L a.body ↔ Vld (L.map fT) a:=by unfold VT;rw [aF hg]
theorem fs_of {L L':List Str} {M:KM} {w:M.W} (hw:M.fs (L.map fT) w) (h:∀ t ∈ L',t ∈ L ∨ M.f (fT t) w):M.fs (L'.map fT) w:=fun b hb=>by
 obtain ⟨t,ht,rfl⟩:=List.mem_map.1 hb
 rcases h t ht with h | h
 ·exact hw _ (List.mem_map.2 ⟨t,h,rfl⟩)
 ·exact h
/-! ### Steps that keep what does not hold -/
theorem YK {L:List Str} {x y:Fm} {r:Str} (hg:(Fm.and x y).good) (hm:(Fm.and x y).body ∈ L) (hn:¬ VT L r):¬ VT (setT (L ++ [x.body,y.body])) r:=fun h=>hn fun M w hw=>h M w (fs_of hw fun t ht=>by
 have hxy:=mem_f hg hw hm
 rw [fX] at ht
 simp only [List.mem_append,List.mem_cons,List.not_mem_nil,or_false] at ht
 rcases ht with ht | rfl | rfl
 ·exact .inl ht
 ·exact .inr (by rw [aF hg.1];exact hxy.1)
 ·exact .inr (by rw [aF hg.2];exact hxy.2))
theorem ZZ {L:List Str} {x y:Fm} {r:Str} (hg:(Fm.or x y).good) (hm:(Fm.or x y).body ∈ L) (hn:¬ VT L r) (hx:VT (addT L x.body) r):¬ VT (addT L y.body) r:=fun h=>hn fun M w hw=>by
 rcases mem_f hg hw hm with hf | hf
 ·exact hx M w ((LA hg.1).2 ⟨hf,hw⟩)
 ·exact h M w ((LA hg.2).2 ⟨hf,hw⟩)
theorem YH {L:List Str} {x y:Fm} {r:Str} (hg:(Fm.imp x y).good) (hm:(Fm.imp x y).body ∈ L) (hn:¬ VT L r) (hx:VT L x.body):¬ VT (addT L y.body) r:=fun h=>hn fun M w hw=>by
 have h1:=(jL hg.1).1 hx M w hw
 exact h M w ((LA hg.2).2 ⟨mem_f hg hw hm w (M.refl w) h1,hw⟩)
theorem I0 {L:List Str} {x y:Fm} (hg:(Fm.and x y).good) (hn:¬ VT L (Fm.and x y).body) (hx:VT L x.body):¬ VT L y.body:=fun h=>hn ((jL hg).2 fun M w hw=>⟨(jL hg.1).1 hx M w hw,(jL hg.2).1 h M w hw⟩)
theorem XZ {L:List Str} {x y:Fm} (hg:(Fm.or x y).good) (hn:¬ VT L (Fm.or x y).body):¬ VT L x.body ∧ ¬ VT L y.body:=
 ⟨fun h=>hn ((jL hg).2 fun M w hw=>.inl ((jL hg.1).1 h M w hw)),fun h=>hn ((jL hg).2 fun M w hw=>.inr ((jL hg.2).1 h M w hw))⟩
theorem IL {L:List Str} {x y:Fm} (hg:(Fm.imp x y).good) (hn:¬ VT L (Fm.imp x y).body):¬ VT (addT L x.body) y.body:=fun h=>hn ((jL hg).2 fun M w hw u hu hx=>
 (jL hg.2).1 h M u ((LA hg.1).2 ⟨hx,fun b hb=>M.up b w u hu (hw b hb)⟩))
theorem YB {L:List Str} {x y:Fm} (hg:(Fm.imp x y).good) (hn:¬ VT L (Fm.imp x y).body):¬ VT L y.body:=fun h=>hn ((jL hg).2 fun M w hw=>mN ((jL hg.2).1 h M w hw))
theorem Z1 {L:List Str} {r:Str} (hn:¬ VT L r):¬ r ∈ L:=fun h=>hn fun _ _ hw=>hw _ (List.mem_map.2 ⟨r,h,rfl⟩)
theorem aA4 {L:List Str} {r:Str} (hn:¬ VT L r):¬ Fm.fls.body ∈ L:=fun h=>hn fun _ _ hw=>(mem_f (x:=.fls) trivial hw h).elim
/-! ### What falls with r' where L holds -/
inductive Ref (L:List Str) (r':Fm):Fm → Prop
 | refl:Ref L r' r'
 | andl {a b:Fm}:Ref L r' a → Ref L r' (.and a b)
 | andr {a b:Fm}:Ref L r' b → Ref L r' (.and a b)
 | imp {a b:Fm}:a.body ∈ L → Ref L r' b → Ref L r' (.imp a b)
theorem Ref.mono {L L':List Str} {r' a:Fm} (h:Ref L r' a) (hs:∀ t ∈ L,t ∈ L'):Ref L' r' a:=by
 induction h with
 | refl=>exact .refl
 | andl _ ih=>exact .andl ih
 | andr _ ih=>exact .andr ih
 | imp hm _ ih=>exact .imp (hs _ hm) ih
theorem Ref.trans {L:List Str} {x y z:Fm} (h:Ref L x y) (k:Ref L y z):Ref L x z:=by
 induction k with
 | refl=>exact h
 | andl _ ih=>exact .andl ih
 | andr _ ih=>exact .andr ih
 | imp hm _ ih=>exact .imp hm ih
theorem Ref.size {L:List Str} {r' a:Fm} (h:Ref L r' a):r'.size ≤ a.size:=by
 induction h with
 | refl=>exact Nat.le_refl _
 | andl _ ih=>simp only [Fm.size];omega
 | andr _ ih=>simp only [Fm.size];omega
 | imp _ _ ih=>simp only [Fm.size];omega
/-! ### What is asked of worlds above -/
def Dm (L:List Str) (D:List Sq):Fm → Prop
 | .var p=>¬ (Fm.var p).body ∈ L
 | .and a b=>Dm L D a ∨ Dm L D b
 | .or a b=>Dm L D a ∧ Dm L D b
 | .imp a b=>(a.body ∈ L ∧ Dm L D b) ∨ (addT L a.body,b.body) ∈ D
 | _=>True
theorem Dm.mono {L:List Str} {D D':List Sq} (hs:∀ d ∈ D,d ∈ D'):∀ {a:Fm},Dm L D a → Dm L D' a
 | .var _,h=>h
 | .fls,_=>trivial
 | .box _,_=>trivial
 | .dia _,_=>trivial
 | .and _ _,h=>h.imp (Dm.mono hs) (Dm.mono hs)
 | .or _ _,h=>⟨Dm.mono hs h.1,Dm.mono hs h.2⟩
 | .imp _ _,h=>h.imp (fun ⟨h1,h2⟩=>⟨h1,Dm.mono hs h2⟩) (hs _)
structure DmOk (c:Fm) (L:List Str) (d:Sq):Prop where
 pl:PL c d.1
 right:GT d.2 ∧ fT d.2 ∈ subF c
 nv:¬ VT d.1 d.2
 sub:∀ t ∈ L,t ∈ d.1
 lt:cnt c d.1 < cnt c L
theorem DmOk.of {c:Fm} {L:List Str} {x y:Fm} (hL:PL c L) (hg:(Fm.imp x y).good) (hp:(Fm.imp x y).plain = true) (hs:Fm.imp x y ∈ subF c) (hn:¬ VT L (Fm.imp x y).body) (hx:¬ x.body ∈ L):DmOk c L (addT L x.body,y.body):=by
 have hp:=aQ hp
 have hs:=lL hs
 exact ⟨hL.add hg.1 hp.1 hs.1,⟨GT.of hg.2 hp.2,by rw [aF hg.2];exact hs.2⟩,IL hg hn,fun t ht=>fB.2 (.inl ht),PT (fun t ht=>fB.2 (.inl ht)) hs.1 hx (fB.2 (.inr rfl))⟩
structure SatN (c:Fm) (L:List Str) (r:Str):Prop where
 pl:PL c L
 right:GT r ∧ fT r ∈ subF c
 nv:¬ VT L r
 and_:∀ x y,(Fm.and x y).good → (Fm.and x y).body ∈ L → x.body ∈ L ∧ y.body ∈ L
 or_:∀ x y,(Fm.or x y).good → (Fm.or x y).body ∈ L → x.body ∈ L ∨ y.body ∈ L
 imp_:∀ x y,(Fm.imp x y).good → (Fm.imp x y).body ∈ L → y.body ∈ L ∨ ¬ VT L x.body
/-! ### Worlds -/
structure Nd where
 m:Nat
 l:List Str
 r:Str
instance:Inhabited Nd:=⟨⟨0,[],[]⟩⟩
def RealD (W:List Nd) (x:Nat) (d:Sq):Prop:=∃ y,(gt W x).m.testBit y = true ∧ (∀ t ∈ d.1,t ∈ (gt W y).l) ∧ Ref (gt W y).l (fT (gt W y).r) (fT d.2)
structure jF (c:Fm) (W:List Nd) (n1 x:Nat):Prop where
 sat:SatN c (gt W x).l (gt W x).r
 refl:(gt W x).m.testBit x = true
 rng:∀ j,(gt W x).m.testBit j = true → x ≤ j ∧ j < n1
 trans:∀ j i,(gt W x).m.testBit j = true → (gt W j).m.testBit i = true → (gt W x).m.testBit i = true
 mono:∀ j,(gt W x).m.testBit j = true → ∀ t ∈ (gt W x).l,t ∈ (gt W j).l
 dem:∃ D,Dm (gt W x).l D (fT (gt W x).r) ∧ (∀ a b,(Fm.imp a b).good → (Fm.imp a b).body ∈ (gt W x).l → ¬ b.body ∈ (gt W x).l → Dm (gt W x).l D a) ∧ ∀ d ∈ D,RealD W x d
def fW (W:List Nd):Fr:=⟨W.length,W.map Nd.m⟩
theorem fW_at {W:List Nd} {x:Nat} (hx:x < W.length):(fW W).a.getD x 0 = (gt W x).m:=by
 show (W.map Nd.m).getD x 0 = _
 rw [List.getD_eq_getElem?_getD,List.getElem?_map,List.getElem?_eq_getElem hx,gt_eq hx];rfl
theorem fW_r {W:List Nd} {x y:Nat} (hx:x < W.length):(fW W).r x y ↔ (gt W x).m.testBit y = true:=by
 show ((fW W).a.getD x 0).testBit y = true ↔ _
 rw [fW_at hx]
theorem aFB {W:List Nd} {x y:Nat} (hx:¬ x < W.length):¬ (fW W).r x y:=fun h=>by
 have h:((W.map Nd.m).getD x 0).testBit y = true:=h
 rw [List.getD_eq_getElem?_getD,List.getElem?_eq_none (by rw [List.length_map];omega)] at h
 simp at h
theorem pE {m n:Nat} (h:∀ j,m.testBit j = true → j < n):m < 2 ^ n:=by
 refine Nat.lt_pow_two_of_testBit _ fun i hi=>?_
 cases e:m.testBit i with
 | false=>rfl
 | true=>have:=h i e;omega
theorem fW_po {c:Fm} {W:List Nd} (h8:W.length ≤ 8) (hW:∀ x,x < W.length → jF c W W.length x):Po (fW W):=by
 have inn:∀ {x y:Nat},((fW W).a.getD x 0).testBit y = true → x < W.length:=fun {x y} h=>Classical.byContradiction fun hn=>aFB hn h
 refine ⟨⟨h8,List.length_map _,fun m hm=>?_⟩,fun x hx=>?_,fun x y z h1 h2=>?_,fun x y h1 h2=>?_⟩
 ·obtain ⟨nd,hnd,rfl⟩:=List.mem_map.1 hm
  obtain ⟨x,hx,rfl⟩:=List.getElem_of_mem hnd
  rw [← gt_eq hx]
  exact pE fun j hj=>((hW x hx).rng j hj).2
 ·rw [fW_at hx];exact (hW x hx).refl
 ·have hx:=inn h1
  have hy:=inn h2
  rw [fW_at hx] at h1 ⊢
  rw [fW_at hy] at h2
  exact (hW x hx).trans y z h1 h2
 ·have hx:=inn h1
  have hy:=inn h2
  rw [fW_at hx] at h1
  rw [fW_at hy] at h2
  have:=((hW x hx).rng y h1).1
  have:=((hW y hy).rng x h2).1
  omega
theorem aBP {f:Fr} (hf:f.ok) {V:Nat → Nat} {L:List Str} {r':Fm} {y n:Nat} (hrf:f.r y y) (hr:(frc f V r').testBit y = false) (hi:∀ a:Fm,a.size < n → a.good → a.plain = true → a.body ∈ L → (frc f V a).testBit y = true) {b:Fm} (h:Ref L r' b):b.size ≤ n → b.good → b.plain = true → (frc f V b).testBit y = false:=by
 induction h with
 | refl=>intro _ _ _;exact hr
 | @andl a b _ ih=>
  intro hs hg hp
  simp only [Fm.size] at hs
  show (frc f V a &&& frc f V b).testBit y = false
  rw [Nat.testBit_and,ih (by omega) hg.1 (cC hp).1,Bool.false_and]
 | @andr a b _ ih=>
  intro hs hg hp
  simp only [Fm.size] at hs
  show (frc f V a &&& frc f V b).testBit y = false
  rw [Nat.testBit_and,ih (by omega) hg.2 (cC hp).2,Bool.and_false]
 | @imp a b hm _ ih=>
  intro hs hg hp
  simp only [Fm.size] at hs
  have h1:=hi a (by omega) hg.1 (aQ hp).1 hm
  have h2:=ih (by omega) hg.2 (aQ hp).2
  cases e:(frc f V (.imp a b)).testBit y with
  | false=>rfl
  | true=>
   have:=((E5 hf).1 e).2 y hrf h1
   rw [h2] at this;cases this
theorem truth {c:Fm} {W:List Nd} (h8:W.length ≤ 8) (hW:∀ x,x < W.length → jF c W W.length x) {V:Nat → Nat} (hV:∀ v,v < 6 → ∀ x,x < W.length → ((V v).testBit x = true ↔ (Fm.var v).body ∈ (gt W x).l)):
  ∀ (n:Nat) (a:Fm),a.size < n → a.good → a.plain = true → ∀ x,x < W.length → (a.body ∈ (gt W x).l → (frc (fW W) V a).testBit x = true) ∧ (∀ D,Dm (gt W x).l D a → (∀ d ∈ D,RealD W x d) → (frc (fW W) V a).testBit x = false):=by
 have hP:=fW_po h8 hW
 intro n
 induction n with
 | zero=>intro a h;omega
 | succ n ih=>
  intro a hs hg hp x hx
  have hN:=hW x hx
  have hS:=hN.sat
  cases a with
  | box _=>cases hp
  | dia _=>cases hp
  | var v=>
   refine ⟨fun h=>(hV v hg x hx).2 h,fun D hD _=>?_⟩
   cases e:(V v).testBit x with
   | false=>exact e
   | true=>exact absurd ((hV v hg x hx).1 e) hD
  | fls=>exact ⟨fun h=>absurd h (aA4 hS.nv),fun _ _ _=>Nat.zero_testBit _⟩
  | and a b=>
   simp only [Fm.size] at hs
   have hp:=cC hp
   obtain ⟨a1,a2⟩:=ih a (by omega) hg.1 hp.1 x hx
   obtain ⟨b1,b2⟩:=ih b (by omega) hg.2 hp.2 x hx
   refine ⟨fun h=>?_,fun D hD hR=>?_⟩
   ·obtain ⟨h1,h2⟩:=hS.and_ a b hg h
    show (frc _ V a &&& frc _ V b).testBit x = true
    rw [Nat.testBit_and,a1 h1,b1 h2];rfl
   ·show (frc _ V a &&& frc _ V b).testBit x = false
    rw [Nat.testBit_and]
    rcases hD with hD | hD
    ·rw [a2 D hD hR,Bool.false_and]
    ·rw [b2 D hD hR,Bool.and_false]
  | or a b=>
   simp only [Fm.size] at hs
   have hp:=e6 hp
   obtain ⟨a1,a2⟩:=ih a (by omega) hg.1 hp.1 x hx
   obtain ⟨b1,b2⟩:=ih b (by omega) hg.2 hp.2 x hx
   refine ⟨fun h=>?_,fun D hD hR=>?_⟩
   ·show (frc _ V a ||| frc _ V b).testBit x = true
    rw [Nat.testBit_or]
    rcases hS.or_ a b hg h with h | h
    ·rw [a1 h,Bool.true_or]
    ·rw [b1 h,Bool.or_true]
   ·show (frc _ V a ||| frc _ V b).testBit x = false
    rw [Nat.testBit_or,a2 D hD.1 hR,b2 D hD.2 hR];rfl
  | imp a b=>
   simp only [Fm.size] at hs
   have hp:=aQ hp
   have key:∀ y,y < W.length → ∀ b':Fm,Ref (gt W y).l (fT (gt W y).r) b' → b'.size < n → b'.good → b'.plain = true → (frc (fW W) V b').testBit y = false:=fun y hy b' hR hb hbg hbp=>by
    have hNy:=hW y hy
    obtain ⟨Dy,d1,-,d3⟩:=hNy.dem
    obtain ⟨g1,g2,-⟩:=hNy.sat.right.1.at
    have:=hR.size
    exact aBP hP.ok (hP.refl y hy) ((ih _ (by omega) g1 g2 y hy).2 Dy d1 d3) (n:=n) (fun a ha hag hap hal=>(ih a ha hag hap y hy).1 hal) hR (by omega) hbg hbp
   refine ⟨fun h=>?_,fun D hD hR=>?_⟩
   ·refine (E5 hP.ok).2 ⟨hx,fun y hxy hay=>?_⟩
    rw [fW_r hx] at hxy
    have hy:=(hN.rng y hxy).2
    have hNy:=hW y hy
    have hmy:=hN.mono y hxy _ h
    by_cases hb:b.body ∈ (gt W y).l
    ·exact (ih b (by omega) hg.2 hp.2 y hy).1 hb
    ·obtain ⟨Dy,-,d2,d3⟩:=hNy.dem
     have:=(ih a (by omega) hg.1 hp.1 y hy).2 Dy (d2 a b hg hmy hb) d3
     rw [this] at hay;cases hay
   ·cases e:(frc (fW W) V (.imp a b)).testBit x with
    | false=>rfl
    | true=>
     have hall:=((E5 hP.ok).1 e).2
     rcases hD with ⟨ha,hD⟩ | hd
     ·have h1:=(ih a (by omega) hg.1 hp.1 x hx).1 ha
      have h2:=(ih b (by omega) hg.2 hp.2 x hx).2 D hD hR
      have:=hall x (hP.refl x hx) h1
      rw [h2] at this;cases this
     ·obtain ⟨y,y1,y2,y3⟩:=hR _ hd
      have hy:=(hN.rng y y1).2
      have ha:=(ih a (by omega) hg.1 hp.1 y hy).1 (y2 _ (fB.2 (.inr rfl)))
      have y3:Ref (gt W y).l (fT (gt W y).r) (fT b.body):=y3
      rw [aF hg.2] at y3
      have hb:=key y hy b y3 (by omega) hg.2 hp.2
      have:=hall y ((fW_r hx).2 y1) ha
      rw [hb] at this;cases this
theorem aCS {c:Fm} {W:List Nd} (h8:W.length ≤ 8) (h0:0 < W.length) (hW:∀ x,x < W.length → jF c W W.length x) {V:Nat → Nat} (hV:∀ v,v < 6 → ∀ x,x < W.length → ((V v).testBit x = true ↔ (Fm.var v).body ∈ (gt W x).l)) {r:Fm} (hg:r.good) (hp:r.plain = true) (hR:Ref (gt W 0).l (fT (gt W 0).r) r):(frc (fW W) V r).testBit 0 = false:=by
 have hP:=fW_po h8 hW
 have hN:=hW 0 h0
 obtain ⟨D,d1,-,d3⟩:=hN.dem
 obtain ⟨g1,g2,-⟩:=hN.sat.right.1.at
 have t:=truth h8 hW hV
 exact aBP hP.ok (hP.refl 0 h0) ((t _ _ (Nat.lt_succ_self _) g1 g2 0 h0).2 D d1 d3) (n:=r.size) (fun a _ hag hap hal=>(t _ a (Nat.lt_succ_self _) hag hap 0 h0).1 hal) hR (Nat.le_refl _) hg hp
theorem aFF {c:Fm} {W:List Nd} (h8:W.length ≤ 8) (hW:∀ x,x < W.length → jF c W W.length x) {m:Nat} {t:Str} (hm:∀ x,m.testBit x = true ↔ x < W.length ∧ t ∈ (gt W x).l):m ∈ dZ (fW W):=by
 refine (fN (fW_po h8 hW)).2 ⟨pE fun j hj=>((hm j).1 hj).1,fun v u h hr=>?_⟩
 obtain ⟨h1,h2⟩:=(hm v).1 h
 rw [fW_r h1] at hr
 exact (hm u).2 ⟨((hW v h1).rng u hr).2,(hW v h1).mono u hr _ h2⟩
end Go.Proofs.YteifjhpddhppcaaGreatDoor

namespace Go.Proofs.YteifjhpddhppcaaGreatDoor
open Go.Vc
noncomputable def fImpP (L:List Str) (t:Str):Bool:=match fT t with | .imp x y=>!hasB L y && vB L x.body | _=>false
theorem aCK {L:List Str} {t:Str} (h:(fT t).kids.length ≠ 2):fImpP L t = false:=by
 unfold fImpP
 cases e:fT t with
 | imp _ _=>rw [e] at h;exact absurd rfl h
 | _=>rfl
structure NI (c:Fm) (L:List Str) (r:Str):Prop where
 pl:PL c L
 right:GT r ∧ fT r ∈ subF c
 nv:¬ VT L r
structure StL (c:Fm) (L L':List Str) (r:Str):Prop where
 ni:NI c L' r
 sub:∀ t ∈ L,t ∈ L'
 lt:cnt c L' < cnt c L
theorem NI.at {c:Fm} {L:List Str} {r:Str} (h:NI c L r) {t:Str} (ht:t ∈ L):(fT t).good ∧ (fT t).plain = true ∧ (fT t).body = t ∧ fT t ∈ subF c:=by
 obtain ⟨g,k⟩:=h.pl.left t ht
 exact ⟨g.at.1,g.at.2.1,g.at.2.2,k⟩
theorem NI.add {c:Fm} {L:List Str} {r:Str} (h:NI c L r) {x:Fm} (hg:x.good) (hp:x.plain = true) (hs:x ∈ subF c) (hn:¬ VT (addT L x.body) r) (hx:¬ x.body ∈ L):StL c L (addT L x.body) r:=
 ⟨⟨h.pl.add hg hp hs,h.right,hn⟩,fun _ ht=>fB.2 (.inl ht),PT (fun _ ht=>fB.2 (.inl ht)) hs hx (fB.2 (.inr rfl))⟩
theorem aCX {c:Fm} {L:List Str} {r t:Str} (h:NI c L r) (ht:t ∈ L) (hf:fAnd L t = true):∃ x y,fT t = .and x y ∧ StL c L (setT (L ++ [x.body,y.body])) r:=by
 obtain ⟨hg,hp,hb,hs⟩:=h.at ht
 unfold fAnd at hf
 cases e:fT t with
 | and x y=>
  rw [e] at hf hg hp hs hb
  have hf:(!(hasB L x && hasB L y)) = true:=hf
  have hp:=cC hp
  have hs:=D5 hs
  refine ⟨x,y,rfl,?_⟩
  have hmem:∀ u,u ∈ setT (L ++ [x.body,y.body]) ↔ u ∈ L ∨ u = x.body ∨ u = y.body:=fun u=>by rw [fX];simp
  refine ⟨⟨⟨F0 _,fun u hu=>?_⟩,h.right,YK hg (by rw [hb];exact ht) h.nv⟩,fun u hu=>(hmem u).2 (.inl hu),?_⟩
  ·rcases (hmem u).1 hu with hu | rfl | rfl
   ·exact h.pl.left u hu
   ·exact ⟨GT.of hg.1 hp.1,by rw [aF hg.1];exact hs.1⟩
   ·exact ⟨GT.of hg.2 hp.2,by rw [aF hg.2];exact hs.2⟩
  ·by_cases hx:x.body ∈ L
   ·refine PT (fun u hu=>(hmem u).2 (.inl hu)) hs.2 (fun hy=>?_) ((hmem _).2 (.inr (.inr rfl)))
    simp [hasB,hx,hy] at hf
   ·exact PT (fun u hu=>(hmem u).2 (.inl hu)) hs.1 hx ((hmem _).2 (.inr (.inl rfl)))
 | _=>rw [e] at hf;cases hf
theorem aDF {c:Fm} {L:List Str} {r t:Str} (h:NI c L r) (ht:t ∈ L) (hf:fOr L t = true):∃ x y,fT t = .or x y ∧ (vB (addT L x.body) r = true → StL c L (addT L y.body) r) ∧ (vB (addT L x.body) r = false → StL c L (addT L x.body) r):=by
 obtain ⟨hg,hp,hb,hs⟩:=h.at ht
 unfold fOr at hf
 cases e:fT t with
 | or x y=>
  rw [e] at hf hg hp hs hb
  have hf:(!hasB L x && !hasB L y) = true:=hf
  have hp:=e6 hp
  have hs:=PI hs
  have hx:¬ x.body ∈ L:=by simp [hasB] at hf;exact hf.1
  have hy:¬ y.body ∈ L:=by simp [hasB] at hf;exact hf.2
  exact ⟨x,y,rfl,fun hv=>h.add hg.2 hp.2 hs.2 (ZZ hg (by rw [hb];exact ht) h.nv (bY.1 hv)) hy,fun hv=>h.add hg.1 hp.1 hs.1 (nH.1 hv) hx⟩
 | _=>rw [e] at hf;cases hf
theorem aCQ {c:Fm} {L:List Str} {r t:Str} (h:NI c L r) (ht:t ∈ L) (hf:fImpP L t = true):∃ x y,fT t = .imp x y ∧ StL c L (addT L y.body) r:=by
 obtain ⟨hg,hp,hb,hs⟩:=h.at ht
 unfold fImpP at hf
 cases e:fT t with
 | imp x y=>
  rw [e] at hf hg hp hs hb
  have hf:(!hasB L y && vB L x.body) = true:=hf
  have hp:=aQ hp
  have hs:=lL hs
  rw [Bool.and_eq_true] at hf
  have hy:¬ y.body ∈ L:=by have:=hf.1;simp [hasB] at this;exact this
  exact ⟨x,y,rfl,h.add hg.2 hp.2 hs.2 (YH hg (by rw [hb];exact ht) h.nv (bY.1 hf.2)) hy⟩
 | _=>rw [e] at hf;cases hf
theorem aE3 {c:Fm} {L:List Str} {r:Str} (h:NI c L r) (hA:findT (fAnd L) L = []) (hO:findT (fOr L) L = []) (hI:findT (fImpP L) L = []):SatN c L r:=by
 have hgt:∀ t ∈ L,GT t:=fun t ht=>(h.pl.left t ht).1
 refine ⟨h.pl,h.right,h.nv,fun x y hg hm=>?_,fun x y hg hm=>?_,fun x y hg hm=>?_⟩
 ·have:=FD hgt hA _ hm
  unfold fAnd at this
  rw [aF hg] at this
  simpa [hasB] using this
 ·have:=FD hgt hO _ hm
  unfold fOr at this
  rw [aF hg] at this
  have this:(!hasB L x && !hasB L y) = false:=this
  by_cases hx:x.body ∈ L
  ·exact .inl hx
  ·refine .inr ?_
   simpa [hasB,hx] using this
 ·have:=FD hgt hI _ hm
  unfold fImpP at this
  rw [aF hg] at this
  have this:(!hasB L y && vB L x.body) = false:=this
  by_cases hy:y.body ∈ L
  ·exact .inl hy
  ·refine .inr (nH.1 ?_)
   simpa [hasB,hy] using this
/-! ### The right side -/
theorem aAK {c:Fm} {L:List Str} {r:Str} (h:NI c L r) {x y:Fm} (e:fT r = .and x y):(vB L x.body = true → NI c L y.body ∧ Ref L (fT y.body) (fT r)) ∧ (vB L x.body = false → NI c L x.body ∧ Ref L (fT x.body) (fT r)):=by
 obtain ⟨hgt,hs⟩:=h.right
 obtain ⟨hg,hp,hb⟩:=hgt.at
 have hn:=h.nv
 rw [← hb] at hn
 rw [e] at hg hp hs hn ⊢
 have hp:=cC hp
 have hs:=D5 hs
 rw [aF hg.1,aF hg.2]
 exact ⟨fun hv=>⟨⟨h.pl,⟨GT.of hg.2 hp.2,by rw [aF hg.2];exact hs.2⟩,I0 hg hn (bY.1 hv)⟩,.andr .refl⟩,fun hv=>⟨⟨h.pl,⟨GT.of hg.1 hp.1,by rw [aF hg.1];exact hs.1⟩,nH.1 hv⟩,.andl .refl⟩⟩
theorem aAS {c:Fm} {L:List Str} {r:Str} (h:NI c L r) {x y:Fm} (e:fT r = .imp x y):NI c (addT L x.body) y.body ∧ Ref (addT L x.body) (fT y.body) (fT r):=by
 obtain ⟨hgt,hs⟩:=h.right
 obtain ⟨hg,hp,hb⟩:=hgt.at
 have hn:=h.nv
 rw [← hb] at hn
 rw [e] at hg hp hs hn ⊢
 have hp:=aQ hp
 have hs:=lL hs
 rw [aF hg.2]
 exact ⟨⟨h.pl.add hg.1 hp.1 hs.1,⟨GT.of hg.2 hp.2,by rw [aF hg.2];exact hs.2⟩,IL hg hn⟩,.imp (fB.2 (.inr rfl)) .refl⟩
def mS (c:Fm) (L:List Str) (r:Str):Nat:=cnt c L * (c.size + 1) + (fT r).size
theorem aEE {c:Fm} {L L':List Str} {r r':Str} (h:cnt c L' < cnt c L) (hr:(fT r').size ≤ c.size):mS c L' r' < mS c L r:=by
 unfold mS
 have h3:=Nat.mul_le_mul_right (c.size + 1) (show cnt c L' + 1 ≤ cnt c L from h)
 rw [Nat.add_mul,Nat.one_mul] at h3
 omega
theorem M9 {c:Fm} {L L':List Str} {r r':Str} (h:∀ t ∈ L,t ∈ L') (hr:(fT r').size < (fT r).size):mS c L' r' < mS c L r:=by
 unfold mS
 have h3:=Nat.mul_le_mul_right (c.size + 1) (aB3 (c:=c) h)
 omega
end Go.Proofs.YteifjhpddhppcaaGreatDoor

namespace Go.Proofs.YteifjhpddhppcaaGreatDoor
open Go.Vc
theorem jF.ext {c:Fm} {W W':List Nd} {n n' x:Nat} (h:jF c W n x) (hn:n ≤ n') (he:∀ k,x ≤ k → k < n → gt W' k = gt W k) (hx:x < n):jF c W' n' x:=by
 obtain ⟨h1,h2,h3,h4,h5,D,d1,d2,d3⟩:=h
 have ex:=he x (Nat.le_refl _) hx
 have ej:∀ j,(gt W x).m.testBit j = true → gt W' j = gt W j:=fun j hj=>he j (h3 j hj).1 (h3 j hj).2
 refine ⟨by rw [ex];exact h1,by rw [ex];exact h2,fun j hj=>?_,fun j i hj hi=>?_,fun j hj t ht=>?_,D,by rw [ex];exact d1,by rw [ex];exact d2,fun d hd=>?_⟩
 ·rw [ex] at hj
  have:=h3 j hj;omega
 ·rw [ex] at hj ⊢
  rw [ej j hj] at hi
  exact h4 j i hj hi
 ·rw [ex] at hj ht
  rw [ej j hj];exact h5 j hj t ht
 ·obtain ⟨y,y1,y2,y3⟩:=d3 d hd
  refine ⟨y,by rw [ex];exact y1,?_,?_⟩
  ·rw [ej y y1];exact y2
  ·rw [ej y y1];exact y3
structure oW (c:Fm) (W:List Nd) (n x:Nat) (D:List Sq):Prop where
 sat:SatN c (gt W x).l (gt W x).r
 refl:(gt W x).m.testBit x = true
 rng:∀ j,(gt W x).m.testBit j = true → x ≤ j ∧ j < n
 trans:∀ j i,(gt W x).m.testBit j = true → (gt W j).m.testBit i = true → (gt W x).m.testBit i = true
 mono:∀ j,(gt W x).m.testBit j = true → ∀ t ∈ (gt W x).l,t ∈ (gt W j).l
 real:∀ d ∈ D,RealD W x d
theorem yR {x j:Nat}:(2 ^ x).testBit j = true ↔ j = x:=by
 rw [Nat.testBit_two_pow,decide_eq_true_eq]
 exact ⟨Eq.symm,Eq.symm⟩
theorem oW.new {c:Fm} {W:List Nd} {L:List Str} {r:Str} (h:SatN c L r):oW c (W ++ [⟨2 ^ W.length,L,r⟩]) (W.length + 1) W.length []:=by
 have e:gt (W ++ [(⟨2 ^ W.length,L,r⟩:Nd)]) W.length = ⟨2 ^ W.length,L,r⟩:=by
  rw [gt_eq (by rw [List.length_append];simp)];simp
 refine ⟨by rw [e];exact h,by rw [e];exact yR.2 rfl,fun j hj=>?_,fun j i hj hi=>?_,fun j hj t ht=>?_,fun d hd=>by cases hd⟩
 ·rw [e] at hj
  have:=yR.1 hj;omega
 ·rw [e] at hj
  rw [yR.1 hj] at hi;exact hi
 ·rw [e] at hj
  rw [yR.1 hj];exact ht
theorem oW.close {c:Fm} {W:List Nd} {n x:Nat} {D:List Sq} (h:oW c W n x D) (h1:Dm (gt W x).l D (fT (gt W x).r)) (h2:∀ a b,(Fm.imp a b).good → (Fm.imp a b).body ∈ (gt W x).l → ¬ b.body ∈ (gt W x).l → Dm (gt W x).l D a):jF c W n x:=
 ⟨h.sat,h.refl,h.rng,h.trans,h.mono,D,h1,h2,h.real⟩
theorem oW.step {c:Fm} {W V:List Nd} {x:Nat} {D:List Sq} {d:Sq} (h:oW c W W.length x D) (hx:x < W.length) (hV:∀ k,k < W.length → gt V k = gt W k) (hl:W.length < V.length) (hN:jF c V V.length W.length) (hd:∀ t ∈ (gt W x).l,t ∈ d.1) (h1:∀ t ∈ d.1,t ∈ (gt V W.length).l) (h2:Ref (gt V W.length).l (fT (gt V W.length).r) (fT d.2)):
  oW c (V.set x ⟨(gt W x).m ||| (gt V W.length).m,(gt W x).l,(gt W x).r⟩) V.length x (D ++ [d]):=by
 obtain ⟨p1,p2,p3,p4,p5,p6⟩:=h
 have hg:∀ k,gt (V.set x ⟨(gt W x).m ||| (gt V W.length).m,(gt W x).l,(gt W x).r⟩) k = if k = x then ⟨(gt W x).m ||| (gt V W.length).m,(gt W x).l,(gt W x).r⟩ else gt V k:=pH _ (by omega)
 generalize V.set x ⟨(gt W x).m ||| (gt V W.length).m,(gt W x).l,(gt W x).r⟩ = U at *
 have ex:gt U x = ⟨(gt W x).m ||| (gt V W.length).m,(gt W x).l,(gt W x).r⟩:=by rw [hg,if_pos rfl]
 have el:∀ j,(gt W x).m.testBit j = true → (gt U j).l = (gt W j).l ∧ (gt U j).r = (gt W j).r:=fun j hj=>by
  rw [hg]
  by_cases e:j = x
  ·rw [if_pos e,e];exact ⟨rfl,rfl⟩
  ·rw [if_neg e,hV j (p3 j hj).2];exact ⟨rfl,rfl⟩
 have er:∀ j,(gt V W.length).m.testBit j = true → gt U j = gt V j:=fun j hj=>by
  rw [hg,if_neg (by have:=(hN.rng j hj).1;omega)]
 refine ⟨by rw [ex];exact p1,by rw [ex];show Nat.testBit (_ ||| _) x = true;rw [Nat.testBit_or,p2];rfl,fun j hj=>?_,fun j i hj hi=>?_,fun j hj t ht=>?_,fun d' hd'=>?_⟩
 ·rw [ex] at hj
  have hj:((gt W x).m ||| (gt V W.length).m).testBit j = true:=hj
  rw [Nat.testBit_or,Bool.or_eq_true] at hj
  rcases hj with hj | hj
  ·have:=p3 j hj;omega
  ·have:=hN.rng j hj;omega
 ·rw [ex] at hj ⊢
  have hj:((gt W x).m ||| (gt V W.length).m).testBit j = true:=hj
  show ((gt W x).m ||| (gt V W.length).m).testBit i = true
  rw [Nat.testBit_or,Bool.or_eq_true] at hj
  rw [Nat.testBit_or,Bool.or_eq_true]
  rcases hj with hj | hj
  ·by_cases e:j = x
   ·rw [e,ex] at hi
    have hi:((gt W x).m ||| (gt V W.length).m).testBit i = true:=hi
    rw [Nat.testBit_or,Bool.or_eq_true] at hi;exact hi
   ·rw [hg,if_neg e,hV j (p3 j hj).2] at hi
    exact .inl (p4 j i hj hi)
  ·rw [er j hj] at hi
   exact .inr (hN.trans j i hj hi)
 ·rw [ex] at hj ht
  have hj:((gt W x).m ||| (gt V W.length).m).testBit j = true:=hj
  rw [Nat.testBit_or,Bool.or_eq_true] at hj
  rcases hj with hj | hj
  ·rw [(el j hj).1];exact p5 j hj t ht
  ·rw [er j hj];exact hN.mono j hj t (h1 t (hd t ht))
 ·rcases List.mem_append.1 hd' with hd' | hd'
  ·obtain ⟨y,y1,y2,y3⟩:=p6 d' hd'
   obtain ⟨e1,e2⟩:=el y y1
   exact ⟨y,by rw [ex];show Nat.testBit (_ ||| _) y = true;rw [Nat.testBit_or,y1];rfl,by rw [e1];exact y2,by rw [e1,e2];exact y3⟩
  ·rw [List.mem_singleton.1 hd']
   have hs:=hN.refl
   exact ⟨W.length,by rw [ex];show Nat.testBit (_ ||| _) _ = true;rw [Nat.testBit_or,hs,Bool.or_true],by rw [er _ hs];exact h1,by rw [er _ hs];exact h2⟩
def ValW (W:List Nd) (vals:List Nat):Prop:=vals.length = 6 ∧ ∀ v,v < 6 → ∀ x,(gt vals v).testBit x = true ↔ x < W.length ∧ (Fm.var v).body ∈ (gt W x).l
theorem ValW.set {W:List Nd} {vals:List Nat} (h:ValW W vals) {x m:Nat} (hx:x < W.length):ValW (W.set x ⟨m,(gt W x).l,(gt W x).r⟩) vals:=by
 refine ⟨h.1,fun v hv y=>?_⟩
 rw [h.2 v hv y,List.length_set,pH _ hx]
 by_cases e:y = x
 ·rw [if_pos e,e]
 ·rw [if_neg e]
def ValT (W:List Nd) (L:List Str) (k:Nat) (vals:List Nat):Prop:=vals.length = 6 ∧ ∀ v,v < 6 → ∀ x,(gt vals v).testBit x = true ↔ (x < W.length ∧ (Fm.var v).body ∈ (gt W x).l) ∨ (v < k ∧ x = W.length ∧ (Fm.var v).body ∈ L)
theorem ValT.zero {W:List Nd} {L:List Str} {vals:List Nat} (h:ValW W vals):ValT W L 0 vals:=⟨h.1,fun v hv x=>by
 rw [h.2 v hv x]
 exact ⟨.inl,fun h=>h.elim id fun h=>absurd h.1 (Nat.not_lt_zero _)⟩⟩
theorem ValT.skip {W:List Nd} {L:List Str} {vals:List Nat} {k:Nat} (h:ValT W L k vals) (hn:¬ (Fm.var k).body ∈ L):ValT W L (k + 1) vals:=⟨h.1,fun v hv x=>by
 rw [h.2 v hv x]
 refine or_congr_right ⟨fun ⟨a,b,c⟩=>⟨by omega,b,c⟩,fun ⟨a,b,c⟩=>⟨?_,b,c⟩⟩
 rcases Nat.lt_or_ge v k with h | h
 ·exact h
 ·have:v = k:=by omega
  subst this;exact absurd c hn⟩
theorem ValT.put {W:List Nd} {L:List Str} {vals:List Nat} {k:Nat} (h:ValT W L k vals) (hk:k < 6) (hm:(Fm.var k).body ∈ L):ValT W L (k + 1) (vals.set k (gt vals k ||| 2 ^ W.length)):=⟨by rw [List.length_set];exact h.1,fun v hv x=>by
 rw [pH _ (by rw [h.1];exact hk)]
 by_cases e:v = k
 ·subst e
  rw [if_pos rfl,Nat.testBit_or,Bool.or_eq_true,h.2 v hv x,yR]
  constructor
  ·rintro ((h1 | h1) | h1)
   ·exact .inl h1
   ·exact absurd h1.1 (Nat.lt_irrefl _)
   ·exact .inr ⟨by omega,h1,hm⟩
  ·rintro (h1 | h1)
   ·exact .inl (.inl h1)
   ·exact .inr h1.2.1
 ·rw [if_neg e,h.2 v hv x]
  exact or_congr_right ⟨fun ⟨a,b,c⟩=>⟨by omega,b,c⟩,fun ⟨a,b,c⟩=>⟨by omega,b,c⟩⟩⟩
theorem ValT.all {W:List Nd} {L:List Str} {r:Str} {m:Nat} {vals:List Nat} (h:ValT W L 6 vals):ValW (W ++ [⟨m,L,r⟩]) vals:=⟨h.1,fun v hv x=>by
 rw [h.2 v hv x,List.length_append,List.length_singleton]
 constructor
 ·rintro (⟨h1,h2⟩ | ⟨_,h1,h2⟩)
  ·refine ⟨by omega,?_⟩
   rw [gt_eq (by rw [List.length_append];omega),List.getElem_append_left h1,← gt_eq h1];exact h2
  ·subst h1
   refine ⟨by omega,?_⟩
   rw [gt_eq (by rw [List.length_append];simp)]
   simpa using h2
 ·rintro ⟨h1,h2⟩
  rcases Nat.lt_or_ge x W.length with hx | hx
  ·rw [gt_eq (by rw [List.length_append];omega),List.getElem_append_left hx,← gt_eq hx] at h2
   exact .inl ⟨hx,h2⟩
  ·have:x = W.length:=by omega
   subst this
   rw [gt_eq (by rw [List.length_append];simp)] at h2
   exact .inr ⟨hv,rfl,by simpa using h2⟩⟩
theorem ValT.small {W:List Nd} {L:List Str} {k:Nat} {vals:List Nat} (h:ValT W L k vals) {n:Nat} (hn:W.length + 1 ≤ n) {v:Nat} (hv:v < 6):gt vals v < 2 ^ n:=pE fun j hj=>by
 rcases (h.2 v hv j).1 hj with h1 | h1
 ·omega
 ·omega
end Go.Proofs.YteifjhpddhppcaaGreatDoor

namespace Go.Proofs.YteifjhpddhppcaaGreatDoor
open Go.Vc
noncomputable def dmF (L:List Str):Fm → List Sq
 | .and x y=>if vB L x.body = true then dmF L y else dmF L x
 | .or x y=>dmF L x ++ dmF L y
 | .imp x y=>if x.body ∈ L then dmF L y else [(addT L x.body,y.body)]
 | _=>[]
theorem W5 {c:Fm} {L:List Str} (hL:PL c L):∀ {a:Fm},a.good → a.plain = true → a ∈ subF c → ¬ VT L a.body → Dm L (dmF L a) a ∧ ∀ d ∈ dmF L a,DmOk c L d:=by
 intro a
 induction a with
 | var p=>exact fun _ _ _ hn=>⟨Z1 hn,fun d hd=>by cases hd⟩
 | fls=>exact fun _ _ _ _=>⟨trivial,fun d hd=>by cases hd⟩
 | box _ _=>intro _ h;cases h
 | dia _ _=>intro _ h;cases h
 | and x y ix iy=>
  intro hg hp hs hn
  have hp:=cC hp
  have hs:=D5 hs
  by_cases hv:vB L x.body = true
  ·rw [dmF,if_pos hv]
   obtain ⟨h1,h2⟩:=iy hg.2 hp.2 hs.2 (I0 hg hn (bY.1 hv))
   exact ⟨.inr h1,h2⟩
  ·rw [dmF,if_neg hv]
   obtain ⟨h1,h2⟩:=ix hg.1 hp.1 hs.1 (fun h=>hv (bY.2 h))
   exact ⟨.inl h1,h2⟩
 | or x y ix iy=>
  intro hg hp hs hn
  have hp:=e6 hp
  have hs:=PI hs
  obtain ⟨n1,n2⟩:=XZ hg hn
  obtain ⟨h1,h2⟩:=ix hg.1 hp.1 hs.1 n1
  obtain ⟨k1,k2⟩:=iy hg.2 hp.2 hs.2 n2
  rw [dmF]
  exact ⟨⟨h1.mono fun d hd=>List.mem_append_left _ hd,k1.mono fun d hd=>List.mem_append_right _ hd⟩,fun d hd=>(List.mem_append.1 hd).elim (h2 d) (k2 d)⟩
 | imp x y ix iy=>
  intro hg hp hs hn
  by_cases hx:x.body ∈ L
  ·rw [dmF,if_pos hx]
   obtain ⟨h1,h2⟩:=iy hg.2 (aQ hp).2 (lL hs).2 (YB hg hn)
   exact ⟨.inl ⟨hx,h1⟩,h2⟩
  ·rw [dmF,if_neg hx]
   exact ⟨.inr List.mem_cons_self,fun d hd=>by rw [List.mem_singleton.1 hd];exact DmOk.of hL hg hp hs hn hx⟩
noncomputable def dmL (L:List Str) (t:Str):List Sq:=match fT t with | .imp x y=>if y.body ∈ L then [] else dmF L x | _=>[]
noncomputable def dmAll (L:List Str) (r:Str):List Sq:=dmF L (fT r) ++ L.flatMap (dmL L)
theorem XA {c:Fm} {L:List Str} {r:Str} (h:SatN c L r):Dm L (dmAll L r) (fT r) ∧ (∀ a b,(Fm.imp a b).good → (Fm.imp a b).body ∈ L → ¬ b.body ∈ L → Dm L (dmAll L r) a) ∧ ∀ d ∈ dmAll L r,DmOk c L d:=by
 obtain ⟨g1,g2,g3⟩:=h.right.1.at
 have nr:=h.nv
 rw [← g3] at nr
 obtain ⟨h1,h2⟩:=W5 h.pl g1 g2 h.right.2 nr
 refine ⟨h1.mono fun d hd=>List.mem_append_left _ hd,fun a b hg hm hb=>?_,fun d hd=>?_⟩
 ·obtain ⟨hgt,hs⟩:=h.pl.left _ hm
  rw [aF hg] at hs
  have hp:=hgt.at.2.1
  rw [aF hg] at hp
  have hn:=(h.imp_ a b hg hm).resolve_left hb
  refine (W5 h.pl hg.1 (aQ hp).1 (lL hs).1 hn).1.mono fun d hd=>List.mem_append_right _ (List.mem_flatMap.2 ⟨_,hm,?_⟩)
  unfold dmL
  rw [aF hg]
  show d ∈ if b.body ∈ L then [] else dmF L a
  rw [if_neg hb];exact hd
 ·rcases List.mem_append.1 hd with hd | hd
  ·exact h2 d hd
  ·obtain ⟨t,ht,hd⟩:=List.mem_flatMap.1 hd
   obtain ⟨hgt,hs⟩:=h.pl.left t ht
   obtain ⟨hg,hp,hb⟩:=hgt.at
   unfold dmL at hd
   cases e:fT t with
   | imp x y=>
    rw [e] at hd hg hp hs hb
    have hd:d ∈ if y.body ∈ L then [] else dmF L x:=hd
    by_cases hy:y.body ∈ L
    ·rw [if_pos hy] at hd;cases hd
    ·rw [if_neg hy] at hd
     have hn:=(h.imp_ x y hg (by rw [hb];exact ht)).resolve_left hy
     exact (W5 h.pl hg.1 (aQ hp).1 (lL hs).1 hn).2 d hd
   | _=>rw [e] at hd;cases hd
def ddG (D:List Sq):List Sq:=D.foldl (fun out d=>if d ∈ out then out else out ++ [d]) []
theorem WK (D:List Sq) (d:Sq):ddG (D ++ [d]) = if d ∈ ddG D then ddG D else ddG D ++ [d]:=by
 unfold ddG
 rw [List.foldl_append];rfl
theorem YN {d:Sq}:∀ {D:List Sq},d ∈ ddG D ↔ d ∈ D:=by
 have key:∀ (D:List Sq) (out:List Sq),d ∈ D.foldl (fun out d=>if d ∈ out then out else out ++ [d]) out ↔ d ∈ out ∨ d ∈ D:=by
  intro D
  induction D with
  | nil=>intro out;simp
  | cons x D ih=>
   intro out
   rw [List.foldl_cons,ih,List.mem_cons]
   by_cases hx:x ∈ out
   ·rw [if_pos hx]
    constructor
    ·rintro (h | h)
     ·exact .inl h
     ·exact .inr (.inr h)
    ·rintro (h | rfl | h)
     ·exact .inl h
     ·exact .inl hx
     ·exact .inr h
   ·rw [if_neg hx,List.mem_append,List.mem_singleton,or_assoc]
 intro D
 unfold ddG
 rw [key];simp
theorem aDV (D:List Sq):(ddG D).length ≤ D.length:=by
 have key:∀ (D:List Sq) (out:List Sq),(D.foldl (fun out d=>if d ∈ out then out else out ++ [d]) out).length ≤ out.length + D.length:=by
  intro D
  induction D with
  | nil=>intro out;simp
  | cons x D ih=>
   intro out
   rw [List.foldl_cons,List.length_cons]
   refine Nat.le_trans (ih _) ?_
   split
   ·omega
   ·rw [List.length_append,List.length_singleton];omega
 have:=key D []
 simpa [ddG] using this
theorem dmF_len {L:List Str}:∀ a:Fm,(dmF L a).length ≤ a.size
 | .var _=>Nat.zero_le _
 | .fls=>Nat.zero_le _
 | .box _=>Nat.zero_le _
 | .dia _=>Nat.zero_le _
 | .and x y=>by
  have h1:=dmF_len (L:=L) x
  have h2:=dmF_len (L:=L) y
  rw [dmF]
  simp only [Fm.size]
  split <;> omega
 | .or x y=>by
  have h1:=dmF_len (L:=L) x
  have h2:=dmF_len (L:=L) y
  rw [dmF,List.length_append]
  simp only [Fm.size]
  omega
 | .imp x y=>by
  have h2:=dmF_len (L:=L) y
  rw [dmF]
  simp only [Fm.size]
  split
  ·omega
  ·simp;omega
structure Built (c:Fm) (W V:List Nd) (d:Sq):Prop where
 pre:∀ k,k < W.length → gt V k = gt W k
 len:W.length < V.length
 ok:∀ k,W.length ≤ k → k < V.length → jF c V V.length k
 sub:∀ t ∈ d.1,t ∈ (gt V W.length).l
 ref:Ref (gt V W.length).l (fT (gt V W.length).r) (fT d.2)
structure MInv (c:Fm) (W U:List Nd) (L:List Str) (r:Str) (D:List Sq):Prop where
 pre:∀ k,k < W.length → gt U k = gt W k
 len:W.length < U.length
 part:oW c U U.length W.length D
 l:(gt U W.length).l = L
 r:(gt U W.length).r = r
 oth:∀ k,W.length < k → k < U.length → jF c U U.length k
theorem MInv.new {c:Fm} (W:List Nd) {L:List Str} {r:Str} (h:SatN c L r):MInv c W (W ++ [⟨2 ^ W.length,L,r⟩]) L r []:=by
 have hl:(W ++ [(⟨2 ^ W.length,L,r⟩:Nd)]).length = W.length + 1:=by rw [List.length_append];rfl
 have e:gt (W ++ [(⟨2 ^ W.length,L,r⟩:Nd)]) W.length = ⟨2 ^ W.length,L,r⟩:=by rw [gt_eq (by omega)];simp
 refine ⟨fun k hk=>?_,by omega,by rw [hl];exact oW.new h,by rw [e],by rw [e],fun k h1 h2=>by omega⟩
 rw [gt_eq (by omega),gt_eq hk,List.getElem_append_left hk]
theorem MInv.step {c:Fm} {W U V:List Nd} {L:List Str} {r:Str} {D:List Sq} {d:Sq} (h:MInv c W U L r D) (hd:DmOk c L d) (hV:Built c U V d):MInv c W (V.set W.length ⟨(gt U W.length).m ||| (gt V U.length).m,(gt U W.length).l,(gt U W.length).r⟩) L r (D ++ [d]):=by
 have hx:=h.len
 have hl:=hV.len
 have hg:∀ k,gt (V.set W.length ⟨(gt U W.length).m ||| (gt V U.length).m,(gt U W.length).l,(gt U W.length).r⟩) k = if k = W.length then ⟨(gt U W.length).m ||| (gt V U.length).m,(gt U W.length).l,(gt U W.length).r⟩ else gt V k:=pH _ (by omega)
 have hp:=h.part.step hx hV.pre hl (hV.ok _ (Nat.le_refl _) hl) (by rw [h.l];exact hd.sub) hV.sub hV.ref
 refine ⟨fun k hk=>?_,by rw [List.length_set];omega,by rw [List.length_set];exact hp,?_,?_,fun k h1 h2=>?_⟩
 ·rw [hg,if_neg (by omega),hV.pre k (by omega),h.pre k hk]
 ·rw [hg,if_pos rfl];exact h.l
 ·rw [hg,if_pos rfl];exact h.r
 ·rw [List.length_set] at h2 ⊢
  have ee:∀ j,k ≤ j → gt (V.set W.length ⟨(gt U W.length).m ||| (gt V U.length).m,(gt U W.length).l,(gt U W.length).r⟩) j = gt V j:=fun j hj=>by rw [hg,if_neg (by omega)]
  rcases Nat.lt_or_ge k U.length with hk | hk
  ·exact (h.oth k h1 hk).ext (by omega) (fun j hj1 hj2=>by rw [ee j hj1,hV.pre j hj2]) hk
  ·exact (hV.ok k hk h2).ext (Nat.le_refl _) (fun j hj1 _=>ee j hj1) h2
theorem MInv.done {c:Fm} {W U:List Nd} {L L0:List Str} {r r0:Str} (h:MInv c W U L r (ddG (dmAll L r))) (hS:SatN c L r) (hs:∀ t ∈ L0,t ∈ L) (hr:Ref L (fT r) (fT r0)):Built c W U (L0,r0):=by
 have hl:=h.len
 obtain ⟨d1,d2,-⟩:=XA hS
 have mono:∀ {a:Fm},Dm L (dmAll L r) a → Dm L (ddG (dmAll L r)) a:=fun ha=>ha.mono fun d hd=>YN.2 hd
 refine ⟨h.pre,hl,fun k h1 h2=>?_,by rw [h.l];exact hs,by rw [h.l,h.r];exact hr⟩
 rcases Nat.lt_or_ge W.length k with hk | hk
 ·exact h.oth k hk h2
 ·have:k = W.length:=by omega
  subst this
  exact h.part.close (by rw [h.l,h.r];exact mono d1) (by rw [h.l];exact fun a b hg hm hb=>mono (d2 a b hg hm hb))
end Go.Proofs.YteifjhpddhppcaaGreatDoor

namespace Go.Proofs.YteifjhpddhppcaaGreatDoor
open Go.Vc
theorem LZ {v v':Value} {L L':List Str} {r r':Str} {w:World} (hv:TxW 0 w v L) (hv':TxW 0 w v' L'):Ret Tryz.prog A4 #[.agg #[v,sv r],.agg #[v',sv r']] w (.bool (decide ((L,r) = (L',r')))):=by
 apply Q3;unfold zX
 refine iNew2 fun q1 w1 hq1 x1 hB1=>?_
 refine iNew2 fun q2 w2 hq2 x2 hB2=>?_
 have X2:=x1.trans x2
 refine iJnB (decide ((L,r) = (L',r'))) w2 (fun J hJ=>?_) (fun w4 x4=>fun _=>⟨by first | trivial | rfl,X2.trans x4⟩)
 refine iFa (iLdB (hB1.ext x2) (i:=1) (v:=sv r) rfl ?_)
 refine iFa (iLdB hB2 (i:=1) (v:=sv r') rfl ?_)
 refine iEqT (iCndP (fun h=>?_) (fun h=>?_))
 ·subst h
  refine iFa (iLdB (hB1.ext x2) (i:=0) (v:=v) rfl ?_)
  refine iFa (iLdB hB2 (i:=0) (v:=v') rfl ?_)
  refine iRet (NV (hv.ext X2).sl (hv'.ext X2).sl) fun w5 x5=>?_
  rw [show decide ((L,r) = (L',r)) = decide (L = L') from decide_eq_decide.2 ⟨fun e=>by cases e;rfl,fun e=>by rw [e]⟩] at hJ
  exact hJ _ x5
 ·rw [decide_eq_false (fun e:(L,r) = (L',r')=>h (by cases e;rfl))] at hJ
  exact hJ _ (Ext.refl _)
end Go.Proofs.YteifjhpddhppcaaGreatDoor

namespace Go.Vc
theorem SR {w:World} {e e':TypeId} {c:Nat} (h:∃ cur,w.heap[c]? = some (.cells cur e (0,0))) (h':∃ cur,w.heap[c]? = some (.cells cur e' (0,0))):e = e':=by
 obtain ⟨_,h⟩:=h
 obtain ⟨_,h'⟩:=h'
 rw [h] at h';cases h';rfl
theorem Y1 {k lo n b:Nat} {e e':TypeId} {w:World} {v:Value} {xs cs:List Value} (h:OwK k lo e w v n xs) (hB:Blk e' w b cs) (hne:e ≠ e'):¬ v.ownBlock = some b:=fun hc=>by
 obtain ⟨cur,hh⟩:=OwK.ty h hc
 unfold Blk at hB
 rw [hh] at hB
 exact hne (by cases hB;rfl)
end Go.Vc
namespace Go.Proofs.YteifjhpddhppcaaGreatDoor
open Go.Vc
def TyN (l0:Nat) (w:World) (c:Nat):Prop:=l0 ≤ c ∧ ∃ cs,Blk t_i64 w c cs
def MCh (l0 mb b:Nat) (w w':World):Prop:=Ch (fun c=>c = mb ∨ c = b ∨ TyN l0 w c) w w'
theorem MCh.trans {l0 mb b:Nat} {w w' w'':World} (h:MCh l0 mb b w w') (k:MCh l0 mb b w' w''):MCh l0 mb b w w'':=by
 refine Ch.trans h k fun c hc=>?_
 by_cases hlt:c < w.heap.size
 ·by_cases hs:c = mb ∨ c = b ∨ TyN l0 w c
  ·exact .inl hs
  ·rcases hc with hc | hc | ⟨h0,cs,hc⟩
   ·exact absurd (.inl hc) hs
   ·exact absurd (.inr (.inl hc)) hs
   ·refine .inl (.inr (.inr ⟨h0,cs,?_⟩))
    unfold Blk at hc ⊢
    rw [← h.block c hlt hs];exact hc
 ·exact .inr (by omega)
theorem MCh.ext {l0 mb b:Nat} {w w':World} (x:Ext w w'):MCh l0 mb b w w':=x.ch
theorem MCh.map {l0 mb b:Nat} {w w':World} (x:Ch (fun c=>c = mb) w w'):MCh l0 mb b w w':=x.mono fun _ h=>.inl h
theorem MCh.blk {l0 mb b:Nat} {w w':World} (x:Ch (fun c=>c = b) w w'):MCh l0 mb b w w':=x.mono fun _ h=>.inr (.inl h)
theorem MCh.row {mb b lo:Nat} {w w':World} {v:Value} {xs:List Value} (h:Ow lo t_i64 w v xs) (x:Ch (fun c=>v.ownBlock = some c) w w'):MCh lo mb b w w':=x.mono fun c hc=>by
 obtain ⟨cur,hh⟩:=h.ty hc
 exact .inr (.inr ⟨(h.blk c hc).1,cur.toList,by unfold Blk;rw [hh]⟩)
theorem OwK.mch {Q:Str → Value → Prop} {l0 k lo n mb b:Nat} {e:TypeId} {w w':World} {v:Value} {xs cs:List Value} (h:OwK k lo e w v n xs) (x:MCh l0 mb b w w') (hm:MapB Q w mb) (hB:Blk 126 w b cs) (h1:e ≠ 126) (h2:e ≠ t_i64):OwK k lo e w' v n xs:=by
 refine OwK.ch h x fun c hc hS=>?_
 rcases hS with rfl | rfl | ⟨-,cs',hS⟩
 ·exact hm.ne_ow h c hc rfl
 ·exact Y1 h hB h1 hc
 ·exact Y1 h hS h2 hc
theorem Ow.mch {Q:Str → Value → Prop} {l0 lo mb b:Nat} {e:TypeId} {w w':World} {v:Value} {xs cs:List Value} (h:Ow lo e w v xs) (x:MCh l0 mb b w w') (hm:MapB Q w mb) (hB:Blk 126 w b cs) (h1:e ≠ 126) (h2:e ≠ t_i64):Ow lo e w' v xs:=by
 refine Ow.ch h x fun c hc hS=>?_
 rcases hS with rfl | rfl | ⟨-,cs',hS⟩
 ·exact hm.ne_ow h.toK c hc rfl
 ·exact h.ne_blk hB h1 hc
 ·exact h.ne_blk hS h2 hc
theorem Blk.mch {Q:Str → Value → Prop} {l0 q mb b:Nat} {e:TypeId} {w w':World} {cs cs':List Value} (h:Blk e w q cs) (x:MCh l0 mb b w w') (hm:MapB Q w mb) (hB:Blk 126 w b cs') (h1:e ≠ 126) (h2:e ≠ t_i64):Blk e w' q cs:=by
 refine h.ch x fun hS=>?_
 rcases hS with rfl | rfl | ⟨-,cs'',hS⟩
 ·exact hm.ne_blk h rfl
 ·unfold Blk at h hB;rw [h] at hB;exact h1 (by cases hB;rfl)
 ·unfold Blk at h hS;rw [h] at hS;exact h2 (by cases hS;rfl)
structure MW (l0:Nat) (w:World) (b db mb:Nat) (W:List Nd) (vals:List Nat):Prop where
 lob:l0 ≤ b
 dec:Dec w db mb
 ex:∃ va vv,Blk 126 w b [dp db,va,vv] ∧ Ow l0 t_i64 w va (ints (nats (W.map Nd.m))) ∧ Ow l0 t_i64 w vv (ints (nats vals)) ∧ ∀ c,va.ownBlock = some c → vv.ownBlock ≠ some c
theorem MW.ext {w w':World} {l0 b db mb:Nat} {W:List Nd} {vals:List Nat} (h:MW l0 w b db mb W vals) (x:Ext w w'):MW l0 w' b db mb W vals:=by
 obtain ⟨h0,hd,va,vv,h1,h2,h3,h4⟩:=h
 exact ⟨h0,hd.ext x,va,vv,h1.ext x,h2.ext x,h3.ext x,h4⟩
theorem MW.tr {w w':World} {l0 b db mb:Nat} {W:List Nd} {vals:List Nat} (h:MW l0 w b db mb W vals) (hm:MapB KnQ w' mb) (x:Ch (fun c=>c = mb) w w'):MW l0 w' b db mb W vals:=by
 obtain ⟨h0,hd,va,vv,h1,h2,h3,h4⟩:=h
 exact ⟨h0,hd.tr hm x,va,vv,h1.ch x (hd.map.ne_blk h1),h2.ch x (hd.map.ne_ow h2.toK),h3.ch x (hd.map.ne_ow h3.toK),h4⟩
end Go.Proofs.YteifjhpddhppcaaGreatDoor

namespace Go.Vc
theorem kind2 {a:Fm} (h:a.kind = 2):∃ x y,a = .and x y:=by
 cases a <;> first | exact ⟨_,_,rfl⟩ | (simp [Fm.kind] at h)
theorem kind4 {a:Fm} (h:a.kind = 4):∃ x y,a = .imp x y:=by
 cases a <;> first | exact ⟨_,_,rfl⟩ | (simp [Fm.kind] at h)
theorem aDO {L:List Str} {t:Str} (h:(fT t).kids.length ≠ 2):fAnd L t = false:=by
 unfold fAnd
 cases e:fT t with
 | and _ _=>rw [e] at h;exact absurd rfl h
 | _=>rfl
theorem aE6 {L:List Str} {t:Str} (h:(fT t).kids.length ≠ 2):fOr L t = false:=by
 unfold fOr
 cases e:fT t with
 | or _ _=>rw [e] at h;exact absurd rfl h
 | _=>rfl
end Go.Vc
namespace Go.Proofs.YteifjhpddhppcaaGreatDoor
open Go.Vc
end Go.Proofs.YteifjhpddhppcaaGreatDoor

namespace Go.Vc
theorem DQ.ref {Q:Str → Value → Prop} {mb:Nat} {w w':World} {b:Bool} (hm:MapB Q w' mb) (x:Ext w w'):DQ Q mb w b (.bool b) w':=⟨rfl,hm,x.ch⟩
end Go.Vc
namespace Go.Proofs.YteifjhpddhppcaaGreatDoor
open Go.Vc
theorem FmS.tu {Q:Str → Value → Prop} {mb:Nat} {w w':World} {v:Value} {a:Fm} (h:FmS w v a) (hm:MapB Q w mb) (hc:Ch (fun c=>c = mb) w w'):FmS w' v a:=SlK.tr h hm hc
theorem L9 {L:List Str} {t:Str} {x y:Fm} {w:World} {va:Value} (hk:(fT t).kids = [x,y]) (hs:FmS w va (fT t)):Ret Tryz.prog dW #[va,.bool (hasB L x),.bool (hasB L y)] w (.bool (fAnd L t)):=by
 have hpos:=(fT t).size_pos
 apply pT;unfold hU
 refine iJnB (fAnd L t) w (fun J hJ=>?_) (fun w2 x2=>fun _=>⟨by first | trivial | rfl,x2⟩)
 refine iFld (f:=0) (j:=0) hs rfl hpos (by decide) (aP hs).1 ?_
 unfold fAnd at hJ
 cases e:fT t with
 | and a b=>
  rw [e] at hk hJ
  cases hk
  have hJ:∀ w4,Ext w w4 → J [.bool (!(hasB L x && hasB L y))] w4:=hJ
  refine iEq (iCndT rfl ?_)
  refine iCnd (fun h1=>?_) (fun h1=>?_)
  ·rw [h1] at hJ
   exact iNot (hJ _ (Ext.refl _))
  ·rw [h1] at hJ
   exact hJ _ (Ext.refl _)
 | var _=>rw [e] at hk;cases hk
 | fls=>rw [e] at hk;cases hk
 | box _=>rw [e] at hk;cases hk
 | dia _=>rw [e] at hk;cases hk
 | or a b=>rw [e] at hJ;exact iEq (iCndF rfl (hJ _ (Ext.refl _)))
 | imp a b=>rw [e] at hJ;exact iEq (iCndF rfl (hJ _ (Ext.refl _)))
theorem MC {L:List Str} {t:Str} {x y:Fm} {w:World} {va:Value} (hk:(fT t).kids = [x,y]) (hs:FmS w va (fT t)):Ret Tryz.prog dV #[va,.bool (hasB L x),.bool (hasB L y)] w (.bool (fOr L t)):=by
 have hpos:=(fT t).size_pos
 apply pW;unfold hZ
 refine iJnB (fOr L t) w (fun J hJ=>?_) (fun w2 x2=>fun _=>⟨by first | trivial | rfl,x2⟩)
 refine iFld (f:=0) (j:=0) hs rfl hpos (by decide) (aP hs).1 ?_
 unfold fOr at hJ
 cases e:fT t with
 | or a b=>
  rw [e] at hk hJ
  cases hk
  have hJ:∀ w4,Ext w w4 → J [.bool (!hasB L x && !hasB L y)] w4:=hJ
  refine iEq (iCndT rfl (iNot ?_))
  refine iCnd (fun h1=>?_) (fun h1=>?_)
  ·rw [h1,Bool.true_and] at hJ
   exact iNot (hJ _ (Ext.refl _))
  ·rw [h1,Bool.false_and] at hJ
   exact hJ _ (Ext.refl _)
 | var _=>rw [e] at hk;cases hk
 | fls=>rw [e] at hk;cases hk
 | box _=>rw [e] at hk;cases hk
 | dia _=>rw [e] at hk;cases hk
 | and a b=>rw [e] at hJ;exact iEq (iCndF rfl (hJ _ (Ext.refl _)))
 | imp a b=>rw [e] at hJ;exact iEq (iCndF rfl (hJ _ (Ext.refl _)))
theorem LK {c:Fm} (hcp:c.plain = true) (hcs:c.size ≤ 20) {db mb:Nat} {L:List Str} (hPL:PL c L) {t r:Str} (ht:t ∈ L) {x y:Fm} {w:World} {v va:Value} {e1 e2:TypeId} {q1 q2:Nat} (hk:(fT t).kids = [x,y]) (hs:FmS w va (fT t)) (hD:Dec w db mb) (hv:TxW 0 w v L) (h1:Blk e1 w q1 [dp db]) (h2:Blk e2 w q2 [v,sv r]):
  Cal Tryz.prog dX #[va,.bool (hasB L x),.bool (hasB L y),.pointer (some ⟨q1,0,none⟩),.pointer (some ⟨q2,0,none⟩)] w (DQ KnQ mb w (fImpP L t)):=by
 have hpos:=(fT t).size_pos
 obtain ⟨hgt,hsub⟩:=hPL.left t ht
 obtain ⟨hg,hp,-⟩:=hgt.at
 have hsz:=lD hsub
 apply pS;unfold iB
 refine iJnX (fun xs w'=>∃ q,xs = [.bool q] ∧ DQ KnQ mb w (fImpP L t) (.bool q) w') (fun J hJ=>?_) ?_
 ·refine iFld (f:=0) (j:=0) hs rfl hpos (by decide) (aP hs).1 ?_
  have no:fImpP L t = false → ∀ w11,Ext w w11 → ∀ w12,Ext w11 w12 → ∀ w13,Ext w12 w13 → ∀ w14,Ext w13 w14 → J [.bool false] w14:=fun hf w11 x11 w12 x12 w13 x13 w14 x14=>by
   have xx:=((x11.trans x12).trans x13).trans x14
   exact hJ _ _ ⟨false,rfl,by rw [hf],hD.map.ext xx,xx.ch⟩
  cases e:fT t with
  | imp a b=>
   rw [e] at hk hg hp hsub hs
   cases hk
   have hp:=aQ hp
   have hsb:=lL hsub
   refine iEq (iCndT rfl (iNot ?_))
   refine iCnd (fun h3=>?_) (fun h3=>?_)
   ·refine iLdB h1 rfl ?_
    refine iLd2 h2 ?_
    intro w3 x3
    refine iCall ((aO (g:=x) (gs:=[y]) (SlK.ext hs x3) rfl (by rw [← e];omega)).mono ?_)
    rintro vx w4 ⟨x4,hx⟩
    refine ⟨x4,?_⟩
    refine iRetQ (fun w' x'=>bD (SlK.ext hx x') hg.1 (by have:=lD hsb.1;omega)) ?_
    intro w5 x5
    refine iRet (aV hv.cell) fun w6 x6=>⟨x6,fun w7 x7=>?_⟩
    have x37:=(((x3.trans x4).trans x5).trans x6).trans x7
    have hsq:=hPL.sq hcp hcs (r:=x.body) ⟨GT.of hg.1 hp.1,by rw [aF hg.1];exact hsb.1⟩
    refine iCall ((ok_Pv _ _ _ hsq (Nat.lt_succ_self _) w7 v (hD.ext x37) (hv.ext x37)).mono ?_)
    rintro _ w8 ⟨rfl,hm8,hc8⟩
    intro w9 x9
    refine hJ _ _ ⟨_,rfl,?_,hm8.ext x9,(cQ x37 hc8).trans (x9.ch (S:=fun c=>c = mb)) fun _ e=>.inl e⟩
    unfold fImpP
    rw [e]
    show Value.bool (vB L x.body) = .bool (!hasB L y && vB L x.body)
    rw [h3,Bool.true_and]
   ·refine no ?_
    unfold fImpP
    rw [e]
    show (!hasB L y && vB L x.body) = false
    rw [h3];rfl
  | var _=>rw [e] at hk;cases hk
  | fls=>rw [e] at hk;cases hk
  | box _=>rw [e] at hk;cases hk
  | dia _=>rw [e] at hk;cases hk
  | and a b=>exact iEq (iCndF rfl (no (by unfold fImpP;rw [e])))
  | or a b=>exact iEq (iCndF rfl (no (by unfold fImpP;rw [e])))
 ·rintro _ w' ⟨q,rfl,hq⟩
  intro _
  exact hq
def StQ (c:Fm) (mb:Nat) (L:List Str) (r:Str) (w:World):Value → World → Prop:=fun u w'=>MapB KnQ w' mb ∧ Ch (fun c=>c = mb) w w' ∧ ∃ v' L' b,u = .tuple #[.agg #[v',sv r],.bool b] ∧ TxW 0 w' v' L' ∧ (b = true → StL c L L' r) ∧ (b = false → L' = L ∧ SatN c L r)
theorem rR {c:Fm} (hcp:c.plain = true) (hcs:c.size ≤ 20) {db mb:Nat} {L:List Str} {r:Str} (hN:NI c L r) {w:World} {v:Value} (hD:Dec w db mb) (hv:TxW 0 w v L):Cal Tryz.prog iS #[dp db,.agg #[v,sv r]] w (StQ c mb L r w):=by
 have hPL:=hN.pl
 have hsm:=hPL.sm hcs
 have hLl:=hPL.len hcp hcs
 apply sG;unfold iR
 refine iNew fun q1 w1 hq1 x1 hB1=>?_
 have hB1:Blk 81 w1 q1 [dp db]:=hB1
 refine iNew2 fun q2 w2 hq2 x2 hB2=>?_
 refine iNew2 fun q4 w3 hq4 x3 hB4=>?_
 have X3:=(x1.trans x2).trans x3
 have hB13:=hB1.ext (x2.trans x3)
 have hB23:=hB2.ext x3
 have hD3:=hD.ext X3
 have hv3:=hv.ext X3
 have lo4:w.heap.size ≤ q4:=by have:=x1.size;have:=x2.size;omega
 have st:∀ {w':World},MapB KnQ w' mb → Ch (fun c=>c = mb) w3 w' → Dec w' db mb ∧ TxW 0 w' v L ∧ Blk 81 w' q1 [dp db] ∧ Blk 85 w' q2 [v,sv r] ∧ Blk 85 w' q4 [.slice none 0 0,.string ⟨#[]⟩] ∧ Ch (fun c=>c = mb) w w':=fun hm hc=>⟨hD3.tr hm hc,TxW.tr hv3 hD3.map hc,hB13.ch hc (hD3.map.ne_blk hB13),hB23.ch hc (hD3.map.ne_blk hB23),hB4.ch hc (hD3.map.ne_blk hB4),cQ X3 hc⟩
 have fin:∀ {w' w'':World} {u:Value} {L':List Str} {b:Bool},MapB KnQ w' mb → Ch (fun c=>c = mb) w3 w' → Ext w' w'' → TxW 0 w'' u L' → (b = true → StL c L L' r) → (b = false → L' = L ∧ SatN c L r) → xStA Tryz.prog w'' 2 (.pointer (some ⟨q4,0,none⟩)) (.agg #[u,sv r]) fun w12=>∀ w13,Ext w12 w13 → xLdA w13 2 (.pointer (some ⟨q4,0,none⟩)) fun r14=>StQ c mb L r w (.tuple #[r14,.bool b]) w13:=fun {w' w'' u L' b} hm hc x hu h1 h2=>by
  obtain ⟨-,-,-,-,hB4',cc⟩:=st hm hc
  refine iSt2 (hB4'.ext x) rfl hu.cell rfl fun w12 hB12 hc12=>?_
  intro w13 x13
  refine iLd2 (hB12.ext x13) ?_
  have hmx:=hm.ext x
  have hne:¬ mb = q4:=fun e=>hmx.ne_blk (hB4'.ext x) e.symm
  refine ⟨(hmx.chB hc12 hne).ext x13,?_,u,L',b,rfl,?_,h1,h2⟩
  ·refine ((cc.trans (x.ch (S:=fun c=>c = mb)) fun _ e=>.inl e).trans hc12 fun k hk=>.inr (by have hk:k = q4:=hk;omega)).trans (x13.ch (S:=fun c=>c = mb)) fun _ e=>.inl e
  ·exact (hu.ch hc12 fun k hk hS=>hu.ne_blk (hB4'.ext x) (by decide) (by have hS:k = q4:=hS;rw [hk,hS])).ext x13
 have one:∀ {w':World} {b:Nat} {t:Str},Blk aB w' b [sv t] → TxW 0 w' (.slice (some ⟨b,0,none⟩) 1 1) [t]:=fun hB=>Ow.ofBlk (n:=1) hB (Nat.zero_le _) rfl (by decide)
 have wi:∀ {w' w'':World} {lo:Nat} {vt:Value} {ts:List Str} {K:Value → World → Prop},MapB KnQ w' mb → Ch (fun c=>c = mb) w3 w' → Ext w' w'' → TxW lo w'' vt ts → ts.length ≤ 2 → (∀ u w4,Ext w'' w4 → TxW 0 w4 u (setT (L ++ ts)) → K (.agg #[u,sv r]) w4) → callV Tryz.prog (.func (.func nK) #[] #[]) [.agg #[v,sv r],vt] w'' K:=fun {w' w'' _ vt ts K} hm hc x ht h2 h=>by
  obtain ⟨-,hv',-⟩:=st hm hc
  refine iCall ((mC (L:=L) (hv'.ext x) ht (by omega)).mono ?_)
  rintro _ w4 ⟨x',u,rfl,hu⟩
  exact h u w4 x' (hu.mono (Nat.zero_le _))
 refine iLd2 hB23 ?_
 refine iCall ((mB (p:=fAnd L) hsm (fun t _ h=>aDO h) hD3.map hv3 fun t ht x y hk w' hm' hc' va hs=>iClo rfl ?_).mono ?_)
 ·show Cal Tryz.prog dW #[va,.bool (hasB L x),.bool (hasB L y)] w' _
  refine (L9 (L:=L) hk hs).mono ?_
  rintro _ w9 ⟨rfl,x9⟩
  exact DQ.ref (hm'.ext x9) x9
 rintro _ w4 ⟨rfl,hm4,hc4⟩
 obtain ⟨hD4,hv4,hB14,hB24,hB44,cc4⟩:=st hm4 hc4
 refine iNeT (iCndP (fun h5=>?_) (fun h5=>?_))
 ·obtain ⟨g1,g2⟩:=FW h5
  obtain ⟨x,y,e,hst⟩:=aCX hN g1 g2
  have hk:(fT (findT (fAnd L) L)).kids = [x,y]:=by rw [e];rfl
  generalize findT (fAnd L) L = t at *
  refine iLd2 hB24 ?_
  intro w5 x5
  have hs:=hsm t g1
  refine iCall ((bH t w5).mono ?_)
  rintro va w6 ⟨x6,hva,-⟩
  have hva:FmW w5.heap.size w6 va (fT t):=hva hs.code
  refine ⟨x6,fun w7 x7=>?_⟩
  refine iCall ((cE (SlK.ext hva.sl x7) hs.gt.at.1 (by have:=hs.size;omega)).mono ?_)
  rintro p w8 ⟨x8,hp⟩
  rw [hk] at hp
  refine ⟨x8,fun w9 x9=>?_⟩
  have x49:=(((x5.trans x6).trans x7).trans x8).trans x9
  refine wi hm4 hc4 x49 (hp.ext x9) (by simp) fun u w10 x10 hu=>?_
  intro w11 x11
  exact fin hm4 hc4 ((x49.trans x10).trans x11) (hu.ext x11) (fun _=>hst) (fun e=>by cases e)
 have hA:findT (fAnd L) L = []:=Classical.not_not.1 h5
 refine iLd2 hB24 ?_
 refine iCall ((mB (p:=fOr L) hsm (fun t _ h=>aE6 h) hD4.map hv4 fun t ht x y hk w' hm' hc' va hs=>iClo rfl ?_).mono ?_)
 ·show Cal Tryz.prog dV #[va,.bool (hasB L x),.bool (hasB L y)] w' _
  refine (MC (L:=L) hk hs).mono ?_
  rintro _ w9 ⟨rfl,x9⟩
  exact DQ.ref (hm'.ext x9) x9
 rintro _ w15 ⟨rfl,hm15,hc415⟩
 have hc15:Ch (fun c=>c = mb) w3 w15:=hc4.trans hc415 fun _ e=>.inl e
 obtain ⟨hD15,hv15,hB115,hB215,hB415,cc15⟩:=st hm15 hc15
 refine iNeT (iCndP (fun h6=>?_) (fun h6=>?_))
 ·obtain ⟨g1,g2⟩:=FW h6
  obtain ⟨x,y,e,hs1,hs2⟩:=aDF hN g1 g2
  have hk:(fT (findT (fOr L) L)).kids = [x,y]:=by rw [e];rfl
  generalize findT (fOr L) L = t at *
  have hs:=hsm t g1
  obtain ⟨hgt,hsub⟩:=hPL.left t g1
  obtain ⟨hg,hp,-⟩:=hgt.at
  rw [e] at hg hp hsub
  have hp:=e6 hp
  have hsb:=PI hsub
  refine iCall ((bH t w15).mono ?_)
  rintro va w16 ⟨x16,hva,-⟩
  have hva:FmW w15.heap.size w16 va (fT t):=hva hs.code
  refine iCall ((cE hva.sl hs.gt.at.1 (by have:=hs.size;omega)).mono ?_)
  rintro p w17 ⟨x17,hpp⟩
  rw [hk] at hpp
  have hpp:TxW 0 w17 p [x.body,y.body]:=hpp.mono (Nat.zero_le _)
  have X17:=x16.trans x17
  refine iLdB (hB115.ext X17) rfl ?_
  refine iLd2 (hB215.ext X17) ?_
  refine iIaG (j:=0) hpp.sl rfl (by simp) ?_
  intro w18 x18
  refine iBs1 rfl rfl fun b w19 _ x19 hB19=>⟨x19,fun w20 x20=>?_⟩
  have X20:=((X17.trans x18).trans x19).trans x20
  refine wi hm15 hc15 X20 (one (hB19.ext x20)) (by simp) fun u w21 x21 hu=>⟨x21,fun w22 x22=>?_⟩
  have X22:=(X20.trans x21).trans x22
  have hadd:=hPL.add hg.1 hp.1 hsb.1
  have hsq:=hadd.sq hcp hcs hN.right
  refine iCall ((ok_Pv _ _ _ hsq (Nat.lt_succ_self _) w22 u (hD15.ext X22) (hu.ext x22)).mono ?_)
  rintro _ w23 ⟨rfl,hm23,hc23⟩
  have hpp22:=hpp.ext (((x18.trans x19).trans x20).trans (x21.trans x22))
  intro w24 x24
  have hc1524:Ch (fun c=>c = mb) w15 w24:=(cQ X22 hc23).trans (x24.ch (S:=fun c=>c = mb)) fun _ e=>.inl e
  have hm24:=hm23.ext x24
  have hc24:Ch (fun c=>c = mb) w3 w24:=hc15.trans hc1524 fun _ e=>.inl e
  have hpp24:TxW 0 w24 p [x.body,y.body]:=(TxW.tr hpp22 (hD15.map.ext X22) hc23).ext x24
  obtain ⟨hD24,hv24,hB124,hB224,hB424,cc24⟩:=st hm24 hc24
  refine iCnd (fun hvb=>?_) (fun hvb=>?_)
  ·refine iLd2 hB224 ?_
   refine iIaG (j:=1) hpp24.sl rfl (by simp) ?_
   intro w25 x25
   refine iBs1 rfl rfl fun b2 w26 _ x26 hB26=>⟨x26,fun w27 x27=>?_⟩
   have X27:=(x25.trans x26).trans x27
   refine wi hm24 hc24 X27 (one (hB26.ext x27)) (by simp) fun u2 w28 x28 hu2=>?_
   intro w29 x29
   exact fin hm24 hc24 ((X27.trans x28).trans x29) (hu2.ext x29) (fun _=>hs1 hvb) (fun e=>by cases e)
  ·refine iLd2 hB224 ?_
   refine iIaG (j:=0) hpp24.sl rfl (by simp) ?_
   intro w25 x25
   refine iBs1 rfl rfl fun b2 w26 _ x26 hB26=>⟨x26,fun w27 x27=>?_⟩
   have X27:=(x25.trans x26).trans x27
   refine wi hm24 hc24 X27 (one (hB26.ext x27)) (by simp) fun u2 w28 x28 hu2=>?_
   intro w29 x29
   exact fin hm24 hc24 ((X27.trans x28).trans x29) (hu2.ext x29) (fun _=>hs2 hvb) (fun e=>by cases e)
 have hO:findT (fOr L) L = []:=Classical.not_not.1 h6
 refine iLd2 hB215 ?_
 refine iCall ((mB (p:=fImpP L) hsm (fun t _ h=>aCK h) hD15.map hv15 fun t ht x y hk w'' hm'' hc'' va hs=>iClo rfl ?_).mono ?_)
 ·show Cal Tryz.prog dX #[va,.bool (hasB L x),.bool (hasB L y),.pointer (some ⟨q1,0,none⟩),.pointer (some ⟨q2,0,none⟩)] w'' _
  exact LK hcp hcs hPL ht hk hs (hD15.tr hm'' hc'') (TxW.tr hv15 hD15.map hc'') (hB115.ch hc'' (hD15.map.ne_blk hB115)) (hB215.ch hc'' (hD15.map.ne_blk hB215))
 rintro _ w41 ⟨rfl,hm41,hc1541⟩
 have hc41:Ch (fun c=>c = mb) w3 w41:=hc15.trans hc1541 fun _ e=>.inl e
 obtain ⟨hD41,hv41,hB141,hB241,hB441,cc41⟩:=st hm41 hc41
 refine iNeT (iCndP (fun h7=>?_) (fun h7=>?_))
 ·obtain ⟨g1,g2⟩:=FW h7
  obtain ⟨x,y,e,hst⟩:=aCQ hN g1 g2
  have hk:(fT (findT (fImpP L) L)).kids = [x,y]:=by rw [e];rfl
  generalize findT (fImpP L) L = t at *
  have hs:=hsm t g1
  refine iLd2 hB241 ?_
  intro w42 x42
  refine iCall ((bH t w42).mono ?_)
  rintro va w43 ⟨x43,hva,-⟩
  have hva:FmW w42.heap.size w43 va (fT t):=hva hs.code
  refine ⟨x43,fun w44 x44=>?_⟩
  refine iCall ((cE (SlK.ext hva.sl x44) hs.gt.at.1 (by have:=hs.size;omega)).mono ?_)
  rintro p w45 ⟨x45,hp⟩
  rw [hk] at hp
  refine ⟨x45,?_⟩
  refine iIaG (j:=1) hp.sl rfl (by simp) ?_
  intro w46 x46
  refine iBs1 rfl rfl fun b w47 _ x47 hB47=>⟨x47,fun w48 x48=>?_⟩
  have X48:=(((((x42.trans x43).trans x44).trans x45).trans x46).trans x47).trans x48
  refine wi hm41 hc41 X48 (one (hB47.ext x48)) (by simp) fun u w49 x49 hu=>?_
  intro w50 x50
  exact fin hm41 hc41 ((X48.trans x49).trans x50) (hu.ext x50) (fun _=>hst) (fun e=>by cases e)
 have hI:findT (fImpP L) L = []:=Classical.not_not.1 h7
 refine iLd2 hB241 ?_
 refine iSt2 hB441 rfl hv41.cell rfl fun w54 hB54 hc54=>?_
 refine iLd2 hB54 ?_
 have hne:¬ mb = q4:=fun e=>hm41.ne_blk hB441 e.symm
 refine ⟨hm41.chB hc54 hne,cc41.trans hc54 fun k hk=>.inr (by have hk:k = q4:=hk;omega),v,L,false,rfl,?_,(fun e=>by cases e),fun _=>⟨rfl,aE3 hN hA hO hI⟩⟩
 exact hv41.ch hc54 fun k hk hS=>hv41.ne_blk hB441 (by decide) (by have hS:k = q4:=hS;rw [hk,hS])
end Go.Proofs.YteifjhpddhppcaaGreatDoor

namespace Go.Vc
theorem aCI {P:Program} {w:World} {n:Nat} {a v:Value} {K K':World → Prop} (h:xStA P w n a v K) (hk:∀ w',K w' → K' w'):xStA P w n a v K':=by
 obtain ⟨ad,w',h1,h2,h3,h4⟩:=h
 exact ⟨ad,w',h1,h2,h3,hk _ h4⟩
end Go.Vc
namespace Go.Proofs.YteifjhpddhppcaaGreatDoor
open Go.Vc
def SaQ (c:Fm) (mb:Nat) (L:List Str) (r:Str) (w:World):Value → World → Prop:=fun u w'=>MapB KnQ w' mb ∧ Ch (fun c=>c = mb) w w' ∧ ∃ v' L' r',u = .agg #[v',sv r'] ∧ TxW 0 w' v' L' ∧ SatN c L' r' ∧ (∀ t ∈ L,t ∈ L') ∧ Ref L' (fT r') (fT r)
structure SatS where
 b:Bool
 v:Value
 l:List Str
 r:Str
theorem uJ {c:Fm} (hcp:c.plain = true) (hcs:c.size ≤ 20) {db mb:Nat} {L:List Str} {r:Str} (hN:NI c L r) {w:World} {v:Value} (hD:Dec w db mb) (hv:TxW 0 w v L):Cal Tryz.prog j9 #[dp db,.agg #[v,sv r]] w (SaQ c mb L r w):=by
 apply wJ;unfold j4
 refine iNew2 fun q3 w1 hq3 x1 hB3=>?_
 refine iNew2 fun q4 w2 hq4 x2 hB4=>?_
 have X2:=x1.trans x2
 have hB32:=hB3.ext x2
 have hq34:¬ q4 = q3:=by have:=x1.size;omega
 have lo3:w.heap.size ≤ q3:=by omega
 have lo4:w.heap.size ≤ q4:=by have:=x1.size;omega
 refine iLp (fun s:SatS=>[.bool s.b]) (fun s w'=>MapB KnQ w' mb ∧ Ch (fun c=>c = mb) w w' ∧ Dec w' db mb ∧ Blk 85 w' q3 [s.v,sv s.r] ∧ Blk 85 w' q4 [.slice none 0 0,.string ⟨#[]⟩] ∧ TxW 0 w' s.v s.l ∧ NI c s.l s.r ∧ (s.b = false → SatN c s.l s.r) ∧ (∀ t ∈ L,t ∈ s.l) ∧ Ref s.l (fT s.r) (fT r)) (fun s=>2 * mS c s.l s.r + (if s.b then 1 else 0)) ⟨true,v,L,r⟩ rfl ⟨hD.map.ext X2,X2.ch,hD.ext X2,hB32,hB4,hv.ext X2,hN,(fun e=>by cases e),fun _ h=>h,.refl⟩ ?_
 rintro ⟨ag,u,L',r'⟩ w4 Kn ⟨hm4,hc4,hD4,hB34,hB44,hu4,hN4,hsat,hsub,href⟩ hKn
 have hB34:Blk 85 w4 q3 [u,sv r']:=hB34
 have hu4:TxW 0 w4 u L':=hu4
 have hN4:NI c L' r':=hN4
 have hsub:∀ t ∈ L,t ∈ L':=hsub
 have href:Ref L' (fT r') (fT r):=href
 intro _
 simp only [gx]
 have hPL:=hN4.pl
 have hLl:=hPL.len hcp hcs
 have hr:=hN4.right
 obtain ⟨hg,hp,hb⟩:=hr.1.at
 have hsz:(fT r').size ≤ c.size:=lD hr.2
 have hrs:SmT r':=⟨hr.1,by omega⟩
 refine iCnd (fun hag=>?_) (fun hag=>?_)
 rotate_left
 ·refine iLd2 hB34 ?_
  refine iSt2 hB44 rfl hu4.cell rfl fun w33 hB33 hc33=>?_
  refine iLd2 hB33 ?_
  have hne:¬ mb = q4:=fun e=>hm4.ne_blk hB44 e.symm
  refine ⟨hm4.chB hc33 hne,hc4.trans hc33 fun k hk=>.inr (by have hk:k = q4:=hk;omega),u,L',r',rfl,?_,hsat hag,hsub,href⟩
  exact hu4.ch hc33 fun k hk hS=>hu4.ne_blk hB44 (by decide) (by have hS:k = q4:=hS;rw [hk,hS])
 have hag:ag = true:=hag
 subst hag
 refine iFa (iLdB hB34 (i:=1) (v:=sv r') rfl ?_)
 refine iCall ((bH r' w4).mono ?_)
 rintro va w5 ⟨x5,hva,-⟩
 have hva:FmW w4.heap.size w5 va (fT r'):=hva hrs.code
 have hs5:FmS w5 va (fT r'):=hva.sl
 refine iCall ((cE hs5 hg (by have:=hrs.size;omega)).mono ?_)
 rintro p w6 ⟨x6,hpp⟩
 have hpp:TxW 0 w6 p ((fT r').kids.map Fm.body):=hpp.mono (Nat.zero_le _)
 have X46:=x5.trans x6
 have hs6:FmS w6 va (fT r'):=SlK.ext hs5 x6
 have hm6:=hm4.ext X46
 have hD6:=hD4.ext X46
 have hB36:=hB34.ext X46
 have hB46:=hB44.ext X46
 have hu6:=hu4.ext X46
 have hc6:Ch (fun c=>c = mb) w w6:=hc4.trans (X46.ch (S:=fun c=>c = mb)) fun _ e=>.inl e
 have st:∀ {w':World},MapB KnQ w' mb → Ch (fun c=>c = mb) w6 w' → Dec w' db mb ∧ TxW 0 w' u L' ∧ Blk 85 w' q3 [u,sv r'] ∧ Blk 85 w' q4 [.slice none 0 0,.string ⟨#[]⟩] ∧ Ch (fun c=>c = mb) w w':=fun hm hc=>⟨hD6.tr hm hc,TxW.tr hu6 hD6.map hc,hB36.ch hc (hD6.map.ne_blk hB36),hB46.ch hc (hD6.map.ne_blk hB46),hc6.trans hc fun _ e=>.inl e⟩
 -- the next sequent is laid down
 have next:∀ {w' w'':World} {u2:Value} {L2:List Str} {r2:Str} {b:Bool},MapB KnQ w' mb → Ch (fun c=>c = mb) w6 w' → Ext w' w'' → TxW 0 w'' u2 L2 → NI c L2 r2 → (b = false → SatN c L2 r2) → (∀ t ∈ L',t ∈ L2) → Ref L2 (fT r2) (fT r') → (2 * mS c L2 r2 + (if b then 1 else 0) < 2 * mS c L' r' + 1) → xStA Tryz.prog w'' 2 (.pointer (some ⟨q3,0,none⟩)) (.agg #[u2,sv r2]) fun w14=>∀ w15,Ext w14 w15 → Kn [.bool b] w15:=fun {w' w'' u2 L2 r2 b} hm hc x hu2 hN2 hs2 hsb hrf hlt=>by
  obtain ⟨hD',-,hB3',hB4',cc⟩:=st hm hc
  refine iSt2 (hB3'.ext x) rfl hu2.cell rfl fun w14 hB14 hc14=>?_
  intro w15 x15
  have hmx:=hm.ext x
  have hne:¬ mb = q3:=fun e=>hmx.ne_blk (hB3'.ext x) e.symm
  have hm14:=hmx.chB hc14 hne
  have hcw:Ch (fun c=>c = mb) w w15:=((cc.trans (x.ch (S:=fun c=>c = mb)) fun _ e=>.inl e).trans hc14 fun k hk=>.inr (by have hk:k = q3:=hk;omega)).trans (x15.ch (S:=fun c=>c = mb)) fun _ e=>.inl e
  have hD14:Dec w14 db mb:=by
   have hdb:=(hD'.ext x).blk
   refine ⟨hdb.ch hc14 fun e=>?_,hm14⟩
   have e:db = q3:=e
   have h1:=hdb
   have h2:=hB3'.ext x
   unfold Blk at h1 h2
   rw [e,h2] at h1;cases h1
  refine hKn ⟨b,u2,L2,r2⟩ w15 ⟨hm14.ext x15,hcw,hD14.ext x15,hB14.ext x15,((hB4'.ext x).ch hc14 hq34).ext x15,?_,hN2,hs2,fun t ht=>hsb t (hsub t ht),hrf.trans (href.mono hsb)⟩ hlt
  exact (hu2.ch hc14 fun k hk hS=>hu2.ne_blk (hB3'.ext x) (by decide) (by have hS:k = q3:=hS;rw [hk,hS])).ext x15
 have hpos:=(fT r').size_pos
 have hk6:=(aP hs6).1
 refine iFld (f:=0) (j:=0) hs6 rfl hpos (by decide) hk6 ?_
 refine iEq (iCndP (fun h2=>?_) (fun h2=>?_))
 ·obtain ⟨x,y,e⟩:=kind2 (show (fT r').kind = 2 by omega)
  have hpp6:TxW 0 w6 p [x.body,y.body]:=by rw [e] at hpp;exact hpp
  obtain ⟨ra1,ra2⟩:=aAK hN4 e
  have hgo:x.good ∧ y.good:=by rw [e] at hg;exact hg
  have hpo:=by rw [e] at hp;exact cC hp
  have hsb:=by have:=hr.2;rw [e] at this;exact D5 this
  have hsx:(fT x.body).size < (fT r').size:=by rw [aF hgo.1,e];simp only [Fm.size];omega
  have hsy:(fT y.body).size < (fT r').size:=by rw [aF hgo.2,e];simp only [Fm.size];omega
  refine iLd2 hB36 ?_
  refine iIaG (j:=0) hpp6.sl rfl (by simp) ?_
  intro w7 x7
  refine iRet (aV hu6.cell) fun w8 x8=>?_
  intro w9 x9
  have X69:=(x7.trans x8).trans x9
  have hsq:=hPL.sq hcp hcs (r:=x.body) ⟨GT.of hgo.1 hpo.1,by rw [aF hgo.1];exact hsb.1⟩
  refine iCall ((ok_Pv _ _ _ hsq (Nat.lt_succ_self _) w9 u (hD6.ext X69) (hu6.ext X69)).mono ?_)
  rintro _ w10 ⟨rfl,hm10,hc10⟩
  have hpp10:=TxW.tr (hpp6.ext X69) (hD6.map.ext X69) hc10
  intro w11 x11
  have hm11:=hm10.ext x11
  have hc11:Ch (fun c=>c = mb) w6 w11:=(cQ X69 hc10).trans (x11.ch (S:=fun c=>c = mb)) fun _ e=>.inl e
  have hpp11:=hpp10.ext x11
  obtain ⟨hD11,hu11,hB311,hB411,cc11⟩:=st hm11 hc11
  refine iCnd (fun hvb=>?_) (fun hvb=>?_)
  ·obtain ⟨n1,n2⟩:=ra1 hvb
   refine iLd2 hB311 ?_
   refine iIaG (j:=1) hpp11.sl rfl (by simp) ?_
   intro w12 x12
   refine iRet (aV hu6.cell) fun w13 x13=>?_
   intro w14 x14
   have XX:=(x12.trans x13).trans x14
   refine next (r2:=y.body) hm11 hc11 XX (hu11.ext XX) n1 (fun e=>by cases e) (fun _ h=>h) n2 ?_
   have:=M9 (c:=c) (L:=L') (L':=L') (r:=r') (r':=y.body) (fun _ h=>h) hsy
   rw [if_pos rfl];omega
  ·obtain ⟨n1,n2⟩:=ra2 hvb
   refine iLd2 hB311 ?_
   refine iIaG (j:=0) hpp11.sl rfl (by simp) ?_
   intro w12 x12
   refine iRet (aV hu6.cell) fun w13 x13=>?_
   intro w14 x14
   have XX:=(x12.trans x13).trans x14
   refine next (r2:=x.body) hm11 hc11 XX (hu11.ext XX) n1 (fun e=>by cases e) (fun _ h=>h) n2 ?_
   have:=M9 (c:=c) (L:=L') (L':=L') (r:=r') (r':=x.body) (fun _ h=>h) hsx
   rw [if_pos rfl];omega
 refine iEq (iCndP (fun h4=>?_) (fun h4=>?_))
 ·obtain ⟨x,y,e⟩:=kind4 (show (fT r').kind = 4 by omega)
  have hpp6:TxW 0 w6 p [x.body,y.body]:=by rw [e] at hpp;exact hpp
  obtain ⟨n1,n2⟩:=aAS hN4 e
  have hgo:x.good ∧ y.good:=by rw [e] at hg;exact hg
  have hsy:(fT y.body).size < (fT r').size:=by rw [aF hgo.2,e];simp only [Fm.size];omega
  refine iLd2 hB36 ?_
  refine iIaG (j:=0) hpp6.sl rfl (by simp) ?_
  refine iIaG (j:=1) hpp6.sl rfl (by simp) ?_
  intro w22 x22
  refine iBs1 rfl rfl fun b w23 _ x23 hB23=>⟨x23,fun w24 x24=>?_⟩
  have X24:=(x22.trans x23).trans x24
  refine iCall ((mC (L:=L') (hu6.ext X24) (Ow.ofBlk (n:=1) (hB23.ext x24) (Nat.zero_le _) rfl (by decide):TxW 0 w24 _ [x.body]) (by simp only [List.length_cons,List.length_nil];omega)).mono ?_)
  rintro _ w25 ⟨x25,u2,rfl,hu2⟩
  have hu2:TxW 0 w25 u2 (addT L' x.body):=hu2.mono (Nat.zero_le _)
  refine ⟨x25,fun w26 x26=>?_⟩
  refine iRet (aV hu2.cell) fun w27 x27=>?_
  intro w28 x28
  have XX:=(x26.trans x27).trans x28
  refine next (r2:=y.body) hm6 (Ext.refl _).ch ((X24.trans x25).trans XX) (hu2.ext XX) n1 (fun e=>by cases e) (fun t ht=>fB.2 (.inl ht)) n2 ?_
  have:=M9 (c:=c) (L:=L') (L':=addT L' x.body) (r:=r') (r':=y.body) (fun t ht=>fB.2 (.inl ht)) hsy
  rw [if_pos rfl];omega
 ·refine iLd2 hB36 ?_
  refine iCall ((rR hcp hcs hN4 hD6 hu6).mono ?_)
  rintro _ w31 ⟨hm31,hc31,u2,L2,b,rfl,hu2,hb1,hb2⟩
  refine iEx rfl (iEx rfl ?_)
  have fin:NI c L2 r' ∧ (b = false → SatN c L2 r') ∧ (∀ t ∈ L',t ∈ L2) ∧ (2 * mS c L2 r' + (if b then 1 else 0) < 2 * mS c L' r' + 1):=by
   cases b with
   | true=>
    have h:=hb1 rfl
    have:=aEE (c:=c) (L:=L') (L':=L2) (r:=r') (r':=r') h.lt hsz
    exact ⟨h.ni,(fun e=>by cases e),h.sub,by rw [if_pos rfl];omega⟩
   | false=>
    obtain ⟨rfl,h⟩:=hb2 rfl
    exact ⟨hN4,fun _=>h,fun _ h=>h,by rw [if_neg (by simp)];omega⟩
  obtain ⟨f1,f2,f3,f4⟩:=fin
  have:=next hm31 hc31 (Ext.refl _) hu2 f1 f2 f3 .refl f4
  exact aCI this fun w14 h=>h _ (Ext.refl _)
end Go.Proofs.YteifjhpddhppcaaGreatDoor

namespace Go.Vc
theorem GsL.cells {tg tt:TypeId} {lo:Nat} {w:World} {R:List (Value × Sq)} (h:∀ x ∈ R,Ow lo tt w x.1 (strs x.2.1)):∀ u ∈ jN R,aC u = true:=fun u hu=>by
 have _:=tg
 obtain ⟨x,hx,hu⟩:=List.mem_flatMap.1 hu
 simp only [List.mem_cons,List.not_mem_nil,or_false] at hu
 rcases hu with rfl | rfl
 ·exact (h x hx).cell
 ·rfl
theorem GsL.tr {Q:Str → Value → Prop} {mb:Nat} {tg tt:TypeId} {lo:Nat} {w w':World} {v:Value} {G:List Sq} (h:GsL tg lo tt w v G) (hm:MapB Q w mb) (hc:Ch (fun c=>c = mb) w w'):GsL tg lo tt w' v G:=by
 obtain ⟨R,h1,h2,h3⟩:=h
 exact ⟨R,h1,OwK.ch h2 hc (hm.ne_ow h2),fun y hy=>(h3 y hy).ch hc (hm.ne_ow (h3 y hy).toK)⟩
end Go.Vc
namespace Go.Proofs.YteifjhpddhppcaaGreatDoor
open Go.Vc
abbrev GsW2 (lo:Nat) (w:World) (v:Value) (G:List Sq):Prop:=GsL mV lo aB w v G
theorem iAppG {ty:TypeId} {w0 w:World} {va vb:Value} {A B:List Sq} {K:Value → World → Prop} (ha:GsW2 w0.heap.size w va A) (hb:GsW2 0 w vb B) (hl:A.length + B.length ≤ 1099511627776) (hw:w0.heap.size ≤ w.heap.size)
  (h:∀ u w',w.grownBy w' va.ownBlock → (∀ c,va.ownBlock = some c → w0.heap.size ≤ c ∧ ∃ cur,w.heap[c]? = some (.cells cur mV (0,0))) → GsW2 w0.heap.size w' u (A ++ B) → K u w'):xOp Tryz.prog (Builtin.append_ #[yH,yH] ty #[va,vb]) w K:=by
 obtain ⟨RA,hA,ra,la⟩:=ha
 obtain ⟨RB,hB,rb,lb⟩:=hb
 have h1:RA.length = A.length:=by rw [← hA,List.length_map]
 have h2:RB.length = B.length:=by rw [← hB,List.length_map]
 refine iAppK XE V4 rfl (by decide) ra rb.sl (GsL.cells (tg:=mV) lb) (by omega) (by omega) hw fun u w' ro hg _=>?_
 have hch:=d9 (S:=fun k=>va.ownBlock = some k) hg fun k hk=>hk
 have keep:∀ {v':Value} {xs:List Value},Ow 0 aB w v' xs → Ow 0 aB w' v' xs:=fun h=>h.ch hch fun c hc hS=>absurd (SR (h.ty hc) (OwK.ty ra hS)) (by decide)
 refine h u w' hg (fun c hc=>⟨(OwK.blk ra c hc).1,OwK.ty ra hc⟩) ⟨RA ++ RB,by rw [List.map_append,hA,hB],?_,fun x hx=>?_⟩
 ·rw [List.length_append,aAB];exact ro
 ·rcases List.mem_append.1 hx with hx | hx
  ·exact keep (la x hx)
  ·exact keep (lb x hx)
def DfQ (mb:Nat) (w:World) (G:List Sq):Value → World → Prop:=fun u w'=>MapB KnQ w' mb ∧ Ch (fun c=>c = mb) w w' ∧ GsW2 w.heap.size w' u G
theorem DfQ.ext {mb:Nat} {w0 w w':World} {G:List Sq} {u:Value} (x:Ext w0 w) (h:DfQ mb w G u w'):DfQ mb w0 G u w':=⟨h.1,cQ x h.2.1,h.2.2.mono x.size⟩
theorem DfQ.pre {mb:Nat} {w0 w w':World} {G:List Sq} {u:Value} (x:Ch (fun c=>c = mb) w0 w) (h:DfQ mb w G u w'):DfQ mb w0 G u w':=⟨h.1,x.trans h.2.1 fun _ e=>.inl e,h.2.2.mono x.size⟩
def DfC (c:Fm) (db mb:Nat) (L:List Str) (a:Fm):Prop:=a.good → a.plain = true → a ∈ subF c → ∀ {w:World} {v va:Value},Dec w db mb → TxW 0 w v L → FmS w va a → Cal Tryz.prog jW #[dp db,v,va] w (DfQ mb w (dmF L a))
theorem DE {c:Fm} (hcp:c.plain = true) (hcs:c.size ≤ 20) {db mb:Nat} {L:List Str} (hPL:PL c L) {a:Fm} (IH:∀ k ∈ a.kids,DfC c db mb L k):DfC c db mb L a:=by
 intro hg hp hsub w v va hD hv hs
 have hsz:=lD hsub
 have hLl:=hPL.len hcp hcs
 have ha1:=a.size_pos
 apply wF;unfold j5
 refine iCall ((cE hs hg (by omega)).mono ?_)
 rintro p w1 ⟨x1,hpp⟩
 have hpp:TxW 0 w1 p (a.kids.map Fm.body):=hpp.mono (Nat.zero_le _)
 have hs1:FmS w1 va a:=SlK.ext hs x1
 have hD1:=hD.ext x1
 have hv1:=hv.ext x1
 refine iFld (f:=0) (j:=0) hs1 rfl ha1 (by decide) (aP hs1).1 ?_
 have none_:dmF L a = [] → DfQ mb w (dmF L a) (.slice none 0 0) w1:=fun e=>⟨hD.map.ext x1,x1.ch,by rw [e];exact GsL.nil _ _ _ _⟩
 cases a with
 | var q=>exact iEq (iCndF rfl (iEq (iCndF rfl (iEq (iCndF rfl (none_ rfl))))))
 | fls=>exact iEq (iCndF rfl (iEq (iCndF rfl (iEq (iCndF rfl (none_ rfl))))))
 | box _=>cases hp
 | dia _=>cases hp
 | and x y=>
  have hpo:=cC hp
  have hsb:=D5 hsub
  have hpp:TxW 0 w1 p [x.body,y.body]:=hpp
  refine iEq (iCndT rfl ?_)
  refine iIaG (j:=0) hpp.sl rfl (by simp) ?_
  have hsq:=hPL.sq hcp hcs (r:=x.body) ⟨GT.of hg.1 hpo.1,by rw [aF hg.1];exact hsb.1⟩
  have hset:setT L = L:=S7 (F0 _) hPL.inc fun u=>fX
  refine iCall ((kM (L:=L) hD1 hv1 (by rw [hset];exact hsq) (by omega)).mono ?_)
  rintro _ w2 ⟨rfl,hm2,hc2⟩
  have hD2:=hD1.tr hm2 hc2
  have hv2:=TxW.tr hv1 hD1.map hc2
  have hs2:FmS w2 va (.and x y):=FmS.tu hs1 hD1.map hc2
  have c02:=cQ x1 hc2
  refine iCnd (fun hvb=>?_) (fun hvb=>?_)
  ·have e:dmF L (.and x y) = dmF L y:=by rw [dmF,if_pos (show vB L x.body = true from hvb)]
   rw [e]
   refine iCall ((aU (g:=x) (h:=y) hs2 rfl (by omega)).mono ?_)
   rintro vy w3 ⟨x3,hy⟩
   refine iCall ((IH y (by simp [Fm.kids]) hg.2 hpo.2 hsb.2 (hD2.ext x3) (hv2.ext x3) hy).mono ?_)
   rintro u w4 hq
   exact (hq.ext x3).pre c02
  ·have e:dmF L (.and x y) = dmF L x:=by
    have hvb:vB L x.body = false:=hvb
    rw [dmF,if_neg (by rw [hvb];simp)]
   rw [e]
   refine iCall ((aO (g:=x) (gs:=[y]) hs2 rfl (by omega)).mono ?_)
   rintro vx w3 ⟨x3,hx⟩
   refine iCall ((IH x (by simp [Fm.kids]) hg.1 hpo.1 hsb.1 (hD2.ext x3) (hv2.ext x3) hx).mono ?_)
   rintro u w4 hq
   exact (hq.ext x3).pre c02
 | or x y=>
  have hpo:=e6 hp
  have hsb:=PI hsub
  have hl:=@dmF_len L (.or x y)
  have e:dmF L (.or x y) = dmF L x ++ dmF L y:=rfl
  rw [e] at hl ⊢
  rw [List.length_append] at hl
  refine iEq (iCndF rfl (iEq (iCndT rfl ?_)))
  refine iCall ((aO (g:=x) (gs:=[y]) hs1 rfl (by omega)).mono ?_)
  rintro vx w7 ⟨x7,hx⟩
  refine iCall ((IH x (by simp [Fm.kids]) hg.1 hpo.1 hsb.1 (hD1.ext x7) (hv1.ext x7) hx).mono ?_)
  rintro u w8 ⟨hm8,hc8,hu8⟩
  have c18:=cQ x7 hc8
  have hD8:=hD1.tr hm8 c18
  have hv8:=TxW.tr hv1 hD1.map c18
  have hs8:FmS w8 va (.or x y):=FmS.tu hs1 hD1.map c18
  refine iCall ((aU (g:=x) (h:=y) hs8 rfl (by omega)).mono ?_)
  rintro vy w9 ⟨x9,hy⟩
  refine iCall ((IH y (by simp [Fm.kids]) hg.2 hpo.2 hsb.2 (hD8.ext x9) (hv8.ext x9) hy).mono ?_)
  rintro u2 w10 ⟨hm10,hc10,hu10⟩
  have hu810:=(hu8.ext x9).tr (hm8.ext x9) hc10
  have c08:Ch (fun c=>c = mb) w w8:=cQ x1 c18
  have c010:Ch (fun c=>c = mb) w w10:=c08.trans (cQ x9 hc10) fun _ e=>.inl e
  refine iAppG (w0:=w) (hu810.mono (by have:=x1.size;have:=x7.size;omega)) (hu10.mono (Nat.zero_le _)) (by omega) c010.size fun u3 w11 hg11 ho11 hu11=>?_
  have hch:=d9 (S:=fun k=>u.ownBlock = some k) hg11 fun k hk=>hk
  refine ⟨hm10.chB hch fun hS=>?_,c010.trans hch fun k hk=>.inr (ho11 k hk).1,hu11⟩
  obtain ⟨R,_,hro,_⟩:=hu810
  exact hm10.ne_ow hro _ hS rfl
 | imp x y=>
  have hpo:=aQ hp
  have hsb:=lL hsub
  have hpp:TxW 0 w1 p [x.body,y.body]:=hpp
  refine iEq (iCndF rfl (iEq (iCndF rfl (iEq (iCndT rfl ?_)))))
  refine iIaG (j:=0) hpp.sl rfl (by simp) ?_
  refine iRet (bP hv1.sl) fun w12 x12=>?_
  have X12:=x1.trans x12
  refine iCndP (fun hm=>?_) (fun hm=>?_)
  ·have e:dmF L (.imp x y) = dmF L y:=by rw [dmF,if_pos (show x.body ∈ L from hm)]
   rw [e]
   refine iCall ((aU (g:=x) (h:=y) (SlK.ext hs1 x12) rfl (by omega)).mono ?_)
   rintro vy w13 ⟨x13,hy⟩
   refine iCall ((IH y (by simp [Fm.kids]) hg.2 hpo.2 hsb.2 (hD.ext (X12.trans x13)) (hv.ext (X12.trans x13)) hy).mono ?_)
   rintro u w14 hq
   exact hq.ext (X12.trans x13)
  ·have e:dmF L (.imp x y) = [(addT L x.body,y.body)]:=by rw [dmF,if_neg (show ¬ x.body ∈ L from hm)]
   rw [e]
   have hpp12:=hpp.ext x12
   refine iIaG (j:=0) hpp12.sl rfl (by simp) ?_
   refine iIaG (j:=1) hpp12.sl rfl (by simp) ?_
   intro w15 x15
   refine iBs1 rfl rfl fun bb w16 hbb x16 hB16=>⟨x16,fun w17 x17=>?_⟩
   have X17:=((X12.trans x15).trans x16).trans x17
   refine iCall ((mJ (A:=L) (B:=[x.body]) (hv.ext X17).sl (Sl.ofBlk (n:=1) (hB16.ext x17) rfl (by decide)) hv.cell rfl (by simp only [List.length_cons,List.length_nil];omega)).mono ?_)
   rintro vp w18 ⟨x18,hop⟩
   refine ⟨x18,dD hop.cell rfl ?_⟩
   intro w19 x19
   refine iBsA fun b w20 hb20 x20 hB20=>?_
   intro w21 x21
   have X19:=(X17.trans x18).trans x19
   have X21:=(X19.trans x20).trans x21
   have hsz19:=X19.size
   exact ⟨hD.map.ext X21,X21.ch,GsL.one (by omega) (hB20.ext x21) ((hop.mono (Nat.zero_le _)).ext ((x19.trans x20).trans x21))⟩
theorem jH {c:Fm} (hcp:c.plain = true) (hcs:c.size ≤ 20) {db mb:Nat} {L:List Str} (hPL:PL c L) (a:Fm):DfC c db mb L a:=by
 have two:∀ {x y k:Fm},DfC c db mb L x → DfC c db mb L y → k ∈ [x,y] → DfC c db mb L k:=fun hx hy hk=>by
  simp only [List.mem_cons,List.not_mem_nil,or_false] at hk
  rcases hk with rfl | rfl
  ·exact hx
  ·exact hy
 induction a with
 | var _=>exact DE hcp hcs hPL fun k hk=>by cases hk
 | fls=>exact DE hcp hcs hPL fun k hk=>by cases hk
 | and x y hx hy=>exact DE hcp hcs hPL fun k hk=>two hx hy hk
 | or x y hx hy=>exact DE hcp hcs hPL fun k hk=>two hx hy hk
 | imp x y hx hy=>exact DE hcp hcs hPL fun k hk=>two hx hy hk
 | box x=>exact fun _ hp=>by cases hp
 | dia x=>exact fun _ hp=>by cases hp
end Go.Proofs.YteifjhpddhppcaaGreatDoor

namespace Go.Vc
theorem aDR {L:List Str} {t:Str}:(Go.Proofs.YteifjhpddhppcaaGreatDoor.dmL L t).length ≤ (fT t).size:=by
 unfold Go.Proofs.YteifjhpddhppcaaGreatDoor.dmL
 cases e:fT t with
 | imp x y=>
  have:=Go.Proofs.YteifjhpddhppcaaGreatDoor.dmF_len (L:=L) x
  simp only [Fm.size]
  split <;> simp <;> omega
 | _=>exact Nat.zero_le _
theorem aAR {α β:Type} {f:α → List β} {L:List α} {m:Nat} (h:∀ t ∈ L,(f t).length ≤ m):∀ i,((L.take i).flatMap f).length ≤ m * i:=by
 intro i
 induction i with
 | zero=>simp
 | succ i ih=>
  rcases Nat.lt_or_ge i L.length with hi | hi
  ·rw [List.take_succ_eq_append_getElem hi,List.flatMap_append,List.length_append]
   have:=h _ (List.getElem_mem hi)
   simp only [List.flatMap_cons,List.flatMap_nil,List.append_nil]
   rw [Nat.mul_succ];omega
  ·rw [List.take_of_length_le (by omega)]
   rw [List.take_of_length_le hi] at ih
   rw [Nat.mul_succ];omega
theorem aDI {α β:Type} [Inhabited α] [Inhabited β] {f:α → β} {L:List α} {k:Nat} (h:k < L.length):gt (L.map f) k = f (gt L k):=by
 rw [gt_eq (by rw [List.length_map];exact h),gt_eq h,List.getElem_map]
end Go.Vc
namespace Go.Proofs.YteifjhpddhppcaaGreatDoor
open Go.Vc
theorem LT {v fv:Value} {R:List (Value × Sq)} {p:Sq → Bool} {w:World} (hs:SlK 2 w v R.length (jN R)) (hf:∀ x ∈ R,∀ w',Ext w w' → callV Tryz.prog fv [.agg #[x.1,sv x.2.2]] w' fun u w''=>u = .bool (p x.2) ∧ Ext w' w''):
  Ret Tryz.prog bS #[v,fv] w (.bool ((R.map Prod.snd).any p)):=by
 have hln:=hs.len
 apply dE;unfold bT
 refine iCall (Cal.mono (R:=fun r w'=>Ext w w' ∧ ∃ z:Int,r = .int .i64 z ∧ (decide (0 ≤ z) = (R.map Prod.snd).any p)) ?_ ?_)
 ·apply dU;unfold cA
  refine iLenK hs ?_
  refine iLp (fun i:Nat=>[.int .i64 (i:Int)]) (fun i w'=>i ≤ R.length ∧ Ext w w' ∧ ∀ j,j < i → p (gt R j).2 = false) (fun i=>R.length - i) 0 rfl ⟨Nat.zero_le _,Ext.refl _,fun j hj=>absurd hj (Nat.not_lt_zero _)⟩ ?_
  rintro i w2 Kn ⟨hi,h2,hno⟩ hKn
  intro _
  simp only [gx]
  refine iLt (iCndP (fun h=>?_) (fun h=>?_))
  ·have hil:i < R.length:=by omega
   have hm:gt R i ∈ R:=by rw [gt_eq hil];exact List.getElem_mem _
   refine iLdK (cs:=#[(gt R i).1,sv (gt R i).2.2]) (SlK.ext hs h2) rfl hil rfl (fun j hj=>?_) ?_
   ·rcases j with _ | _ | j
    ·exact (kJ hil).1
    ·exact (kJ hil).2
    ·omega
   refine (hf _ hm w2 h2).mono ?_
   rintro u w3 ⟨rfl,x3⟩
   refine iCnd (fun h3=>?_) (fun h3=>?_)
   ·refine ⟨h2.trans x3,_,rfl,?_⟩
    rw [decide_eq_true (by omega)]
    exact (List.any_eq_true.2 ⟨(gt R i).2,List.mem_map.2 ⟨_,hm,rfl⟩,h3⟩).symm
   ·refine iAdd (by omega) (hKn (i + 1) _ ⟨by omega,h2.trans x3,fun j hj=>?_⟩ (by omega))
    by_cases e:j = i
    ·subst e;exact h3
    ·exact hno j (by omega)
  ·refine ⟨h2,-1,rfl,?_⟩
   rw [decide_eq_false (by decide)]
   symm
   rw [List.any_eq_false]
   intro g hg
   obtain ⟨x,hx,rfl⟩:=List.mem_map.1 hg
   obtain ⟨j,hj,rfl⟩:=List.getElem_of_mem hx
   have:=hno j (by omega)
   rw [gt_eq hj] at this
   simp [this]
 ·rintro r w1 ⟨h1,z,rfl,hz⟩
  refine iLe ?_
  rw [hz]
  exact ⟨by first | trivial | rfl,h1⟩
theorem WU {e:TypeId} {u v:Value} {L L':List Str} {r r':Str} {q:Nat} {w:World} (hB:Blk e w q [v,sv r]) (hu:TxW 0 w u L') (hv:TxW 0 w v L):Ret Tryz.prog kY #[.agg #[u,sv r'],.pointer (some ⟨q,0,none⟩)] w (.bool (decide ((L',r') = (L,r)))):=by
 apply wY;unfold kO
 refine iNew2 fun q2 w1 _ x1 hB2=>?_
 refine iLd2 hB2 (iLd2 (hB.ext x1) ?_)
 exact iRet (LZ (hu.ext x1) (hv.ext x1)) fun w2 x2=>⟨rfl,x1.trans x2⟩
theorem y6 {c:Fm} (hcp:c.plain = true) (hcs:c.size ≤ 20) {db mb:Nat} {L:List Str} {r:Str} (hS:SatN c L r) {w:World} {v:Value} (hD:Dec w db mb) (hv:TxW 0 w v L):Cal Tryz.prog m4 #[dp db,.agg #[v,sv r]] w (DfQ mb w (ddG (dmAll L r))):=by
 have hPL:=hS.pl
 have hsm:=hPL.sm hcs
 have hLl:=hPL.len hcp hcs
 obtain ⟨hgr,hpr,-⟩:=hS.right.1.at
 have hrs:(fT r).size ≤ 20:=Nat.le_trans (lD hS.right.2) hcs
 have hrm:SmT r:=⟨hS.right.1,hrs⟩
 have hb0:=@dmF_len L (fT r)
 have hbf:=aAR (f:=dmL L) (L:=L) (m:=20) fun t ht=>Nat.le_trans aDR (hsm t ht).size
 apply BL;unfold mP
 refine iNew2 fun q3 w1 hq3 x1 hB3=>?_
 refine iFa (iLdB hB3 (i:=0) (v:=v) rfl ?_)
 refine iFa (iLdB hB3 (i:=1) (v:=sv r) rfl ?_)
 intro w2 x2
 refine iCall ((bH r w2).mono ?_)
 rintro va w3 ⟨x3,hva,-⟩
 have hva:FmW w2.heap.size w3 va (fT r):=hva hrm.code
 refine ⟨x3,fun w4 x4=>?_⟩
 have X4:=((x1.trans x2).trans x3).trans x4
 refine iCall ((jH hcp hcs hPL (fT r) hgr hpr hS.right.2 (hD.ext X4) (hv.ext X4) (SlK.ext hva.sl x4)).mono ?_)
 rintro u w5 ⟨hm5,hc5,hu5⟩
 have hD4:=hD.ext X4
 have hv4:=hv.ext X4
 have hB34:=hB3.ext ((x2.trans x3).trans x4)
 have st:∀ {w':World},MapB KnQ w' mb → Ch (fun c=>c = mb) w4 w' → Dec w' db mb ∧ TxW 0 w' v L ∧ Blk 85 w' q3 [v,sv r] ∧ Ch (fun c=>c = mb) w w':=fun hm hc=>⟨hD4.tr hm hc,TxW.tr hv4 hD4.map hc,hB34.ch hc (hD4.map.ne_blk hB34),cQ X4 hc⟩
 intro w6 x6
 have hm6:=hm5.ext x6
 have hc6:Ch (fun c=>c = mb) w4 w6:=hc5.trans (x6.ch (S:=fun c=>c = mb)) fun _ e=>.inl e
 obtain ⟨hD6,hv6,hB36,-⟩:=st hm6 hc6
 refine iFa (iLdB hB36 (i:=0) (v:=v) rfl ?_)
 refine bO hv6.sl ?_
 refine iLp (fun s:Value × Nat=>[s.1,.int .i64 (s.2:Int)]) (fun s w'=>s.2 ≤ L.length ∧ MapB KnQ w' mb ∧ Ch (fun c=>c = mb) w4 w' ∧ GsW2 w4.heap.size w' s.1 (dmF L (fT r) ++ (L.take s.2).flatMap (dmL L))) (fun s=>L.length - s.2) (u,0) rfl ⟨Nat.zero_le _,hm6,hc6,by simpa using hu5.ext x6⟩ ?_
 rintro ⟨u,i⟩ w8 Kn ⟨hi,hm8,hc8,hu8⟩ hKn
 have hi:i ≤ L.length:=hi
 have hu8:GsW2 w4.heap.size w8 u (dmF L (fT r) ++ (L.take i).flatMap (dmL L)):=hu8
 obtain ⟨hD8,hv8,hB38,c08⟩:=st hm8 hc8
 intro _
 simp only [gx]
 refine iLt (iCndP (fun h=>?_) (fun h=>?_))
 ·have hil:i < L.length:=by omega
  have hmem:gt L i ∈ L:=by rw [gt_eq hil];exact List.getElem_mem _
  refine iIaG hv8.sl rfl hil ?_
  have etake:(L.take (i + 1)).flatMap (dmL L) = (L.take i).flatMap (dmL L) ++ dmL L (gt L i):=by
   rw [List.take_succ_eq_append_getElem hil,List.flatMap_append,gt_eq hil];simp
  have hts:=hsm _ hmem
  obtain ⟨hgt,hsub⟩:=hPL.left _ hmem
  obtain ⟨hg,hp,-⟩:=hgt.at
  have hbi:=hbf i
  have hbL:20 * i ≤ 20 * 1000000000:=Nat.mul_le_mul_left _ (by omega)
  generalize gt L i = t at *
  refine iCall ((bH t w8).mono ?_)
  rintro va w9 ⟨x9,hva,-⟩
  have hva:FmW w8.heap.size w9 va (fT t):=hva hts.code
  have hs9:FmS w9 va (fT t):=hva.sl
  have hpos:=(fT t).size_pos
  have hsz:=hts.size
  have hB39:=hB38.ext x9
  have hv9:=hv8.ext x9
  cases e:fT t with
  | imp x y=>
   rw [e] at hg hp hsub hs9 hsz
   have hp:=aQ hp
   have hsb:=lL hsub
   have ed:dmL L t = if y.body ∈ L then [] else dmF L x:=by unfold dmL;rw [e]
   refine iJnX (fun xs w'=>xs = [.bool (!decide (y.body ∈ L))] ∧ Ext w9 w') (fun J hJ=>?_) ?_
   ·refine iFld (f:=0) (j:=0) hs9 rfl (Fm.size_pos _) (by decide) (aP hs9).1 ?_
    refine iEq (iCndT rfl ?_)
    refine iFa (iLdB hB39 (i:=0) (v:=v) rfl ?_)
    intro w12 x12
    refine iCall ((aU (g:=x) (h:=y) (SlK.ext hs9 x12) rfl (by omega)).mono ?_)
    rintro vy w13 ⟨x13,hy⟩
    refine ⟨x13,?_⟩
    refine iRetQ (fun w' x'=>bD (SlK.ext hy x') hg.2 (by have:=lD hsb.2;omega)) ?_
    refine iRetQ (fun w' x'=>bP ((hv9.ext (x12.trans x13)).ext x').sl) (iNot ?_)
    intro w14 x14
    exact hJ _ _ ⟨rfl,(x12.trans x13).trans x14⟩
   rintro _ w11 ⟨rfl,x11⟩
   intro _
   simp only [gx]
   by_cases hy:y.body ∈ L
   ·rw [if_pos hy] at ed
    rw [decide_eq_true hy]
    refine iCndF rfl (iAdd (by omega) ?_)
    refine hKn (u,i + 1) _ ⟨hil,hm8.ext (x9.trans x11),hc8.trans ((x9.trans x11).ch (S:=fun c=>c = mb)) fun _ e=>.inl e,?_⟩ (by show L.length - (i + 1) < L.length - i;omega)
    show GsW2 _ _ u (_ ++ (L.take (i + 1)).flatMap (dmL L))
    rw [etake,ed,List.append_nil]
    exact hu8.ext (x9.trans x11)
   ·rw [if_neg hy] at ed
    rw [decide_eq_false hy]
    refine iCndT rfl ?_
    have X11:=x9.trans x11
    refine iFa (iLdB (hB38.ext X11) (i:=0) (v:=v) rfl ?_)
    intro w17 x17
    have X17:=X11.trans x17
    refine iCall ((aO (g:=x) (gs:=[y]) (SlK.ext hs9 (x11.trans x17)) rfl (by omega)).mono ?_)
    rintro vx w18 ⟨x18,hx⟩
    refine ⟨x18,fun w19 x19=>?_⟩
    have X19:=(X17.trans x18).trans x19
    refine iCall ((jH hcp hcs hPL x hg.1 hp.1 hsb.1 (hD8.ext X19) (hv8.ext X19) (SlK.ext hx x19)).mono ?_)
    rintro u2 w20 ⟨hm20,hc20,hu20⟩
    intro w21 x21
    have hm21:=hm20.ext x21
    have hu21:=((hu8.ext X19).tr (hm8.ext X19) hc20).ext x21
    have hc21:Ch (fun c=>c = mb) w4 w21:=(hc8.trans (cQ X19 hc20) fun _ e=>.inl e).trans (x21.ch (S:=fun c=>c = mb)) fun _ e=>.inl e
    have hdl:=@dmF_len L x
    simp only [Fm.size] at hsz
    refine iAppG (w0:=w4) hu21 ((hu20.ext x21).mono (Nat.zero_le _)) (by rw [List.length_append];omega) hc21.size fun u3 w22 hg22 ho22 hu22=>?_
    intro w23 x23
    have hch:=d9 (S:=fun k=>u.ownBlock = some k) hg22 fun k hk=>hk
    have hm22:MapB KnQ w22 mb:=hm21.chB hch fun hS=>by
     obtain ⟨R,_,hro,_⟩:=hu21
     exact hm21.ne_ow hro _ hS rfl
    refine iAdd (by omega) ?_
    refine hKn (u3,i + 1) _ ⟨hil,hm22.ext x23,(hc21.trans hch fun k hk=>.inr (ho22 k hk).1).trans (x23.ch (S:=fun c=>c = mb)) fun _ e=>.inl e,?_⟩ (by show L.length - (i + 1) < L.length - i;omega)
    show GsW2 _ _ u3 (_ ++ (L.take (i + 1)).flatMap (dmL L))
    rw [etake,ed,← List.append_assoc]
    exact hu22.ext x23
  | _=>
   have ed:dmL L t = []:=by unfold dmL;rw [e]
   rw [e] at hs9
   refine iJnX (fun xs w'=>xs = [.bool false] ∧ Ext w9 w') (fun J hJ=>?_) ?_
   ·refine iFld (f:=0) (j:=0) hs9 rfl (Fm.size_pos _) (by decide) (aP hs9).1 ?_
    refine iEq (iCndF rfl ?_)
    exact fun w15 x15 w16 x16=>hJ _ _ ⟨rfl,x15.trans x16⟩
   rintro _ w11 ⟨rfl,x11⟩
   intro _
   simp only [gx]
   refine iCndF rfl (iAdd (by omega) ?_)
   refine hKn (u,i + 1) _ ⟨hil,hm8.ext (x9.trans x11),hc8.trans ((x9.trans x11).ch (S:=fun c=>c = mb)) fun _ e=>.inl e,?_⟩ (by show L.length - (i + 1) < L.length - i;omega)
   show GsW2 _ _ u (_ ++ (L.take (i + 1)).flatMap (dmL L))
   rw [etake,ed,List.append_nil]
   exact hu8.ext (x9.trans x11)
 ·have hiL:i = L.length:=by omega
  subst hiL
  rw [List.take_length] at hu8
  obtain ⟨RA,hRA,hrow,hlf⟩:=hu8
  have hRA:RA.map Prod.snd = dmAll L r:=hRA
  have hRl:=hrow.sl.len
  refine iLenK hrow.sl ?_
  refine iLp (fun s:Value × Nat=>[s.1,.int .i64 (s.2:Int)]) (fun s w'=>s.2 ≤ RA.length ∧ Ext w8 w' ∧ GsW2 w8.heap.size w' s.1 (ddG ((dmAll L r).take s.2))) (fun s=>RA.length - s.2) (.slice none 0 0,0) rfl ⟨Nat.zero_le _,Ext.refl _,by rw [List.take_zero];exact GsL.nil _ _ _ _⟩ ?_
  rintro ⟨o,j⟩ w25 Kn2 ⟨hj,x25,ho25⟩ hKn2
  have hj:j ≤ RA.length:=hj
  have ho25:GsW2 w8.heap.size w25 o (ddG ((dmAll L r).take j)):=ho25
  have hAl:(dmAll L r).length = RA.length:=by rw [← hRA,List.length_map]
  intro _
  simp only [gx]
  refine iLt (iCndP (fun h2=>?_) (fun h2=>?_))
  ·have hjl:j < RA.length:=by omega
   have hm:gt RA j ∈ RA:=by rw [gt_eq hjl];exact List.getElem_mem _
   have hlj:=(hlf _ hm).ext x25
   have etk:(dmAll L r).take (j + 1) = (dmAll L r).take j ++ [(gt RA j).2]:=by
    rw [List.take_succ_eq_append_getElem (by omega)]
    congr 2
    have e1:gt (RA.map Prod.snd) j = (gt RA j).2:=aDI hjl
    rw [← e1,hRA,gt_eq]
   refine iLdK (cs:=#[(gt RA j).1,sv (gt RA j).2.2]) (SlK.ext hrow.sl x25) rfl hjl rfl (fun k hk=>?_) ?_
   ·rcases k with _ | _ | k
    ·exact (kJ hjl).1
    ·exact (kJ hjl).2
    ·omega
   generalize gt RA j = y at *
   obtain ⟨vy,Ly,ry⟩:=y
   have hlj:TxW 0 w25 vy Ly:=hlj
   refine iNew2 fun q11 w26 hq11 x26 hB26=>?_
   refine iSt2 hB26 rfl hlj.cell rfl fun w27 hB27 hc27=>?_
   have x2527:Ext w25 w27:=x26.thenCh hc27 fun c hc=>by omega
   obtain ⟨RO,hRO,hro,hlo⟩:=ho25.ext x2527
   refine iRet (LT (p:=fun g=>decide (g = (Ly,ry))) hro.sl fun x hx w' x'=>iClo rfl (WU (hB27.ext x') ((hlo x hx).ext x') ((hlj.ext x2527).ext x'))) fun w28 x28=>?_
   rw [hRO]
   have x2528:=x2527.trans x28
   have X28:=x25.trans x2528
   have hany:((ddG ((dmAll L r).take j)).any fun g=>decide (g = (Ly,ry))) = true ↔ (Ly,ry) ∈ ddG ((dmAll L r).take j):=by
    rw [List.any_eq_true]
    exact ⟨fun ⟨g,hg,e⟩=>of_decide_eq_true e ▸ hg,fun h=>⟨_,h,decide_eq_true rfl⟩⟩
   refine iNot (iCnd (fun hn=>?_) (fun hn=>?_))
   ·have hnm:¬ (Ly,ry) ∈ ddG ((dmAll L r).take j):=fun h=>by rw [hany.2 h] at hn;cases hn
    refine iLd2 (hB27.ext x28) ?_
    refine iBsA fun bb w29 hbb x29 hB29=>?_
    have X29:=X28.trans x29
    have hlen:=aDV ((dmAll L r).take j)
    rw [List.length_take] at hlen
    have hdl:(dmAll L r).length ≤ 20 + 20 * 1000000000:=by
     have h1:=hbf L.length
     rw [List.take_length] at h1
     have:(dmAll L r).length = (dmF L (fT r)).length + (L.flatMap (dmL L)).length:=List.length_append
     have:=Nat.mul_le_mul_left 20 hLl
     omega
    refine iAppG (w0:=w8) ((ho25.ext x2528).ext x29) (GsL.one (lo:=0) (Nat.zero_le _) hB29 (hlj.ext (x2528.trans x29))) (by simp only [List.length_cons,List.length_nil];omega) X29.size fun o' w30 hg30 ho30 hu30=>?_
    refine iAdd (by omega) ?_
    refine hKn2 (o',j + 1) _ ⟨hjl,X29.grown hg30 fun c hc=>(ho30 c hc).1,?_⟩ (by show RA.length - (j + 1) < RA.length - j;omega)
    show GsW2 _ _ o' (ddG ((dmAll L r).take (j + 1)))
    rw [etk,WK,if_neg hnm]
    exact hu30
   ·have hmm:(Ly,ry) ∈ ddG ((dmAll L r).take j):=hany.1 (by rw [Bool.not_eq_false'] at hn;exact hn)
    refine iAdd (by omega) ?_
    refine hKn2 (o,j + 1) _ ⟨hjl,X28,?_⟩ (by show RA.length - (j + 1) < RA.length - j;omega)
    show GsW2 _ _ o (ddG ((dmAll L r).take (j + 1)))
    rw [etk,WK,if_pos hmm]
    exact ho25.ext x2528
  ·have hjA:j = RA.length:=by omega
   rw [List.take_of_length_le (by omega)] at ho25
   exact ⟨hm8.ext x25,c08.trans (x25.ch (S:=fun c=>c = mb)) fun _ e=>.inl e,ho25.mono c08.size⟩
end Go.Proofs.YteifjhpddhppcaaGreatDoor

namespace Go.Vc
theorem aEG {i:Nat} (h:i < 6):(([112,113,114,115,116,117]:Str).getD i 0).toNat = 112 + i:=by
 have:i = 0 ∨ i = 1 ∨ i = 2 ∨ i = 3 ∨ i = 4 ∨ i = 5:=by omega
 rcases this with rfl | rfl | rfl | rfl | rfl | rfl <;> rfl
theorem aAJ {i:Nat} (h:i < 6):Value.string (Utf8.encode ((112 + i:Nat):Int)) = sv (Fm.var i).body:=by
 have:i = 0 ∨ i = 1 ∨ i = 2 ∨ i = 3 ∨ i = 4 ∨ i = 5:=by omega
 rcases this with rfl | rfl | rfl | rfl | rfl | rfl <;> rfl
theorem It.ne_ow {lo q:Nat} {e:TypeId} {w:World} {l:Str} {pos:Nat} {v:Value} {xs:List Value} (h:It w q l pos) (ho:Ow lo e w v xs):¬ v.ownBlock = some q:=fun hc=>by
 obtain ⟨cur,hh⟩:=ho.ty hc
 unfold It at h
 rw [h] at hh;cases hh
end Go.Vc
namespace Go.Proofs.YteifjhpddhppcaaGreatDoor
open Go.Vc
theorem aEQ {i:Nat} {w:World} {K:Value → Prop} (hi:i < 6) (h:K (sv (Fm.var i).body)):xR Tryz.prog w (convert 21 9 (.int .i32 ((112 + i:Nat):Int))) K:=
 ⟨_,fun w' _=>run_convert_int_string w' _ _ _ _ (by kernel_rfl) (by kernel_rfl),by rw [aAJ hi];exact h⟩
theorem keepI {l0 db mb b:Nat} {w w':World} {va vv vx:Value} {xs:List Value} (hd:Dec w db mb) (h1:Blk 126 w b [dp db,va,vv]) (hx:Ow l0 t_i64 w vx xs) (hc:Ch (fun c=>vx.ownBlock = some c) w w'):Dec w' db mb ∧ Blk 126 w' b [dp db,va,vv]:=
 ⟨⟨hd.blk.ch hc (hx.ne_blk hd.blk (by decide)),hd.map.chB hc fun hS=>hd.map.ne_ow hx.toK _ hS rfl⟩,h1.ch hc (hx.ne_blk h1 (by decide))⟩
theorem MW.other {l0 db mb b q:Nat} {e:TypeId} {w w':World} {W:List Nd} {vals:List Nat} {cs:List Value} (h:MW l0 w b db mb W vals) (hB:Blk e w q cs) (h1:e ≠ 126) (h2:e ≠ t_i64) (h3:e ≠ 121) (hc:Ch (fun c=>c = q) w w'):MW l0 w' b db mb W vals:=by
 obtain ⟨h0,hd,va,vv,g1,g2,g3,g4⟩:=h
 have ne:∀ {e':TypeId} {c:Nat} {xs:List Value},Blk e' w c xs → e ≠ e' → ¬ c = q:=fun hB' hne hcq=>by
  unfold Blk at hB hB'
  rw [hcq,hB] at hB'
  exact hne (by cases hB';rfl)
 exact ⟨h0,⟨hd.blk.ch hc (ne hd.blk h3),hd.map.chB hc fun hS=>hd.map.ne_blk hB hS.symm⟩,va,vv,g1.ch hc (ne g1 h1),g2.ch hc fun c hc' hS=>g2.ne_blk hB (fun e'=>h2 e'.symm) (by have hS:c = q:=hS;rw [hc',hS]),g3.ch hc fun c hc' hS=>g3.ne_blk hB (fun e'=>h2 e'.symm) (by have hS:c = q:=hS;rw [hc',hS]),g4⟩
def MdQ (c:Fm) (l0 mb b db:Nat) (W:List Nd) (d:Sq) (w:World):Value → World → Prop:=fun u w'=>∃ (m:Nat) (ok:Bool),u = .tuple #[.int .i64 (m:Int),.bool ok] ∧ MCh l0 mb b w w' ∧ (ok = true → ∃ V vals',MW l0 w' b db mb V vals' ∧ ValW V vals' ∧ V.length ≤ 8 ∧ Built c W V d ∧ m = (gt V W.length).m)
def MdC (c:Fm) (l0 db mb b:Nat) (L:List Str) (r:Str):Prop:=∀ (w:World) (v:Value) (W:List Nd) (vals:List Nat),MW l0 w b db mb W vals → ValW W vals → W.length ≤ 8 → TxW 0 w v L → Cal Tryz.prog jX #[dp b,.agg #[v,sv r]] w (MdQ c l0 mb b db W (L,r) w)
theorem aEC {c:Fm} (hcp:c.plain = true) (hcs:c.size ≤ 20) {l0 db mb b:Nat} {L:List Str} {r:Str} (hN:NI c L r) (IH:∀ L' r',NI c L' r' → cnt c L' < cnt c L → MdC c l0 db mb b L' r'):MdC c l0 db mb b L r:=by
 intro w v W vals hb hval h8 hv
 apply wI;unfold j7
 refine iNew2 fun q w1 hq x1 hB1=>?_
 have hb1:=hb.ext x1
 obtain ⟨va,vv,hblk,-⟩:=hb1.ex
 refine iNil (iFa (iLdB hblk (i:=0) (v:=dp db) rfl ?_))
 refine iLd2 hB1 ?_
 intro w2 x2
 have hb2:=hb1.ext x2
 have hv2:=hv.ext (x1.trans x2)
 refine iCall ((uJ hcp hcs hN hb2.dec hv2).mono ?_)
 rintro _ w3 ⟨hm3,hc3,v',L',r',rfl,hv',hS,hsub,href⟩
 have hb3:=hb2.tr hm3 hc3
 have hB3:=(hB1.ext x2).ch hc3 (hb2.dec.map.ne_blk (hB1.ext x2))
 intro w4 x4
 have hB4:=hB3.ext x4
 refine iSt2 hB4 rfl hv'.cell rfl fun w5 hB5 hc5=>?_
 have hb5:=(hb3.ext x4).other hB4 (by decide) (by decide) (by decide) hc5
 have hv5:TxW 0 w5 v' L':=(hv'.ext x4).ch hc5 fun k hk hS=>(hv'.ext x4).ne_blk hB4 (by decide) (by have hS:k = q:=hS;rw [hk,hS])
 intro w6 x6
 have hb6:=hb5.ext x6
 have hB6:=hB5.ext x6
 have hv6:=hv5.ext x6
 have bc4:MCh l0 mb b w w4:=((MCh.ext (x1.trans x2)).trans (MCh.map hc3)).trans (MCh.ext x4)
 have bc6:MCh l0 mb b w w6:=MCh.trans (Ch.trans bc4 hc5 fun k hk=>.inr (by have hk:k = q:=hk;omega)) (MCh.ext x6)
 obtain ⟨va6,vv6,hblk6,hva6,hvv6,hne6⟩:=hb6.ex
 have hal:∀ (U:List Nd),(ints (nats (U.map Nd.m))).length = U.length:=fun U=>by rw [bV,bU,List.length_map]
 refine iJnB (decide (W.length = 8) || decide (12 < L'.length)) w6 (fun J hJ=>?_) (fun w8 x8=>?_)
 ·refine iNil (iFa (iLdB hblk6 (i:=1) (v:=va6) rfl ?_))
  refine iLenS hva6.sl ?_
  rw [hal]
  refine iEq (iCndP (fun h=>?_) (fun h=>?_))
  ·rw [decide_eq_true (show W.length = 8 by omega),Bool.true_or] at hJ
   exact hJ _ (Ext.refl _)
  ·rw [decide_eq_false (show ¬ W.length = 8 by omega),Bool.false_or] at hJ
   refine iFa (iLdB hB6 (i:=0) (v:=v') rfl ?_)
   refine bO hv6.sl (iLt ?_)
   rw [show decide ((12:Int) < (L'.length:Int)) = decide (12 < L'.length) from decide_eq_decide.2 (by omega)]
   exact hJ _ (Ext.refl _)
 intro _
 simp only [gx]
 refine iCnd (fun hbad=>⟨0,false,rfl,bc6.trans (MCh.ext x8),fun e=>by cases e⟩) (fun hgood=>?_)
 rw [Bool.or_eq_false_iff,decide_eq_false_iff_not,decide_eq_false_iff_not] at hgood
 have hW7:W.length < 8:=by omega
 have bc8:=bc6.trans (MCh.ext x8)
 have hb8:=hb6.ext x8
 have hblk8:=hblk6.ext x8
 have hva8:=hva6.ext x8
 refine iNil (iFa (iLdB hblk8 (i:=1) (v:=va6) rfl ?_))
 refine iLenS hva8.sl ?_
 rw [hal]
 refine iNil (iFa (iLdB hblk8 (i:=1) (v:=va6) rfl ?_))
 refine rI (by omega) ?_
 intro w9 x9
 refine iBs1 rfl rfl fun bb w10 _ x10 hB10=>⟨x10,fun w11 x11=>?_⟩
 have x811:=(x9.trans x10).trans x11
 have hva11:=hva8.ext x811
 have hvv11:=(hvv6.ext x8).ext x811
 have hblk11:=hblk8.ext x811
 have hd11:=hb8.dec.ext x811
 have hB11:=(hB6.ext x8).ext x811
 have hv11:=(hv6.ext x8).ext x811
 refine iAppA OZ PW rfl hva11 (Sl.ofBlk (n:=1) (hB10.ext x11) rfl (by decide)) (fun u hu=>by simp at hu;subst hu;rfl) (by rw [hal];simp only [List.length_cons,List.length_nil];omega) (by rw [hal];simp only [List.length_cons,List.length_nil];omega) (Nat.le_trans hb.lob (Nat.le_of_lt (by have:=hblk11.lt;omega))) fun va12 w12 hva12 hg12 hat12=>?_
 have hch12:=d9 (S:=fun k=>va6.ownBlock = some k) hg12 fun k hk=>hk
 obtain ⟨hd12,hblk12⟩:=keepI hd11 hblk11 hva11 hch12
 have hvv12:Ow l0 t_i64 w12 vv6 (ints (nats vals)):=hvv11.ch hch12 fun c hc hS=>hne6 c hS hc
 have hB12:=hB11.ch hch12 (hva11.ne_blk hB11 (by decide))
 have hv12:TxW 0 w12 v' L':=hv11.ch hch12 fun c hc hS=>absurd (SR (hv11.ty hc) (hva11.ty hS)) (by decide)
 have hne12:∀ c,va12.ownBlock = some c → vv6.ownBlock ≠ some c:=fun c hc hc'=>by
  rcases hat12 with e | ⟨c',e,hc2⟩
  ·rw [e] at hc;exact hne6 c hc hc'
  ·rw [e] at hc
   cases hc
   have:=(hvv11.blk _ hc').2
   omega
 have bc12:MCh l0 mb b w w12:=(bc8.trans (MCh.ext x811)).trans (MCh.row hva11 hch12)
 have hva12':Ow l0 t_i64 w12 va12 (ints (nats ((W ++ [(⟨2 ^ W.length,L',r'⟩:Nd)]).map Nd.m))):=by
  have e:ints (nats ((W ++ [(⟨2 ^ W.length,L',r'⟩:Nd)]).map Nd.m)) = ints (nats (W.map Nd.m)) ++ [.int .i64 ((2 ^ W.length:Nat):Int)]:=by simp [ints,nats]
  rw [e];exact hva12
 refine iNil (iFa ?_)
 intro w13 x13
 have hblk13:=hblk12.ext x13
 refine iStB hblk13 (by simp) hva12.cell fun hB14=>?_
 have hup:=Upd.setCell w13 b 1 va12
 generalize hw14:w13.setCell ⟨b,1,none⟩ va12 = w14 at *
 have hch14:=hup.ch (S:=fun k=>k = b) rfl
 have hd13:=hd12.ext x13
 have ne13:∀ {e:TypeId} {k:Nat} {cs:List Value},Blk e w13 k cs → e ≠ 126 → ¬ k = b:=fun hB' hne hk=>by
  have h1:=hB'
  have h2:=hblk13
  unfold Blk at h1 h2
  rw [hk,h2] at h1
  exact hne (by cases h1;rfl)
 have hd14:Dec w14 db mb:=⟨hd13.blk.ch hch14 (ne13 hd13.blk (by decide)),hd13.map.chB hch14 fun e=>hd13.map.ne_blk hblk13 e.symm⟩
 have keep14:∀ {lo:Nat} {e:TypeId} {u:Value} {xs:List Value},e ≠ 126 → Ow lo e w12 u xs → Ow lo e w14 u xs:=fun hne h=>(h.ext x13).ch hch14 fun c hc hS=>(h.ext x13).ne_blk hblk13 hne (by have hS:c = b:=hS;rw [hc,hS])
 have hva14:=keep14 (by decide) hva12'
 have hvv14:=keep14 (by decide) hvv12
 have hv14:=keep14 (by decide) hv12
 have hB14q:Blk 85 w14 q [v',sv r']:=(hB12.ext x13).ch hch14 (ne13 (hB12.ext x13) (by decide))
 have hB14:Blk 126 w14 b [dp db,va12,vv6]:=hB14
 have bc14:MCh l0 mb b w w14:=(bc12.trans (MCh.ext x13)).trans (MCh.blk hch14)
 intro w15 x15
 have bc15:=bc14.trans (MCh.ext x15)
 have hlet:(.string ⟨#[112,113,114,115,116,117]⟩:Value) = sv [112,113,114,115,116,117]:=rfl
 rw [hlet]
 refine XB (by kernel_rfl) fun it w16 hit x16 hI=>?_
 have X16:=x15.trans x16
 have hUl:(W ++ [(⟨2 ^ W.length,L',r'⟩:Nd)]).length = W.length + 1:=by rw [List.length_append];rfl
 refine iLp (fun _:Nat=>[]) (fun i w'=>i ≤ 6 ∧ MCh l0 mb b w w' ∧ It w' it [112,113,114,115,116,117] i ∧ Dec w' db mb ∧ Blk 126 w' b [dp db,va12,vv6] ∧ Blk 85 w' q [v',sv r'] ∧ TxW 0 w' v' L' ∧ Ow l0 t_i64 w' va12 (ints (nats ((W ++ [(⟨2 ^ W.length,L',r'⟩:Nd)]).map Nd.m))) ∧ ∃ vals',Ow l0 t_i64 w' vv6 (ints (nats vals')) ∧ ValT W L' i vals') (fun i=>6 - i) 0 rfl ⟨Nat.zero_le _,bc14.trans (MCh.ext X16),hI,hd14.ext X16,hB14.ext X16,hB14q.ext X16,hv14.ext X16,hva14.ext X16,vals,hvv14.ext X16,ValT.zero hval⟩ ?_
 rintro i w18 Kn ⟨hi,bc18,hI18,hd18,hB18,hq18,hv18,hva18,vals',hvv18,hvt⟩ hKn
 intro _
 by_cases hi6:i = 6
 ·subst hi6
  refine VR hI18 (by decide) ?_
  refine iEx (by rfl) ?_
  refine iCndF rfl ?_
  refine iNil (iFa (iLdB hB18 (i:=0) (v:=dp db) rfl ?_))
  refine iLd2 hq18 ?_
  intro w24 x24
  refine iCall ((y6 hcp hcs hS (hd18.ext x24) (hv18.ext x24)).mono ?_)
  rintro gv w25 ⟨hm25,hc25,RG,hRG,hrow,hlf⟩
  have hmm:=(hd18.ext x24).map
  have hRl:RG.length = (ddG (dmAll L' r')).length:=by rw [← hRG,List.length_map]
  have hRb:=hrow.sl.len
  refine iLenK hrow.sl ?_
  intro w26 x26
  have hbm18:MW l0 w18 b db mb (W ++ [(⟨2 ^ W.length,L',r'⟩:Nd)]) vals':=⟨hb.lob,hd18,va12,vv6,hB18,hva18,hvv18,hne12⟩
  have hb25:=(hbm18.ext x24).tr hm25 hc25
  have hb26:=hb25.ext x26
  have bc26:MCh l0 mb b w w26:=((bc18.trans (MCh.ext x24)).trans (MCh.map hc25)).trans (MCh.ext x26)
  have hrow26:=OwK.ext hrow x26
  have hlf26:∀ x ∈ RG,TxW 0 w26 x.1 x.2.1:=fun x hx=>(hlf x hx).ext x26
  obtain ⟨-,-,dok⟩:=XA hS
  refine iLp (fun k:Nat=>[.int .i64 (k:Int)]) (fun k w'=>k ≤ RG.length ∧ MCh l0 mb b w26 w' ∧ ∃ U vals',MW l0 w' b db mb U vals' ∧ ValW U vals' ∧ U.length ≤ 8 ∧ MInv c W U L' r' ((RG.map Prod.snd).take k)) (fun k=>RG.length - k) 0 rfl ⟨Nat.zero_le _,MCh.ext (Ext.refl _),_,vals',hb26,hvt.all,by omega,by rw [List.take_zero];exact MInv.new W hS⟩ ?_
  rintro k w28 Kn2 ⟨hk,bc28,U,vals2,hb28,hval28,hU8,hinv⟩ hKn2
  have hm26:=hb26.dec.map
  obtain ⟨_,_,hblk26,-⟩:=hb26.ex
  have hUl2:=hinv.len
  have hpart:=hinv.part
  have small:∀ {V:List Nd} {n y:Nat} {m:Nat},(∀ j,m.testBit j = true → y ≤ j ∧ j < n) → n ≤ 8 → m < 2 ^ 63:=fun h hn=>Nat.lt_of_lt_of_le (pE fun j hj=>(h j hj).2) (Nat.pow_le_pow_right (by omega) (by omega))
  intro _
  simp only [gx]
  refine iLt (iCndP (fun h=>?_) (fun h=>?_))
  ·have hkl:k < RG.length:=by omega
   have hmem:gt RG k ∈ RG:=by rw [gt_eq hkl];exact List.getElem_mem _
   have hrow28:=OwK.mch hrow26 bc28 hm26 hblk26 (by decide) (by decide)
   have hl28:TxW 0 w28 (gt RG k).1 (gt RG k).2.1:=Ow.mch (hlf26 _ hmem) bc28 hm26 hblk26 (by decide) (by decide)
   have hdm:DmOk c L' (gt RG k).2:=dok _ (YN.1 (by rw [← hRG];exact List.mem_map.2 ⟨_,hmem,rfl⟩))
   have etk:(RG.map Prod.snd).take (k + 1) = (RG.map Prod.snd).take k ++ [(gt RG k).2]:=by
    rw [List.take_succ_eq_append_getElem (by rw [List.length_map];exact hkl),List.getElem_map,← gt_eq hkl]
   refine iLdK (cs:=#[(gt RG k).1,sv (gt RG k).2.2]) hrow28.sl rfl hkl rfl (fun j hj=>?_) ?_
   ·rcases j with _ | _ | j
    ·exact (kJ hkl).1
    ·exact (kJ hkl).2
    ·omega
   generalize gt RG k = y at *
   obtain ⟨vy,Ly,ry⟩:=y
   have hl28:TxW 0 w28 vy Ly:=hl28
   refine iNew2 fun q10 w29 hq10 x29 hB29=>?_
   refine iSt2 hB29 rfl hl28.cell rfl fun w30 hB30 hc30=>?_
   have x2830:Ext w28 w30:=x29.thenCh hc30 fun c hc=>by omega
   refine iLd2 hB30 ?_
   have hcl:cnt c Ly < cnt c L:=Nat.lt_of_lt_of_le hdm.lt (aB3 hsub)
   refine iCall ((IH Ly ry ⟨hdm.pl,hdm.right,hdm.nv⟩ hcl w30 vy U vals2 (hb28.ext x2830) hval28 hU8 (hl28.ext x2830)).mono ?_)
   rintro _ w31 ⟨m,ok,rfl,bc31,hok⟩
   have bc2631:MCh l0 mb b w26 w31:=(bc28.trans (MCh.ext x2830)).trans bc31
   refine iEx rfl (iEx rfl (iNot (iCnd (fun hn=>?_) (fun hn=>?_))))
   ·exact ⟨0,false,rfl,bc26.trans bc2631,fun e=>by cases e⟩
   have hn:ok = true:=by simpa using hn
   obtain ⟨V,vals3,hb31,hval31,hV8,hbuilt,rfl⟩:=hok hn
   obtain ⟨va31,vv31,hblk31,hva31,hvv31,hne31⟩:=hb31.ex
   have hVl:=hbuilt.len
   have egt:gt V W.length = gt U W.length:=hbuilt.pre _ hUl2
   have hWV:W.length < V.length:=by omega
   have hm1:(gt V W.length).m < 2 ^ 63:=by
    rw [egt]
    exact small (V:=U) hpart.rng hU8
   have hm2:(gt V U.length).m < 2 ^ 63:=small (V:=V) (hbuilt.ok _ (Nat.le_refl _) hVl).rng hV8
   have hmap:∀ j,j < V.length → (ints (nats (V.map Nd.m)))[j]? = some (.int .i64 (((gt V j).m:Nat):Int)):=fun j hj=>by
    rw [ints,nats,List.getElem?_map,List.getElem?_map,List.getElem?_map,List.getElem?_eq_getElem hj,gt_eq hj];rfl
   refine iNil (iFa (iLdB hblk31 (i:=1) (v:=va31) rfl ?_))
   refine iIaOw hva31 (by omega) (by rw [hal];omega) fun b1 o1 _ _ _ hc1 _ _=>?_
   rw [Int.toNat_natCast,hmap _ hWV] at hc1
   refine iLd hc1 ?_
   refine iBOr hm1 hm2 ?_
   refine iIaOw hva31 (by omega) (by rw [hal];omega) fun b2 o2 hb2 hlo2 hlt2 hc2 hf2 hset2=>?_
   rw [Int.toNat_natCast] at hc2 hset2
   refine iSt (hc2.trans (hmap _ hWV)) hf2 rfl ?_
   have hva32:=hset2 (.int .i64 (((gt V W.length).m ||| (gt V U.length).m:Nat):Int))
   have hch32:=(Upd.setCell w31 b2 o2 (.int .i64 (((gt V W.length).m ||| (gt V U.length).m:Nat):Int))).ch (S:=fun c=>va31.ownBlock = some c) hb2
   generalize w31.setCell ⟨b2,o2,none⟩ (.int .i64 (((gt V W.length).m ||| (gt V U.length).m:Nat):Int)) = w32 at *
   obtain ⟨hd32,hblk32⟩:=keepI hb31.dec hblk31 hva31 hch32
   refine iAdd (by omega) ?_
   have hstep:=hinv.step hdm hbuilt
   rw [← etk] at hstep
   have hvs:=hval31.set (x:=W.length) (m:=(gt U W.length).m ||| (gt V U.length).m) hWV
   rw [egt] at hvs
   refine hKn2 (k + 1) _ ⟨hkl,bc2631.trans (MCh.row hva31 hch32),_,vals3,⟨hb.lob,hd32,va31,vv31,hblk32,?_,hvv31.ch hch32 fun c hc hS=>hne31 c hS hc,hne31⟩,hvs,by rw [List.length_set];exact hV8,hstep⟩ (by omega)
   rw [egt] at hva32
   have e:ints (nats ((V.set W.length ⟨(gt U W.length).m ||| (gt V U.length).m,(gt U W.length).l,(gt U W.length).r⟩).map Nd.m)) = (ints (nats (V.map Nd.m))).set W.length (.int .i64 (((gt U W.length).m ||| (gt V U.length).m:Nat):Int)):=by
    simp [ints,nats,List.map_set]
   rw [e];exact hva32
  ·have hkG:k = RG.length:=by omega
   rw [List.take_of_length_le (by rw [List.length_map];omega),hRG] at hinv
   obtain ⟨va28,vv28,hblk28,hva28,-⟩:=hb28.ex
   refine iNil (iFa (iLdB hblk28 (i:=1) (v:=va28) rfl ?_))
   refine iIaOw hva28 (by omega) (by rw [hal];omega) fun b1 o1 _ _ _ hc1 _ _=>?_
   rw [Int.toNat_natCast] at hc1
   refine iLd (v:=.int .i64 (((gt U W.length).m:Nat):Int)) (hc1.trans ?_) ?_
   ·rw [ints,nats,List.getElem?_map,List.getElem?_map,List.getElem?_map,List.getElem?_eq_getElem hUl2,gt_eq hUl2];rfl
   exact ⟨_,true,rfl,bc26.trans bc28,fun _=>⟨U,vals2,hb28,hval28,hU8,hinv.done hS hsub href,rfl⟩⟩
 ·have hi5:i < 6:=by omega
  refine W0 hI18 (by show i < 6;exact hi5) fun ch d w19 _ hlow _ _ hu hI19=>?_
  rw [aEG hi5] at hlow
  obtain ⟨rfl,rfl⟩:=hlow (by omega)
  have hch19:=hu.ch (S:=fun x=>x = it) rfl
  have itne:∀ {e:TypeId} {k:Nat} {cs:List Value},Blk e w18 k cs → ¬ k = it:=fun hB' hk=>by
   have h1:=hB'
   have h2:=hI18
   unfold Blk at h1
   unfold It at h2
   rw [hk,h2] at h1;cases h1
  have itow:∀ {lo:Nat} {e:TypeId} {u:Value} {xs:List Value},Ow lo e w18 u xs → Ow lo e w19 u xs:=fun h=>h.ch hch19 fun c hc hS=>hI18.ne_ow h (by have hS:c = it:=hS;rw [hc,hS])
  have hd19:Dec w19 db mb:=⟨hd18.blk.ch hch19 (itne hd18.blk),hd18.map.chB hch19 fun e=>by
   obtain ⟨es,clock,h1,_⟩:=hd18.map
   have h2:=hI18
   unfold It at h2
   have e:mb = it:=e
   rw [e,h2] at h1;cases h1⟩
  have hB19:=hB18.ch hch19 (itne hB18)
  have hq19:=hq18.ch hch19 (itne hq18)
  have hv19:=itow hv18
  have hva19:=itow hva18
  have hvv19:=itow hvv18
  have hitw:w.heap.size ≤ it:=by have:=bc15.size;omega
  have bc19:MCh l0 mb b w w19:=Ch.trans bc18 hch19 fun k hk=>.inr (by have hk:k = it:=hk;omega)
  refine iEx (by rfl) ?_
  refine iCndT rfl ?_
  refine iEx (by rfl) (iEx (by rfl) ?_)
  refine iFa (iLdB hq19 (i:=0) (v:=v') rfl ?_)
  refine aEQ hi5 ?_
  refine iRet (bP hv19.sl) fun w20 x20=>?_
  refine iCndP (fun hm=>?_) (fun hm=>?_)
  ·have hB20:=hB19.ext x20
   have hvv20:=hvv19.ext x20
   have h6:=hvt.1
   have hvl:(ints (nats vals')).length = 6:=by rw [bV,bU,h6]
   have hcell:(ints (nats vals'))[i]? = some (.int .i64 (((gt vals' i):Nat):Int)):=by
    rw [ints,nats,List.getElem?_map,List.getElem?_map,List.getElem?_eq_getElem (by omega),gt_eq (by omega)];rfl
   refine iNil (iFa (iLdB hB20 (i:=2) (v:=vv6) rfl ?_))
   refine iIaOw hvv20 (by omega) (by rw [hvl];omega) fun b1 o1 _ _ _ hc1 _ _=>?_
   rw [Int.toNat_natCast,hcell] at hc1
   refine iLd hc1 ?_
   refine rI (by omega) ?_
   have hs1:gt vals' i < 2 ^ 63:=Nat.lt_of_lt_of_le (hvt.small (n:=W.length + 1) (Nat.le_refl _) hi5) (Nat.pow_le_pow_right (by omega) (by omega))
   have hs2:2 ^ W.length < 2 ^ 63:=Nat.pow_lt_pow_right (by omega) (by omega)
   refine iBOr hs1 hs2 ?_
   refine PR hvv20 (by rw [hvl];omega) fun b2 hb2 H=>?_
   intro w21 x21
   obtain ⟨hc2,hf2,hset2⟩:=H w21 _ rfl (hvv20.ext x21)
   refine iSt (hc2.trans hcell) hf2 rfl ?_
   have hvv22:=hset2 (.int .i64 ((gt vals' i ||| 2 ^ W.length:Nat):Int))
   have hch22:=(Upd.setCell w21 b2 i (.int .i64 ((gt vals' i ||| 2 ^ W.length:Nat):Int))).ch (S:=fun c=>vv6.ownBlock = some c) hb2
   generalize w21.setCell ⟨b2,i,none⟩ (.int .i64 ((gt vals' i ||| 2 ^ W.length:Nat):Int)) = w22 at *
   intro w23 x23
   have x1921:=x20.trans x21
   have hvv21:=hvv20.ext x21
   obtain ⟨hd22,hB22⟩:=keepI (hd19.ext x1921) (hB19.ext x1921) hvv21 hch22
   have hq21:=hq19.ext x1921
   have hv21:=hv19.ext x1921
   have hI21:=hI19.ext x1921
   refine hKn (i + 1) _ ⟨by omega,((bc19.trans (MCh.ext x1921)).trans (MCh.row hvv21 hch22)).trans (MCh.ext x23),(hI21.ch hch22 fun hS=>hI21.ne_ow hvv21 hS).ext x23,hd22.ext x23,hB22.ext x23,(hq21.ch hch22 (hvv21.ne_blk hq21 (by decide))).ext x23,(hv21.ch hch22 fun c hc hS=>absurd (SR (hv21.ty hc) (hvv21.ty hS)) (by decide)).ext x23,((hva19.ext x1921).ch hch22 fun c hc hS=>hne12 c hc hS).ext x23,_,?_,hvt.put hi5 hm⟩ (by omega)
   have e:ints (nats (vals'.set i (gt vals' i ||| 2 ^ W.length))) = (ints (nats vals')).set i (.int .i64 ((gt vals' i ||| 2 ^ W.length:Nat):Int)):=by simp [ints,nats,List.map_set]
   rw [e];exact hvv22.ext x23
  ·exact hKn (i + 1) _ ⟨by omega,bc19.trans (MCh.ext x20),hI19.ext x20,hd19.ext x20,hB19.ext x20,hq19.ext x20,hv19.ext x20,hva19.ext x20,vals',hvv19.ext x20,hvt.skip hm⟩ (by omega)
theorem jG {c:Fm} (hcp:c.plain = true) (hcs:c.size ≤ 20) {l0 db mb b:Nat}:∀ (n:Nat) {L:List Str} {r:Str},NI c L r → cnt c L < n → MdC c l0 db mb b L r
 | 0,_,_,_,h=>absurd h (Nat.not_lt_zero _)
 | n + 1,L,r,hN,h=>aEC hcp hcs hN fun _ _ hg hm=>jG hcp hcs n hg (by omega)
end Go.Proofs.YteifjhpddhppcaaGreatDoor

namespace Go.Vc
abbrev RN:=Int × Int
def rcell (q:RN):List Value:=[.int .i64 q.1,.int .i64 q.2]
def aW (N:List RN):List Value:=N.flatMap rcell
def rawF:Fm → List RN
 | .var v=>[(0,(v:Int))]
 | .fls=>[(1,0)]
 | .and a b=>(2,0) :: (rawF a ++ rawF b)
 | .or a b=>(3,0) :: (rawF a ++ rawF b)
 | .imp a b=>(4,0) :: (rawF a ++ rawF b)
 | .box a=>(5,0) :: rawF a
 | .dia a=>(6,0) :: rawF a
theorem dG (q:RN) (N:List RN):aW (q :: N) = rcell q ++ aW N:=by simp [aW]
theorem o8 (M N:List RN):aW (M ++ N) = aW M ++ aW N:=by simp [aW]
theorem dP:∀ f:Fm,aW (rawF f) = f.cells
 | .var v=>rfl
 | .fls=>rfl
 | .and a b=>by rw [rawF,dG,o8,dP a,dP b];simp [Fm.cells,rcell]
 | .or a b=>by rw [rawF,dG,o8,dP a,dP b];simp [Fm.cells,rcell]
 | .imp a b=>by rw [rawF,dG,o8,dP a,dP b];simp [Fm.cells,rcell]
 | .box a=>by rw [rawF,dG,dP a];simp [Fm.cells,rcell]
 | .dia a=>by rw [rawF,dG,dP a];simp [Fm.cells,rcell]
theorem bM:∀ f:Fm,(rawF f).length = f.size
 | .var _=>rfl
 | .fls=>rfl
 | .and a b=>by simp only [rawF,Fm.size,List.length_cons,List.length_append,bM a,bM b];omega
 | .or a b=>by simp only [rawF,Fm.size,List.length_cons,List.length_append,bM a,bM b];omega
 | .imp a b=>by simp only [rawF,Fm.size,List.length_cons,List.length_append,bM a,bM b];omega
 | .box a=>by simp only [rawF,Fm.size,List.length_cons,bM a];omega
 | .dia a=>by simp only [rawF,Fm.size,List.length_cons,bM a];omega
theorem aAH (N:List RN):(aW N).length = N.length * 2:=by
 induction N with
 | nil=>rfl
 | cons q N ih=>rw [dG,List.length_append,ih,List.length_cons];show 2 + _ = _;omega
theorem sI:∀ {N:List RN} {i:Nat} (h:i < N.length),(aW N)[i * 2 + 0]? = some (.int .i64 N[i].1) ∧ (aW N)[i * 2 + 1]? = some (.int .i64 N[i].2)
 | [],_,h=>by simp at h
 | q :: N,0,_=>⟨rfl,rfl⟩
 | q :: N,i + 1,h=>by
  have:=sI (N:=N) (i:=i) (by simpa using h)
  have e:∀ f,(aW (q :: N))[(i + 1) * 2 + f]? = (aW N)[i * 2 + f]?:=fun f=>by
   rw [dG,List.getElem?_append_right (by simp [rcell];omega)]
   congr 1
   simp [rcell];omega
  rw [e,e]
  simpa using this
def okN (q:RN):Bool:=decide (0 ≤ q.1 ∧ q.1 ≤ 6) && (decide (0 ≤ q.2 ∧ q.2 ≤ 5) && (decide (q.1 = 0) || decide (q.2 = 0)))
theorem R5 {q:RN}:okN q = true ↔ (0 ≤ q.1 ∧ q.1 ≤ 6) ∧ (0 ≤ q.2 ∧ q.2 ≤ 5) ∧ (q.1 = 0 ∨ q.2 = 0):=by
 unfold okN
 rw [Bool.and_eq_true,Bool.and_eq_true,Bool.or_eq_true,decide_eq_true_eq,decide_eq_true_eq,decide_eq_true_eq,decide_eq_true_eq]
def arZ (k:Int):Nat:=if k = 2 ∨ k = 3 ∨ k = 4 then 2 else if k = 5 ∨ k = 6 then 1 else 0
theorem ZQ (k:Nat):arZ (k:Int) = arity k:=by
 unfold arZ arity
 have h1:((k:Int) = 2 ∨ (k:Int) = 3 ∨ (k:Int) = 4) ↔ (k = 2 ∨ k = 3 ∨ k = 4):=by omega
 have h2:((k:Int) = 5 ∨ (k:Int) = 6) ↔ (k = 5 ∨ k = 6):=by omega
 by_cases c1:k = 2 ∨ k = 3 ∨ k = 4
 ·rw [if_pos (h1.2 c1),if_pos c1]
 ·rw [if_neg (fun h=>c1 (h1.1 h)),if_neg c1]
  by_cases c2:k = 5 ∨ k = 6
  ·rw [if_pos (h2.2 c2),if_pos c2]
  ·rw [if_neg (fun h=>c2 (h2.1 h)),if_neg c2]
def goN:List RN → Nat → Option (List RN)
 | N,0=>some N
 | [],_ + 1=>none
 | q :: N,o + 1=>goN N (o + arZ q.1)
theorem FI (N:List RN):goN N 0 = some N:=by cases N <;> rfl
theorem XH (q:RN) (N:List RN) (o:Nat):goN (q :: N) (o + 1) = goN N (o + arZ q.1):=rfl
theorem lM:∀ (f:Fm) (R:List RN) (o:Nat),goN (rawF f ++ R) (o + 1) = goN R o
 | .var v,R,o=>rfl
 | .fls,R,o=>rfl
 | .and a b,R,o=>by
  show goN (rawF a ++ rawF b ++ R) (o + 1 + 1) = _
  rw [List.append_assoc,lM a,lM b]
 | .or a b,R,o=>by
  show goN (rawF a ++ rawF b ++ R) (o + 1 + 1) = _
  rw [List.append_assoc,lM a,lM b]
 | .imp a b,R,o=>by
  show goN (rawF a ++ rawF b ++ R) (o + 1 + 1) = _
  rw [List.append_assoc,lM a,lM b]
 | .box a,R,o=>by
  show goN (rawF a ++ R) (o + 1) = _
  rw [lM a]
 | .dia a,R,o=>by
  show goN (rawF a ++ R) (o + 1) = _
  rw [lM a]
theorem UE:∀ (N:List RN) (o:Nat) (R:List RN),(∀ q ∈ N,okN q = true) → goN N o = some R → ∃ fs:List Fm,fs.length = o ∧ (∀ f ∈ fs,f.good) ∧ N = fs.flatMap rawF ++ R
 | N,0,R,_,h=>by
  rw [FI] at h
  refine ⟨[],rfl,fun f hf=>?_,?_⟩
  ·cases hf
  ·exact Option.some.inj h
 | [],o + 1,R,_,h=>by cases h
 | q :: N,o + 1,R,hok,h=>by
  rw [XH] at h
  obtain ⟨fs,hl,hg,hN⟩:=UE N (o + arZ q.1) R (fun x hx=>hok x (List.mem_cons_of_mem _ hx)) h
  obtain ⟨k,s⟩:=q
  have hq:=R5.1 (hok _ List.mem_cons_self)
  obtain ⟨⟨k0,k6⟩,⟨s0,s5⟩,hks⟩:=hq
  have k0:0 ≤ k:=k0
  have k6:k ≤ 6:=k6
  have s0:0 ≤ s:=s0
  have s5:s ≤ 5:=s5
  have hks:k = 0 ∨ s = 0:=hks
  have hl:fs.length = o + arZ k:=hl
  have two:∀ {c:Fm → Fm → Fm} {kk:Int},k = kk → arZ k = 2 → s = 0 → (∀ a b,rawF (c a b) = (kk,0) :: (rawF a ++ rawF b)) → (∀ a b,a.good → b.good → (c a b).good) → ∃ fs:List Fm,fs.length = o + 1 ∧ (∀ f ∈ fs,f.good) ∧ (k,s) :: N = fs.flatMap rawF ++ R:=by
   intro c kk hk h2 hs hc hcg
   rw [h2] at hl
   match fs,hl,hg,hN with
   | a :: b :: fs,hl,hg,hN=>
    refine ⟨c a b :: fs,by simpa using hl,fun f hf=>?_,?_⟩
    ·rcases List.mem_cons.1 hf with rfl | hf
     ·exact hcg _ _ (hg a (by simp)) (hg b (by simp))
     ·exact hg f (by simp [hf])
    ·rw [hN,hk,hs];simp [hc]
  have one:∀ {c:Fm → Fm} {kk:Int},k = kk → arZ k = 1 → s = 0 → (∀ a,rawF (c a) = (kk,0) :: rawF a) → (∀ a,a.good → (c a).good) → ∃ fs:List Fm,fs.length = o + 1 ∧ (∀ f ∈ fs,f.good) ∧ (k,s) :: N = fs.flatMap rawF ++ R:=by
   intro c kk hk h2 hs hc hcg
   rw [h2] at hl
   match fs,hl,hg,hN with
   | a :: fs,hl,hg,hN=>
    refine ⟨c a :: fs,by simpa using hl,fun f hf=>?_,?_⟩
    ·rcases List.mem_cons.1 hf with rfl | hf
     ·exact hcg _ (hg a (by simp))
     ·exact hg f (by simp [hf])
    ·rw [hN,hk,hs];simp [hc]
  have nul:∀ {c:Fm},arZ k = 0 → rawF c = [(k,s)] → c.good → ∃ fs:List Fm,fs.length = o + 1 ∧ (∀ f ∈ fs,f.good) ∧ (k,s) :: N = fs.flatMap rawF ++ R:=by
   intro c h2 hc hcg
   rw [h2] at hl
   refine ⟨c :: fs,by rw [List.length_cons];omega,fun f hf=>?_,?_⟩
   ·rcases List.mem_cons.1 hf with rfl | hf
    ·exact hcg
    ·exact hg f hf
   ·rw [hN,List.flatMap_cons,hc];simp
  have hcase:k = 0 ∨ k = 1 ∨ k = 2 ∨ k = 3 ∨ k = 4 ∨ k = 5 ∨ k = 6:=by omega
  rcases hcase with h | h | h | h | h | h | h
  ·refine nul (c:=.var s.toNat) (by rw [h];rfl) ?_ (show s.toNat < 6 by omega)
   rw [h]
   show [(0,((s.toNat:Nat):Int))] = _
   rw [Int.toNat_of_nonneg s0]
  ·have hs:s = 0:=by omega
   exact nul (c:=.fls) (by rw [h];rfl) (by rw [h,hs];rfl) trivial
  ·exact two (c:=.and) h (by rw [h];rfl) (by omega) (fun _ _=>rfl) fun _ _ h1 h2=>⟨h1,h2⟩
  ·exact two (c:=.or) h (by rw [h];rfl) (by omega) (fun _ _=>rfl) fun _ _ h1 h2=>⟨h1,h2⟩
  ·exact two (c:=.imp) h (by rw [h];rfl) (by omega) (fun _ _=>rfl) fun _ _ h1 h2=>⟨h1,h2⟩
  ·exact one (c:=.box) h (by rw [h];rfl) (by omega) (fun _=>rfl) fun _ h1=>h1
  ·exact one (c:=.dia) h (by rw [h];rfl) (by omega) (fun _=>rfl) fun _ h1=>h1
theorem lP:∀ {f:Fm},f.good → ∀ q ∈ rawF f,okN q = true
 | .var v,h,q,hq=>by
  simp only [rawF,List.mem_singleton] at hq
  subst hq
  have h:v < 6:=h
  exact R5.2 ⟨by simp,by simp;omega,.inl rfl⟩
 | .fls,_,q,hq=>by simp only [rawF,List.mem_singleton] at hq;subst hq;rfl
 | .and a b,h,q,hq=>by
  simp only [rawF,List.mem_cons,List.mem_append] at hq
  rcases hq with rfl | hq | hq
  ·rfl
  ·exact lP h.1 q hq
  ·exact lP h.2 q hq
 | .or a b,h,q,hq=>by
  simp only [rawF,List.mem_cons,List.mem_append] at hq
  rcases hq with rfl | hq | hq
  ·rfl
  ·exact lP h.1 q hq
  ·exact lP h.2 q hq
 | .imp a b,h,q,hq=>by
  simp only [rawF,List.mem_cons,List.mem_append] at hq
  rcases hq with rfl | hq | hq
  ·rfl
  ·exact lP h.1 q hq
  ·exact lP h.2 q hq
 | .box a,h,q,hq=>by
  simp only [rawF,List.mem_cons] at hq
  rcases hq with rfl | hq
  ·rfl
  ·exact lP (f:=a) h q hq
 | .dia a,h,q,hq=>by
  simp only [rawF,List.mem_cons] at hq
  rcases hq with rfl | hq
  ·rfl
  ·exact lP (f:=a) h q hq
def treeN (N:List RN):Bool:=N.all okN && decide (goN N 1 = some [])
def isN (N:List RN):Bool:=decide (N.length ≤ 40) && treeN N
theorem aBS {N:List RN}:treeN N = true ↔ ∃ f:Fm,f.good ∧ N = rawF f:=by
 unfold treeN
 rw [Bool.and_eq_true,decide_eq_true_eq,List.all_eq_true]
 constructor
 ·rintro ⟨h1,h2⟩
  obtain ⟨fs,hl,hg,hN⟩:=UE N 1 [] h1 h2
  match fs,hl,hg,hN with
  | [f],_,hg,hN=>exact ⟨f,hg f (by simp),by simpa using hN⟩
 ·rintro ⟨f,hg,rfl⟩
  refine ⟨lP hg,?_⟩
  have:=lM f [] 0
  rw [List.append_nil] at this
  rw [this];rfl
theorem YP {N:List RN}:isN N = true ↔ ∃ f:Fm,f.good ∧ f.size ≤ 40 ∧ N = rawF f:=by
 unfold isN
 rw [Bool.and_eq_true,decide_eq_true_eq,aBS]
 constructor
 ·rintro ⟨h,f,hg,rfl⟩
  exact ⟨f,hg,by rwa [bM] at h,rfl⟩
 ·rintro ⟨f,hg,h,rfl⟩
  exact ⟨by rwa [bM],f,hg,rfl⟩
end Go.Vc

namespace Go.Vc
end Go.Vc
namespace Go.Proofs.YteifjhpddhppcaaGreatDoor
open Go.Vc
end Go.Proofs.YteifjhpddhppcaaGreatDoor

namespace Go.Vc
end Go.Vc
namespace Go.Proofs.YteifjhpddhppcaaGreatDoor
open Go.Vc
end Go.Proofs.YteifjhpddhppcaaGreatDoor

namespace Go.Vc
end Go.Vc
namespace Go.Proofs.YteifjhpddhppcaaGreatDoor
open Go.Vc
end Go.Proofs.YteifjhpddhppcaaGreatDoor

namespace Go.Proofs.YteifjhpddhppcaaGreatDoor
open Go.Vc
end Go.Proofs.YteifjhpddhppcaaGreatDoor

namespace Go.Vc
theorem aD4 (f:Fr) (a b:Nat):impM f a b < 2 ^ f.n:=FL fun _ hy=>List.mem_range.1 (List.mem_filter.1 hy).1
end Go.Vc
namespace Go.Proofs.YteifjhpddhppcaaGreatDoor
open Go.Vc
end Go.Proofs.YteifjhpddhppcaaGreatDoor

namespace Go.Proofs.YteifjhpddhppcaaGreatDoor
open Go.Vc
def Fm.pl:Fm → Prop
 | .var v=>v < 6
 | .fls=>True
 | .and a b=>Fm.pl a ∧ Fm.pl b
 | .or a b=>Fm.pl a ∧ Fm.pl b
 | .imp a b=>Fm.pl a ∧ Fm.pl b
 | .box _=>False
 | .dia _=>False
theorem aD2 {f:Fm} (h:Fm.pl f):∀ g ∈ f.kids,Fm.pl g:=by
 intro g hg
 cases f with
 | var v=>cases hg
 | fls=>cases hg
 | and a b=>simp only [Fm.kids,List.mem_cons,List.not_mem_nil,or_false] at hg;rcases hg with rfl | rfl <;> first | exact h.1 | exact h.2
 | or a b=>simp only [Fm.kids,List.mem_cons,List.not_mem_nil,or_false] at hg;rcases hg with rfl | rfl <;> first | exact h.1 | exact h.2
 | imp a b=>simp only [Fm.kids,List.mem_cons,List.not_mem_nil,or_false] at hg;rcases hg with rfl | rfl <;> first | exact h.1 | exact h.2
 | box a=>exact h.elim
 | dia a=>exact h.elim
def sfx:List Fm → Nat → List Fm
 | fs,0=>fs
 | [],_ + 1=>[]
 | f :: fs,n + 1=>sfx (f.kids ++ fs) n
theorem WF:∀ (n:Nat) (fs:List Fm),sfx fs (n + 1) = match sfx fs n with | f :: r=>f.kids ++ r | []=>[]
 | 0,[]=>rfl
 | 0,f :: fs=>by simp [sfx]
 | n + 1,[]=>rfl
 | n + 1,f :: fs=>WF n (f.kids ++ fs)
theorem FP:∀ (n:Nat) (fs:List Fm),sizeL (sfx fs n) = sizeL fs - n
 | 0,fs=>by simp [sfx]
 | n + 1,[]=>by simp [sfx,sizeL]
 | n + 1,f :: fs=>by
  show sizeL (sfx (f.kids ++ fs) n) = _
  have h1:=f.size_kids
  rw [FP n,kS,show sizeL (f :: fs) = f.size + sizeL fs by simp [sizeL]]
  omega
theorem TL:∀ (n:Nat) (fs:List Fm),(aI fs).drop (n * 2) = aI (sfx fs n)
 | 0,fs=>by simp [sfx]
 | n + 1,[]=>by simp [sfx,aI]
 | n + 1,f :: fs=>by
  show _ = aI (sfx (f.kids ++ fs) n)
  rw [← TL n,wB,show aI (f :: fs) = f.cells ++ aI fs by simp [aI],f.cells_kids,List.append_assoc,show (n + 1) * 2 = n * 2 + 2 by omega,← List.drop_drop]
  rw [show (nd f.kind f.sym ++ (aI f.kids ++ aI fs)).drop (n * 2) = (nd f.kind f.sym ++ (aI f.kids ++ aI fs)).drop (n * 2) from rfl,List.drop_drop,show n * 2 + 2 = 2 + n * 2 by omega,← List.drop_drop]
  rfl
theorem YZ {Q:Fm → Prop} (hQ:∀ f,Q f → ∀ g ∈ f.kids,Q g):∀ (n:Nat) (fs:List Fm),(∀ f ∈ fs,Q f) → ∀ f ∈ sfx fs n,Q f
 | 0,fs,h=>by simpa [sfx] using h
 | n + 1,[],h=>by simp [sfx]
 | n + 1,f :: fs,h=>by
  show ∀ g ∈ sfx (f.kids ++ fs) n,Q g
  refine YZ hQ n _ fun g hg=>?_
  rcases List.mem_append.1 hg with hg | hg
  ·exact hQ f (h f List.mem_cons_self) g hg
  ·exact h g (List.mem_cons_of_mem _ hg)
def stk (f:Fr) (V:Nat → Nat) (a:Fm) (n:Nat):List Nat:=((sfx [a] n).map (frc f V)).reverse
theorem wK {f:Fr} {V:Nat → Nat} (hV:∀ v,V v < 2 ^ f.n):∀ a,frc f V a < 2 ^ f.n
 | .var v=>hV v
 | .fls=>Nat.two_pow_pos _
 | .and _ b=>Nat.and_lt_two_pow _ (wK hV b)
 | .or a b=>Nat.or_lt_two_pow (wK hV a) (wK hV b)
 | .imp _ _=>aD4 _ _ _
 | .box _=>Nat.two_pow_pos _
 | .dia _=>Nat.two_pow_pos _
theorem jO {lo b:Nat} {e:TypeId} {w:World} {v x:Value} {xs:List Value} (hB:Blk e w b [v]) (ho:Ow lo t_i64 w v (xs ++ [x])) (hne:t_i64 ≠ e):
  Cal Tryz.prog oD #[.pointer (some ⟨b,0,none⟩)] w fun r w'=>r = x ∧ ∃ v',Blk e w' b [v'] ∧ Ow lo t_i64 w' v' xs ∧ Ch (fun c=>c = b) w w':=by
 have hl:=ho.sl.len
 rw [List.length_append,List.length_singleton] at hl
 apply EQ;unfold nN
 refine iLdB hB (v:=v) rfl (iLdB hB (v:=v) rfl ?_)
 refine iLenS ho.sl ?_
 rw [List.length_append,List.length_singleton]
 refine iSub (by omega) ?_
 rw [show ((xs.length + 1:Nat):Int) - 1 = (xs.length:Int) by omega]
 refine iIa (j:=(xs.length:Int)) ho.sl (by omega) (by simp;omega) fun p hp=>?_
 refine iLd (v:=x) (by rw [hp];simp) ?_
 refine iLdB hB (v:=v) rfl (iLdB hB (v:=v) rfl ?_)
 refine iLenS ho.sl ?_
 rw [List.length_append,List.length_singleton]
 refine iSub (by omega) ?_
 rw [show ((xs.length + 1:Nat):Int) - 1 = (xs.length:Int) by omega]
 refine aDT ho fun v' hb' ho'=>?_
 have hnb:v'.ownBlock ≠ some b:=by rw [hb'];exact ho.ne_blk hB hne
 refine iStB hB (i:=0) (by simp) ho'.cell fun hB'=>?_
 exact ⟨rfl,v',hB',ho'.other hnb _,(Upd.setCell w b 0 v').ch rfl⟩
theorem R8 {f:Fr} (hf:f.ok) {va vv vn:Value} {w:World} (hs:SlN w va f.a) {vals:List Nat} (hv:SlN w vv vals) (h6:vals.length = 6) (hlt:∀ x ∈ vals,x < 2 ^ f.n) {a:Fm} (ha:FmS w vn a) (hpl:Fm.pl a) (hsz:a.size ≤ 1000000):
  Ret Tryz.prog qS #[.agg #[.int .i64 (f.n:Int),va],vv,vn] w (.int .i64 ((frc f (fun v=>vals.getD v 0) a:Nat):Int)):=by
 obtain ⟨V,hVe⟩:∃ V:Nat → Nat,V = fun v=>vals.getD v 0:=⟨_,rfl⟩
 rw [← hVe]
 have hV:∀ v,V v < 2 ^ f.n:=fun v=>by
  rw [hVe]
  show vals.getD v 0 < _
  rcases Nat.lt_or_ge v vals.length with h | h
  ·exact SZ hlt h
  ·rw [List.getD_eq_getElem?_getD,List.getElem?_eq_none h];exact Nat.two_pow_pos _
 have h63:∀ g,frc f V g < 2 ^ 63:=fun g=>Nat.lt_of_lt_of_le (wK hV g) (Nat.pow_le_pow_right (by omega) (by have:=hf.1;omega))
 apply HQ;unfold qO
 refine iNew fun b3 w1 hb3 x1 hB3=>?_
 have hB3:Blk _ w1 b3 [.int .i64 (f.n:Int),va]:=hB3
 refine iNew fun b7 w2 hb7 x2 hB7=>?_
 have hB7:Blk _ w2 b7 [.slice none 0 0]:=hB7
 have hx:=x1.trans x2
 refine iLenK (ha.ext hx) ?_
 refine iSub (by omega) ?_
 have hlo:w.heap.size ≤ w2.heap.size:=hx.size
 have hsa:sizeL [a] = a.size:=by simp [sizeL]
 refine iLp (fun n:Nat=>[.int .i64 ((n:Int) - 1)]) (fun n w'=>n ≤ a.size ∧ Ext w w' ∧ Blk 45 w' b3 [.int .i64 (f.n:Int),va] ∧ ∃ v,Blk 43 w' b7 [v] ∧ Ow w.heap.size t_i64 w' v (ints (nats (stk f V a n)))) (fun n=>n) a.size rfl ⟨Nat.le_refl _,hx,hB3.ext x2,_,hB7,?_⟩ ?_
 ·have:stk f V a a.size = []:=by
   have h1:=FP a.size [a]
   rw [hsa,Nat.sub_self] at h1
   have h2:=tH (sfx [a] a.size)
   have:sfx [a] a.size = []:=List.length_eq_zero_iff.1 (by omega)
   unfold stk;rw [this];rfl
  rw [this]
  exact Ow.nil _ _ _
 rintro n w4 Kn ⟨hn,x4,hB3,v,hB7,ho⟩ hKn
 intro _
 simp only [gx]
 have hs4:=hs.ext x4
 have hv4:=hv.ext x4
 have ha4:=ha.ext x4
 have hsub:∀ {w'},Ch (fun c=>c = b7) w4 w' → Ext w w':=fun hc=>x4.thenCh hc fun c h=>by subst h;have:=x1.size;omega
 refine iLe (iCndP (fun h=>?_) (fun h=>?_))
 ·obtain ⟨m,rfl⟩:∃ m,n = m + 1:=⟨n - 1,by omega⟩
  have hm:m < a.size:=by omega
  rw [show ((m + 1:Nat):Int) - 1 = (m:Int) by omega]
  obtain ⟨g,r,hg⟩:∃ g r,sfx [a] m = g :: r:=by
   have h1:=FP m [a]
   rw [hsa] at h1
   cases hc:sfx [a] m with
   | nil=>rw [hc] at h1;simp [sizeL] at h1;omega
   | cons g r=>exact ⟨g,r,rfl⟩
  have hpg:Fm.pl g:=YZ (Q:=Fm.pl) (fun _ h=>aD2 h) m [a] (by simpa using hpl) g (by rw [hg];simp)
  have hcell:a.cells.drop (m * 2) = aI (g :: r) ++ []:=by
   rw [List.append_nil,← hg,← TL];simp [aI]
  obtain ⟨hk,hsy,-⟩:=R7 hcell
  have hnext:sfx [a] (m + 1) = g.kids ++ r:=by rw [WF,hg]
  have hst:stk f V a (m + 1) = (r.map (frc f V)).reverse ++ (g.kids.map (frc f V)).reverse:=by
   unfold stk;rw [hnext,List.map_append,List.reverse_append]
  have hst0:stk f V a m = (r.map (frc f V)).reverse ++ [frc f V g]:=by
   unfold stk;rw [hg,List.map_cons,List.reverse_cons]
  rw [hst] at ho
  -- the way on: the stack without the parts, and the value
  have go:∀ w6 v6,Ext w w6 → Blk 45 w6 b3 [.int .i64 (f.n:Int),va] → Blk 43 w6 b7 [v6] → Ow w.heap.size t_i64 w6 v6 (ints (nats ((r.map (frc f V)).reverse))) →
    xLd w6 (.pointer (some ⟨b7,0,none⟩)) fun v58=>xBs t_i64 (Value.cells (.int .i64 0)) 1 1 [(0,(.int .i64 ((frc f V g:Nat):Int)))] w6 fun v60 w21=>xOp Tryz.prog (Builtin.append_ #[43,43] 43 #[v58,v60]) w21 fun v61 w22=>
    xSt w22 (.pointer (some ⟨b7,0,none⟩)) v61 fun w23=>xSub .i64 (.int .i64 (m:Int)) (.int .i64 1) fun v19=>Kn [v19] w23:=by
   intro w6 v6 x6 hB36 hB76 ho6
   refine iLdB hB76 (v:=v6) rfl ?_
   have hrl:r.length ≤ a.size:=by
    have h1:=FP m [a]
    rw [hsa,hg] at h1
    have h2:=tH (g :: r)
    rw [List.length_cons] at h2
    omega
   refine iApp1 OZ PW rfl ho6 rfl (by simp [ints,nats];omega) (by simp [ints,nats];omega) (by have:=x6.size;omega) fun v7 w7 ho7 hg7=>?_
   have hnb6:=ho6.ne_blk hB76 (show t_i64 ≠ 43 by decide)
   have hB77:Blk 43 w7 b7 [v6]:=by
    unfold Blk at hB76 ⊢
    rw [hg7.block b7 (cP hB76) fun e=>hnb6 e.symm];exact hB76
   have hnb3:=ho6.ne_blk hB36 (show t_i64 ≠ 45 by decide)
   have hB37:Blk 45 w7 b3 [.int .i64 (f.n:Int),va]:=by
    unfold Blk at hB36 ⊢
    rw [hg7.block b3 (cP hB36) fun e=>hnb3 e.symm];exact hB36
   have x7:Ext w w7:=x6.grown hg7 fun b hb=>(ho6.blk b hb).1
   refine iStB hB77 (i:=0) (by simp) ho7.cell fun hB78=>?_
   have hnb7:=ho7.ne_blk hB77 (show t_i64 ≠ 43 by decide)
   refine iSub (by omega) ?_
   refine hKn m _ ⟨by omega,?_,hB37.other (hB37.ne_blk hB77 (by decide)) _,v7,hB78,?_⟩ (by omega)
   ·exact YU x7 (by have:=x1.size;show w.heap.size ≤ b7;omega) _
   ·have:=ho7.other (i:=0) hnb7 v7
    rw [hst0]
    simpa [ints,nats] using this
  refine iFld (f:=0) ha4 rfl hm (by decide) hk ?_
  cases g with
  | var z=>
   refine iEq (iCndT (by first | rfl | decide) ?_)
   refine iFld (f:=1) ha4 rfl hm (by decide) hsy ?_
   have hz:z < 6:=hpg
   refine iIaNN (j:=z) hv4 (by omega) fun p hp=>iLd hp ?_
   intro _
   simp only [gx]
   have e:frc f V (.var z) = vals.getD z 0:=by simp only [frc,hVe]
   have:=go w4 v x4 hB3 hB7 (by simpa [Fm.kids] using ho)
   rw [e] at this
   exact this
  | fls=>
   refine iEq (iCndF (by first | rfl | decide) ?_)
   refine iEq (iCndF (by first | rfl | decide) ?_)
   refine iEq (iCndF (by first | rfl | decide) ?_)
   refine iEq (iCndF (by first | rfl | decide) ?_)
   intro _;intro _;intro _;intro _
   simp only [gx]
   exact go w4 v x4 hB3 hB7 (by simpa [Fm.kids] using ho)
  | and p q=>
   refine iEq (iCndF (by first | rfl | decide) ?_)
   refine iEq (iCndT (by first | rfl | decide) ?_)
   have ho:Ow w.heap.size t_i64 w4 v (ints (nats ((r.map (frc f V)).reverse)) ++ [.int .i64 ((frc f V q:Nat):Int)] ++ [.int .i64 ((frc f V p:Nat):Int)]):=by simpa [Fm.kids,ints,nats] using ho
   refine iClo rfl ((jO hB7 ho (by decide)).mono ?_)
   rintro u1 w5 ⟨rfl,v5,hB75,ho5,c5⟩
   refine iClo rfl ((jO hB75 ho5 (by decide)).mono ?_)
   rintro u2 w6 ⟨rfl,v6,hB76,ho6,c6⟩
   refine iBAnd (h63 _) (h63 _) ?_
   intro _;intro _
   simp only [gx]
   have c46:Ch (fun c=>c = b7) w4 w6:=c5.trans c6 fun b hb=>.inl hb
   exact go w6 v6 (hsub c46) (hB3.ch c46 (hB3.ne_blk hB7 (by decide))) hB76 ho6
  | or p q=>
   refine iEq (iCndF (by first | rfl | decide) ?_)
   refine iEq (iCndF (by first | rfl | decide) ?_)
   refine iEq (iCndT (by first | rfl | decide) ?_)
   have ho:Ow w.heap.size t_i64 w4 v (ints (nats ((r.map (frc f V)).reverse)) ++ [.int .i64 ((frc f V q:Nat):Int)] ++ [.int .i64 ((frc f V p:Nat):Int)]):=by simpa [Fm.kids,ints,nats] using ho
   refine iClo rfl ((jO hB7 ho (by decide)).mono ?_)
   rintro u1 w5 ⟨rfl,v5,hB75,ho5,c5⟩
   refine iClo rfl ((jO hB75 ho5 (by decide)).mono ?_)
   rintro u2 w6 ⟨rfl,v6,hB76,ho6,c6⟩
   refine iBOr (h63 _) (h63 _) ?_
   intro _;intro _;intro _
   simp only [gx]
   have c46:Ch (fun c=>c = b7) w4 w6:=c5.trans c6 fun b hb=>.inl hb
   exact go w6 v6 (hsub c46) (hB3.ch c46 (hB3.ne_blk hB7 (by decide))) hB76 ho6
  | imp p q=>
   refine iEq (iCndF (by first | rfl | decide) ?_)
   refine iEq (iCndF (by first | rfl | decide) ?_)
   refine iEq (iCndF (by first | rfl | decide) ?_)
   refine iEq (iCndT (by first | rfl | decide) ?_)
   have ho:Ow w.heap.size t_i64 w4 v (ints (nats ((r.map (frc f V)).reverse)) ++ [.int .i64 ((frc f V q:Nat):Int)] ++ [.int .i64 ((frc f V p:Nat):Int)]):=by simpa [Fm.kids,ints,nats] using ho
   refine iClo rfl ((jO hB7 ho (by decide)).mono ?_)
   rintro u1 w5 ⟨rfl,v5,hB75,ho5,c5⟩
   have hB35:=hB3.ch c5 (hB3.ne_blk hB7 (by decide))
   refine ⟨fun c=>c = b7,iLdA hB35 rfl ⟨fun w7 c7=>iLdA (hB35.ch c7 (hB35.ne_blk hB75 (by decide))) rfl rfl,fun w6 x6=>?_⟩⟩
   have hB76:=hB75.ext x6
   refine iClo rfl ((jO hB76 (ho5.ext x6) (by decide)).mono ?_)
   rintro u2 w7 ⟨rfl,v7,hB77,ho7,c7⟩
   refine ⟨c7,_,fun w8 c8=>iCall ((U5 hf ?_ _ _ (wK hV p) (wK hV q)).mono fun _ _ h=>h),?_⟩
   ·have c48:Ch (fun c=>c = b7) w4 w8:=((c5.trans x6.ch (S':=fun c=>c = b7) fun b hb=>.inl hb).trans c7 fun b hb=>.inl hb).trans c8 fun b hb=>.inl hb
    exact hs.ext (hsub c48)
   ·intro w8 x8
    have c48:Ch (fun c=>c = b7) w4 w8:=((c5.trans x6.ch (S':=fun c=>c = b7) fun b hb=>.inl hb).trans c7 fun b hb=>.inl hb).trans x8.ch (S':=fun c=>c = b7) fun b hb=>.inl hb
    intro _;intro _;intro _;intro _
    simp only [gx]
    exact go w8 v7 (hsub c48) (hB3.ch c48 (hB3.ne_blk hB7 (by decide))) (hB77.ext x8) (ho7.ext x8)
  | box p=>exact hpg.elim
  | dia p=>exact hpg.elim
 ·have h0:n = 0:=by omega
  subst h0
  have e:stk f V a 0 = [frc f V a]:=by simp [stk,sfx]
  rw [e] at ho
  refine iLdB hB7 (v:=v) rfl ?_
  refine iIa (j:=0) ho.sl (by omega) (by simp [ints,nats]) fun p hp=>?_
  refine iLd (v:=.int .i64 ((frc f V a:Nat):Int)) (by rw [hp];simp [ints,nats]) ⟨rfl,x4⟩
end Go.Proofs.YteifjhpddhppcaaGreatDoor

namespace Go.Vc
section
variable {α:Type} {lt:α → α → Bool}
end
end Go.Vc

namespace Go.Proofs.YteifjhpddhppcaaGreatDoor
open Go.Vc
end Go.Proofs.YteifjhpddhppcaaGreatDoor

namespace Go.Proofs.YteifjhpddhppcaaGreatDoor
open Go.Vc
end Go.Proofs.YteifjhpddhppcaaGreatDoor

namespace Go.Proofs.YteifjhpddhppcaaGreatDoor
open Go.Vc
theorem RM (g:Fr):frOf (g.n:Int) (nats g.a) = g:=by
 unfold frOf nats
 rw [Int.toNat_natCast,List.map_map]
 have:(Int.toNat ∘ fun (x:Nat)=>(x:Int)) = id:=by funext x;simp
 first
  | rw [this,List.map_id]
  | simp [Function.comp_def]
theorem aEA {f:Fr} (hp:Po f):poB f = true:=by
 unfold poB
 rw [Bool.and_eq_true,Bool.and_eq_true]
 refine ⟨?_,(B1 hp.ok).2 hp.trans,sX.2 fun x _=>⟨by unfold flag1;simp,fun y _=>?_⟩⟩
 ·rw [FK,List.all_eq_true]
  exact fun x hx=>hp.refl x (List.mem_range.1 hx)
 ·unfold flag2
  cases h1:(f.a.getD x 0).testBit y
  ·rfl
  ·cases h2:(f.a.getD y 0).testBit x
   ·simp
   ·simp [hp.anti x y h1 h2]
theorem XQ {f:Fr} (hp:Po f):iM (f.n:Int) (nats f.a) = true:=by
 unfold iM iK
 rw [RM,aEA hp,Bool.and_true,Bool.and_eq_true,Bool.and_eq_true,decide_eq_true_eq,decide_eq_true_eq,List.all_eq_true,Int.toNat_natCast]
 refine ⟨⟨⟨by omega,by have:=hp.ok.1;omega⟩,by rw [bU,hp.ok.2.1]⟩,fun z hz=>?_⟩
 obtain ⟨m,hm,rfl⟩:=List.mem_map.1 hz
 have:=hp.ok.2.2 m hm
 unfold maskB
 rw [decide_eq_true_eq]
 generalize 2 ^ f.n = k at *
 show 0 ≤ (m:Int) ∧ (m:Int) ≤ ((k - 1:Nat):Int)
 omega
end Go.Proofs.YteifjhpddhppcaaGreatDoor

namespace Go.Proofs.YteifjhpddhppcaaGreatDoor
open Go.Vc
/-! ### Spread -/
/-! ### Roots, where there may be none -/
theorem IG {v:Value} (n x:Int) (hn:0 ≤ n ∧ n ≤ 1000) (w:World):Ret Tryz.prog l3 #[.agg #[.int .i64 n,v],.int .i64 x] w (.bool (decide (0 ≤ x ∧ x ≤ n - 1))):=by
 apply zA;unfold lZ
 refine iNew fun b w1 hb h1 hB=>?_
 have hB:Blk _ w1 b [.int .i64 n,v]:=hB
 refine iFa (iLdB hB (v:=.int .i64 n) rfl ?_)
 refine iSub (by omega) ?_
 exact iRet (e4 _ _ _ w1) fun w2 h2=>⟨rfl,h1.trans h2⟩
end Go.Proofs.YteifjhpddhppcaaGreatDoor

namespace Go.Vc
abbrev RawS (w:World) (v:Value) (N:List RN):Prop:=SlK 2 w v N.length (aW N)
theorem W7 {N:List RN} {j:Nat} (hj:j < N.length) (o:Nat):goN (N.drop j) (o + 1) = goN (N.drop (j + 1)) (o + arZ N[j].1):=by
 rw [List.drop_eq_getElem_cons hj];rfl
def endN (N:List RN) (i:Nat):Int:=match goN (N.drop i) 1 with
 | some R=>((N.length - R.length:Nat):Int)
 | none=>-1
theorem YX:∀ (N:List RN) (o:Nat) (R:List RN),goN N o = some R → R.length ≤ N.length
 | N,0,R,h=>by rw [FI] at h;cases h;exact Nat.le_refl _
 | [],_ + 1,_,h=>by cases h
 | q :: N,o + 1,R,h=>by
  rw [XH] at h
  have:=YX N _ R h
  rw [List.length_cons];omega
theorem TX {N:List RN} (h:N.all okN = true) (hp:0 < N.length):decide (endN N 0 = (N.length:Int)) = treeN N:=by
 unfold treeN endN
 rw [h,Bool.true_and,List.drop_zero]
 cases hg:goN N 1 with
 | none=>
  refine decide_eq_decide.2 ⟨fun e=>?_,fun e=>by cases e⟩
  have e:(-1:Int) = (N.length:Int):=e
  omega
 | some R=>
  have hl:=YX N 1 R hg
  refine decide_eq_decide.2 ⟨fun e=>?_,fun e=>?_⟩
  ·have e:((N.length - R.length:Nat):Int) = (N.length:Int):=e
   have:R = []:=List.length_eq_zero_iff.1 (by omega)
   rw [this]
  ·cases e
   show ((N.length - 0:Nat):Int) = _
   rw [Nat.sub_zero]
theorem YO {q:RN} (h:okN q = true):∃ k s:Nat,q = ((k:Int),(s:Int)) ∧ k ≤ 6 ∧ s ≤ 5:=by
 obtain ⟨⟨h1,h2⟩,⟨h3,h4⟩,_⟩:=R5.1 h
 obtain ⟨a,b⟩:=q
 have h1:0 ≤ a:=h1
 have h2:a ≤ 6:=h2
 have h3:0 ≤ b:=h3
 have h4:b ≤ 5:=h4
 refine ⟨a.toNat,b.toNat,?_,by omega,by omega⟩
 rw [Int.toNat_of_nonneg h1,Int.toNat_of_nonneg h3]
end Go.Vc
namespace Go.Proofs.YteifjhpddhppcaaGreatDoor
open Go.Vc
theorem FmS.raw {w:World} {v:Value} {f:Fm} (h:FmS w v f):RawS w v (rawF f):=by
 show SlK 2 w v (rawF f).length (aW (rawF f))
 rw [bM,dP];exact h
theorem OL {v:Value} {N:List RN} {i:Nat} {w:World} (hs:RawS w v N) (hok:N.all okN = true) (hi:i ≤ N.length) (hn:N.length ≤ 1099511627776):Ret Tryz.prog r1 #[v,.int .i64 (i:Int)] w (.int .i64 (endN N i)):=by
 apply D1;unfold rG
 refine iLp (fun s:Nat × Nat=>[.int .i64 (s.1:Int),.int .i64 (s.2:Int)]) (fun s w'=>Ext w w' ∧ s.1 ≤ N.length ∧ s.2 ≤ 1 + 2 * s.1 ∧ goN (N.drop s.1) s.2 = goN (N.drop i) 1) (fun s=>N.length - s.1) (i,1) rfl ⟨Ext.refl _,hi,by show 1 ≤ 1 + 2 * i;omega,rfl⟩ ?_
 rintro ⟨j,o⟩ w2 Kn ⟨x2,hj,ho,hg⟩ hKn
 have hj:j ≤ N.length:=hj
 have ho:o ≤ 1 + 2 * j:=ho
 have hg:goN (N.drop j) o = goN (N.drop i) 1:=hg
 intro _
 simp only [gx]
 refine iLt (iCndP (fun h3=>?_) (fun h3=>?_))
 ·obtain ⟨o',rfl⟩:∃ o',o = o' + 1:=⟨o - 1,by omega⟩
  refine iLenK (SlK.ext hs x2) ?_
  refine iLe (iCndP (fun h4=>?_) (fun h4=>?_))
  ·obtain rfl:j = N.length:=by omega
   rw [List.drop_length] at hg
   refine ⟨?_,x2⟩
   unfold endN
   rw [← hg];rfl
  ·have hj1:j < N.length:=by omega
   have hat:=sI hj1
   obtain ⟨k,s,hq,hk6,_⟩:=YO (List.all_eq_true.1 hok _ (List.getElem_mem hj1))
   refine iSub (by omega) ?_
   refine iFld (f:=0) (SlK.ext hs x2) rfl hj1 (by decide) hat.1 ?_
   have e1:N[j].1 = (k:Int):=by rw [hq]
   rw [e1]
   refine iRet (xP k w2) fun w3 x3=>?_
   have hak:arity k ≤ 2:=by unfold arity;split;omega;split <;> omega
   refine iAdd (by omega) (iAdd (by omega) ?_)
   rw [show ((o' + 1:Nat):Int) - 1 + (arity k:Int) = ((o' + arity k:Nat):Int) by omega]
   refine hKn (j + 1,o' + arity k) _ ⟨x2.trans x3,by show j + 1 ≤ N.length;omega,by show o' + arity k ≤ 1 + 2 * (j + 1);omega,?_⟩ (by show N.length - (j + 1) < N.length - j;omega)
   show goN (N.drop (j + 1)) (o' + arity k) = _
   rw [← hg,W7 hj1,e1,ZQ]
 ·obtain rfl:o = 0:=by omega
  rw [FI] at hg
  refine ⟨?_,x2⟩
  unfold endN
  rw [← hg]
  show Value.int .i64 (j:Int) = .int .i64 ((N.length - (N.drop j).length:Nat):Int)
  rw [List.length_drop,show N.length - (N.length - j) = j by omega]
theorem QE {v:Value} {N:List RN} {w:World} (hs:RawS w v N) (hn:N.length ≤ 1099511627776):Ret Tryz.prog CJ #[v] w (.bool (treeN N)):=by
 apply SK;unfold CG
 refine iLp (fun i:Nat=>[.int .i64 (i:Int)]) (fun i w'=>i ≤ N.length ∧ Ext w w' ∧ (N.take i).all okN = true) (fun i=>N.length - i) 0 rfl ⟨Nat.zero_le _,Ext.refl _,by simp⟩ ?_
 rintro i w2 Kn ⟨hi,x2,hall⟩ hKn
 have hs2:=SlK.ext hs x2
 intro _
 simp only [gx]
 refine iLenK hs2 ?_
 refine iLt (iCndP (fun h3=>?_) (fun h3=>?_))
 ·have hi1:i < N.length:=by omega
  have hat:=sI hi1
  refine iJnB (!okN N[i]) w2 (fun J hJ=>?_) (fun w4 x4=>?_)
  ·refine iFld (f:=0) hs2 rfl hi1 (by decide) hat.1 ?_
   refine iRet (GS _ _ _ w2) fun w5 x5=>?_
   refine iNot ?_
   have hs5:=SlK.ext hs2 x5
   by_cases c1:0 ≤ N[i].1 ∧ N[i].1 ≤ 6
   ·rw [decide_eq_true c1]
    refine iCndF rfl ?_
    refine iFld (f:=1) hs5 rfl hi1 (by decide) hat.2 ?_
    refine iRet (GS _ _ _ w5) fun w6 x6=>?_
    have hs6:=SlK.ext hs5 x6
    refine iNot ?_
    by_cases c2:0 ≤ N[i].2 ∧ N[i].2 ≤ 5
    ·rw [decide_eq_true c2]
     refine iCndF rfl ?_
     refine iFld (f:=0) hs6 rfl hi1 (by decide) hat.1 ?_
     refine iNe (iCndP (fun c3=>?_) (fun c3=>?_))
     ·refine iFld (f:=1) hs6 rfl hi1 (by decide) hat.2 ?_
      refine iNe ?_
      have:(!okN N[i]) = decide (¬ N[i].2 = 0):=by
       unfold okN
       rw [decide_eq_true c1,decide_eq_true c2,decide_eq_false c3,Bool.true_and,Bool.true_and,Bool.false_or,← decide_not]
      rw [this] at hJ
      exact hJ _ (x5.trans x6)
     ·have c3:N[i].1 = 0:=Classical.not_not.1 c3
      have:(!okN N[i]) = false:=by
       unfold okN
       rw [decide_eq_true c1,decide_eq_true c2,decide_eq_true c3];rfl
      rw [this] at hJ
      exact hJ _ (x5.trans x6)
    ·rw [decide_eq_false c2]
     refine iCndT rfl ?_
     have:(!okN N[i]) = true:=by
      unfold okN
      rw [decide_eq_false c2,Bool.false_and,Bool.and_false];rfl
     rw [this] at hJ
     exact hJ _ (x5.trans x6)
   ·rw [decide_eq_false c1]
    refine iCndT rfl ?_
    have:(!okN N[i]) = true:=by
     unfold okN
     rw [decide_eq_false c1,Bool.false_and];rfl
    rw [this] at hJ
    exact hJ _ x5
  ·intro _
   cases hb:okN N[i] with
   | false=>
    refine iCndT (by first | rfl | exact congrArg not hb) ?_
    refine ⟨?_,x2.trans x4⟩
    have:treeN N = false:=by
     unfold treeN
     have:N.all okN = false:=by
      rw [List.all_eq_false]
      exact ⟨N[i],List.getElem_mem hi1,by rw [hb];decide⟩
     rw [this,Bool.false_and]
    rw [this]
   | true=>
    refine iCndF (by first | rfl | exact congrArg not hb) ?_
    refine iAdd (by omega) ?_
    refine hKn (i + 1) _ ⟨by omega,x2.trans x4,?_⟩ (by omega)
    rw [List.take_succ_eq_append_getElem hi1,List.all_append,hall]
    simp [hb]
 ·obtain rfl:i = N.length:=by omega
  rw [List.take_length] at hall
  refine iJnB (treeN N) w2 (fun J hJ=>?_) (fun w8 x8=>fun _=>⟨rfl,x2.trans x8⟩)
  refine iLenK hs2 ?_
  refine iLt (iCndP (fun h4=>?_) (fun h4=>?_))
  ·have hp:0 < N.length:=by omega
   refine iRet (OL (i:=0) hs2 hall (Nat.zero_le _) hn) fun w9 x9=>?_
   refine iLenK (SlK.ext hs2 x9) ?_
   refine iEq ?_
   rw [TX hall hp]
   exact hJ _ x9
  ·have h0:N = []:=List.length_eq_zero_iff.1 (by omega)
   subst h0
   exact hJ _ (Ext.refl _)
theorem U1 {v:Value} {N:List RN} {w:World} (hs:RawS w v N) (hn:N.length ≤ 1099511627776):Ret Tryz.prog JL #[v] w (.bool (isN N)):=by
 apply WQ;unfold JZ
 refine iJnB (isN N) w (fun J hJ=>?_) (fun w2 x2=>fun _=>⟨rfl,x2⟩)
 refine iLenK hs ?_
 unfold isN at hJ
 refine iLe (iCndP (fun h=>?_) (fun h=>?_))
 ·rw [decide_eq_true (by omega),Bool.true_and] at hJ
  refine iRet (QE hs hn) fun w3 x3=>hJ _ x3
 ·rw [decide_eq_false (by omega),Bool.false_and] at hJ
  exact hJ _ (Ext.refl _)
end Go.Proofs.YteifjhpddhppcaaGreatDoor
