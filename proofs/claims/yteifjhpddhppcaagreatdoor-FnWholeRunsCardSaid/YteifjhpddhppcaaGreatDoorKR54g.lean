/- The proof of FnWholeRunsCard, part 7 of 8. Conditions: none. -/
import Derived.Test.YteifjhpddhppcaaGreatDoorKR54f
namespace Go.Vc
theorem I1 {p:Itm → Bool} {L:List Itm} (h:∀ j,j < L.length → p (gt L j) = false):L.filter (fun x=>!p x) = L:=by
 rw [List.filter_eq_self]
 intro x hx
 obtain ⟨j,hj,rfl⟩:=List.getElem_of_mem hx
 rw [← gt_eq hj,h j hj];rfl
def mrgI (A B:List Itm):List Itm:=B.filter fun x=>!hasI A x.nm
end Go.Vc
namespace Go.Proofs.YteifjhpddhppcaaGreatDoor
open Go.Vc
theorem LN {v:Value} {L:List Itm} {n:Str} {w:World} (hs:SlIt w v L) (hI:IncI L):Ret Tryz.prog pO #[v,sv n] w (.tuple #[.int .i64 (posI L n:Int),.bool (hasI L n)]):=
 (xD hs).mono fun r w' ⟨x,i,y,hr,hF⟩=>by
  rw [hr,hF.2.2 hI,sT hF.1.1 (hF.1.2 hI).1 (hF.1.2 hI).2]
  exact ⟨rfl,x⟩
theorem O4 {v:Value} {L:List Itm} {n:Str} {w:World} (hs:SlIt w v L) (hL:L.length ≤ 1099511627776) (hI:IncI L):Ret Tryz.prog uC #[v,sv n] w (.tuple #[.int .i64 (posI L n:Int),.bool (hasI L n)]):=
 (rS hs hL).mono fun r w' ⟨x,i,y,hr,hF⟩=>by
  rw [hr,hF.2.2 hI,sT hF.1.1 (hF.1.2 hI).1 (hF.1.2 hI).2]
  exact ⟨rfl,x⟩
theorem FV {v fv:Value} {L:List Itm} {p:Itm → Bool} {w0 w:World} (h0:Ext w0 w) (hs:SlIt w v L) (hf:∀ x ∈ L,∀ w',Ext w0 w' → callV Tryz.prog fv [x.val] w' fun u w''=>u = .bool (p x) ∧ Ext w' w''):
  Cal Tryz.prog dT #[v,fv] w fun r w'=>Ext w w' ∧ ((r = .int .i64 (-1) ∧ ∀ j,j < L.length → p (gt L j) = false) ∨ ∃ i:Nat,r = .int .i64 (i:Int) ∧ i < L.length ∧ p (gt L i) = true ∧ ∀ j,j < i → p (gt L j) = false):=by
 apply jJ;unfold dS
 have hln:=hs.len
 refine iLenK hs ?_
 refine iLp (fun i:Nat=>[.int .i64 (i:Int)]) (fun i w'=>i ≤ L.length ∧ Ext w w' ∧ ∀ j,j < i → p (gt L j) = false) (fun i=>L.length - i) 0 rfl ⟨Nat.zero_le _,Ext.refl _,fun j hj=>absurd hj (Nat.not_lt_zero j)⟩ ?_
 rintro i w2 Kn ⟨hi,x2,hno⟩ hKn
 intro _
 simp only [gx]
 refine iLt (iCndP (fun hlt=>?_) (fun hlt=>?_))
 ·have hil:i < L.length:=by omega
  refine iItm (hs.ext x2) rfl hil ?_
  refine (hf (gt L i) (by rw [gt_eq hil];exact List.getElem_mem _) w2 (h0.trans x2)).mono ?_
  rintro u w3 ⟨rfl,x3⟩
  refine iCnd (fun h=>?_) (fun h=>?_)
  ·exact ⟨x2.trans x3,.inr ⟨i,rfl,hil,h,hno⟩⟩
  ·refine iAdd (by omega) ?_
   refine hKn (i + 1) _ ⟨hil,x2.trans x3,fun j hj=>?_⟩ (by omega)
   by_cases e:j = i
   ·rw [e];exact h
   ·exact hno j (by omega)
 ·exact ⟨x2,.inl ⟨by first | trivial | rfl,fun j hj=>hno j (by omega)⟩⟩
theorem DL {v fv:Value} {L:List Itm} {p:Itm → Bool} {w0 w:World} (h0:Ext w0 w) (hs:ItW w0.heap.size w v L) (hL:L.length ≤ 1048576) (hf:∀ x ∈ L,∀ w',Ext w0 w' → callV Tryz.prog fv [x.val] w' fun u w''=>u = .bool (p x) ∧ Ext w' w''):
  Cal Tryz.prog dK #[v,fv] w fun r w'=>Ext w0 w' ∧ ItW w0.heap.size w' r (L.filter fun x=>!p x):=by
 apply iY;unfold dH
 refine iCall ((FV h0 hs.sl hf).mono ?_)
 rintro r w1 ⟨x1,⟨rfl,hno⟩ | ⟨i0,rfl,hi0,hp0,hno⟩⟩
 ·refine iEq (iCndT (by decide) ⟨h0.trans x1,?_⟩)
  rw [I1 hno];exact hs.ext x1
 refine iEq (iCndF (by simp) ?_)
 refine iAdd (by omega) ?_
 have hs1:ItW w0.heap.size w1 v L:=hs.ext x1
 have X1:=h0.trans x1
 obtain ⟨g,cap,cur0,rfl,hg,hcap,hR0,hx0⟩:=hs1.rw (by omega)
 have hcm:=hR0.2.2
 have hfl:∀ j,L.take (j + 1) = L.take j ++ (if j < L.length then [gt L j] else []):=fun j=>by
  split
  ·rename_i h;rw [List.take_succ_eq_append_getElem h,gt_eq h]
  ·rename_i h;rw [List.append_nil,List.take_of_length_le (by omega),List.take_of_length_le (by omega)]
 refine iLp (fun s:Nat × Nat=>[.int .i64 (s.1:Int),.int .i64 (s.2:Int)]) (fun s w'=>s.1 < s.2 ∧ s.2 ≤ L.length ∧ Ext w0 w' ∧ ∃ M cur,Rw bF w' g cap cur ∧ cur.take (L.length * 3) = aJ M ∧ M.length = L.length ∧ M.take s.1 = (L.take s.2).filter (fun x=>!p x) ∧ ∀ k,s.2 ≤ k → gt M k = gt L k) (fun s=>L.length - s.2) (i0,i0 + 1) rfl
  ⟨by show i0 < i0 + 1;omega,by show i0 + 1 ≤ _;omega,X1,L,cur0,hR0,hx0,rfl,?_,fun _ _=>rfl⟩ ?_
 ·show L.take i0 = (L.take (i0 + 1)).filter fun x=>!p x
  rw [hfl,if_pos hi0,List.filter_append,List.filter_cons,hp0]
  have:(L.take i0).filter (fun x=>!p x) = L.take i0:=I1 fun j hj=>by
   rw [List.length_take] at hj
   rw [gt_eq (by rw [List.length_take];omega),List.getElem_take,← gt_eq (by omega)];exact hno j (by omega)
  rw [this];simp
 rintro ⟨i,j⟩ w3 Kn ⟨hij,hj,X3,M,cur,hR,hx,hM,hMt,hMe⟩ hKn
 have hij:i < j:=hij
 have hj:j ≤ L.length:=hj
 have hMt:M.take i = (L.take j).filter (fun x=>!p x):=hMt
 have hMe:∀ k,j ≤ k → gt M k = gt L k:=hMe
 have hcl:=hR.2.1
 intro _
 simp only [gx]
 refine iLenL (iLt (iCndP (fun h3=>?_) (fun h3=>?_)))
 ·have hjl:j < L.length:=by omega
  have hsl:SlIt w3 (.slice (some ⟨g,0,none⟩) L.length cap) M:=by
   have:=(hR.own (lo:=0) (n:=L.length) (Nat.zero_le _) hcap hx).sl
   show SlK 3 w3 _ M.length (aJ M)
   rw [hM];exact this
  refine iItm hsl rfl (by omega) ?_
  rw [hMe j (Nat.le_refl _)]
  refine iNew3 fun q w4 hq x4 hB4=>?_
  refine iSt3 hB4 rfl rfl rfl rfl fun w5 hB5 hc5=>?_
  have x35:Ext w3 w5:=x4.thenCh hc5 fun c hc=>by omega
  have X5:=X3.trans x35
  refine iLd3 hB5 ?_
  refine (hf (gt L j) (by rw [gt_eq hjl];exact List.getElem_mem _) w5 X5).mono ?_
  rintro u w6 ⟨rfl,x6⟩
  have X6:=X5.trans x6
  have hR6:=(hR.ext x35).ext x6
  have hfj:(L.take (j + 1)).filter (fun x=>!p x) = (L.take j).filter (fun x=>!p x) ++ if p (gt L j) then [] else [gt L j]:=by
   rw [hfl,if_pos hjl,List.filter_append,List.filter_cons]
   cases p (gt L j) <;> simp
  refine iNot (iCnd (fun h4=>?_) (fun h4=>?_))
  ·rw [show p (gt L j) = false by simpa using h4] at hfj
   refine iLd3 (hB5.ext x6) ?_
   refine iStR (n:=L.length) hR6 (by omega) hcap rfl rfl rfl fun w7 hR7 hc7=>?_
   refine iAdd (by omega) (iAdd (by omega) ?_)
   refine hKn (i + 1,j + 1) _ ⟨by show i + 1 < j + 1;omega,hjl,X6.thenCh hc7 fun c hc=>by omega,M.set i (gt L j),_,hR7,?_,by rw [List.length_set];exact hM,?_,fun k hk=>?_⟩ (by show L.length - (j + 1) < L.length - j;omega)
   ·rw [PS _ (by omega),← hx,← ZW (by show i * 3 + 3 ≤ _;omega) (by omega)]
    rfl
   ·show (M.set i (gt L j)).take (i + 1) = (L.take (j + 1)).filter fun x=>!p x
    rw [hfj,List.take_succ_eq_append_getElem (by rw [List.length_set];omega),List.getElem_set_self,List.take_set_of_le (Nat.le_refl _),hMt]
    rfl
   ·have hk:j + 1 ≤ k:=hk
    rw [pH _ (by omega),if_neg (by omega)]
    exact hMe k (by omega)
  ·rw [show p (gt L j) = true by simpa using h4] at hfj
   refine iAdd (by omega) ?_
   refine hKn (i,j + 1) _ ⟨by show i < j + 1;omega,hjl,X6,M,cur,hR6,hx,hM,?_,fun k hk=>hMe k (by have hk:j + 1 ≤ k:=hk;omega)⟩ (by show L.length - (j + 1) < L.length - j;omega)
   show M.take i = _
   rw [hfj,hMt];simp
 ·have hend:j = L.length:=by omega
  subst hend
  rw [List.take_length] at hMt
  refine iT3 (l:=i) (by omega) hcap fun o' ho'=>?_
  have ho':=ho' (by omega)
  refine iClr3 (l:=i) bJ cK rfl (by simp [Value.cells,aC]) hR (by omega) (by omega) (by omega) fun ys w8 hys hR8 hc8=>?_
  refine iH3 (k:=i) (by omega) ⟨X3.thenCh hc8 fun c hc=>by omega,?_⟩
  have hml:(L.filter fun x=>!p x).length = i:=by rw [← hMt,List.length_take];omega
  show OwK 3 _ _ w8 _ (L.filter fun x=>!p x).length _
  rw [hml,← hMt,← mZ,← hx,List.take_take,Nat.min_eq_left (by omega)]
  refine hR8.own hg (by omega) ?_
  rw [NY (by omega) (by omega)]
end Go.Proofs.YteifjhpddhppcaaGreatDoor

namespace Go.Vc
theorem JI.filter {L:List Itm} (h:JI L) (p:Itm → Bool):JI (L.filter p):=
 ⟨Nat.le_trans (List.length_filter_le _ _) h.len,h.inc.sublist (List.filter_sublist),fun x hx=>h.ok x (List.mem_filter.1 hx).1⟩
theorem VW {t:Str} (ht:t.length ≤ 4194304) (hen:(openJ t).ents.length ≤ 60) (htl:(openJ t).text.length ≤ t.length):Fit2 (openJ t):=⟨Q4 t,hen,by omega⟩
theorem aBB {A B:List Itm} {k:Nat} (hk:k < B.length):mrgI A (B.take (k + 1)) = mrgI A (B.take k) ++ if hasI A (gt B k).nm then [] else [gt B k]:=by
 unfold mrgI
 rw [List.take_succ_eq_append_getElem hk,List.filter_append,← gt_eq hk]
 congr 1
 cases h:hasI A (gt B k).nm <;> simp [h]
end Go.Vc
namespace Go.Proofs.YteifjhpddhppcaaGreatDoor
open Go.Vc
theorem iApI {lo q:Nat} {w:World} {u:Value} {E:List Itm} {e:Itm} {K:Value → World → Prop} (hlo:lo ≤ w.heap.size) (ho:ItW lo w u E) (hB:Blk bF w q e.cs) (hE:E.length ≤ 1048576) (h:∀ u' w',ItW lo w' u' (E ++ [e]) → Ch (fun c=>u.ownBlock = some c) w w' → K u' w'):
  xOp Tryz.prog (Builtin.append_ #[bQ,bQ] bQ #[u,.slice (some ⟨q,0,none⟩) 1 1]) w K:=by
 refine iAppK bJ cK rfl (by omega) ho (ItmS hB) (FZ e) (by omega) (by omega) hlo fun v' w' h' hg _=>h v' w' ?_ (d9 hg fun c hc=>hc)
 show OwK 3 lo _ w' v' (E ++ [e]).length (aJ (E ++ [e]))
 rw [List.length_append,pN]
 exact h'
theorem BW {t s:Str} (ht:t.length ≤ 4194304) (hs:s.length ≤ 4194304) {w:World} (hT:TabOk w):Ret Tryz.prog n9 #[sv t,sv s] w (.tuple #[sv (replJ (openJ t) (cpE (mrgI (openJ t).items (openJ s).items))).1,.int .i64 (replJ (openJ t) (cpE (mrgI (openJ t).items (openJ s).items))).2]):=by
 apply DA;unfold oB
 refine iCall ((fR ht hT).mono ?_)
 rintro r w1 ⟨x1,b,vi,ve,rfl,hj,hen,htl⟩
 refine iNew fun q w2 hq x2 hB2=>?_
 refine iStU hB2 (by simp [Value.cells]) rfl fun w3 hB3 hu3=>?_
 have hQ3:Blk 53 w3 q [.pointer (some ⟨b,0,none⟩)]:=by simpa [Value.cells] using hB3
 have x13:Ext w1 w3:=x2.thenCh (hu3.ch (S:=fun c=>c = q) rfl) fun c hc=>by omega
 have X3:=x1.trans x13
 have hj3:=hj.ext x13
 refine iCall ((fR hs (hT.ext X3)).mono ?_)
 rintro r w4 ⟨x4,b',vi',ve',rfl,hj',hen',htl'⟩
 refine iNil (iFa (iLdB hj'.blk rfl ?_))
 have hAl:=hj.ji.len
 have hBl:=hj'.ji.len
 refine iCall ((DL (p:=fun x=>hasI (openJ t).items x.nm) x4 hj'.it (by omega) fun x hx w' hw'=>iClo rfl ?_).mono ?_)
 ·show Cal Tryz.prog l7 #[x.val,.pointer (some ⟨q,0,none⟩)] w' _
  apply y7;unfold lY
  refine iNew3 fun q1 w5 hq1 x5 hB5=>?_
  have x35:=hw'.trans x5
  have hjx:=hj3.ext x35
  refine iLdB (hQ3.ext x35) rfl ?_
  refine iNil (iFa (iLdB hjx.blk rfl (iFa (iLdB hB5 rfl ?_))))
  refine iRetQ (fun w'' hw''=>O4 (hjx.it.ext hw'').sl (by omega) hj.ji.incI) ?_
  refine iE20 (iE21 ?_)
  intro w6 x6
  exact ⟨by first | trivial | rfl,x5.trans x6⟩
 ·rintro v16 w5 ⟨x35,h5⟩
  have hmI:JI (mrgI (openJ t).items (openJ s).items):=hj'.ji.filter _
  have h5:ItW w3.heap.size w5 v16 (mrgI (openJ t).items (openJ s).items):=h5
  generalize mrgI (openJ t).items (openJ s).items = M at hmI h5 ⊢
  refine iLdB (hQ3.ext x35) rfl ?_
  intro w6 x6
  refine iCall ((BS (h5.ext x6).sl hmI.len).mono ?_)
  rintro v19 w7 ⟨x7,h7⟩
  refine ⟨x7,?_⟩
  intro w8 x8
  have x38:=((x35.trans x6).trans x7).trans x8
  have hb1:=cP hj3.blk
  have s36:=(x35.trans x6).size
  refine iCall ((B2 (X3.trans x38) (hj3.ext x38) (VW ht hen htl) (h7.ext x8) (fun D hD=>?_) (fun e he=>by have:=aB7 hmI e he;omega) hT).mono ?_)
  ·have h1:=(h7.ext x8).blk D hD
   refine ⟨h1.2,by omega,fun h=>?_,fun h=>?_⟩
   ·have:=(hj3.it.blk D h).2;omega
   ·have:=(hj3.en.blk D h).2;omega
  ·rintro r w9 ⟨X9,rfl⟩
   refine iE20 (iE21 ?_)
   intro w10 x10
   exact ⟨rfl,X9.trans x10⟩
theorem BZ {t s:Str} (ht:t.length ≤ 4194304) (hs:s.length ≤ 4194304) (w:World):Ret Tryz.prog nY #[sv t,sv s] w (.tuple #[sv (replJ (openJ t) (cpE (mrgI (openJ t).items (openJ s).items))).1,.int .i64 (replJ (openJ t) (cpE (mrgI (openJ t).items (openJ s).items))).2]):=by
 apply D7;unfold n8
 refine iCall ((o5 ht w).mono ?_)
 rintro r w1 ⟨x1,vs,ve,rfl,hL,hen,htk⟩
 refine iCall ((o5 hs w1).mono ?_)
 rintro r w2 ⟨x2,vs',ve',rfl,hL',hen',htk'⟩
 refine iCall ((o6 hL').mono ?_)
 rintro v18 w3 ⟨x3,hi⟩
 have x13:=x2.trans x3
 have hL3:=hL.ext x13
 refine iNew3 fun q6 w4 hq6 x4 hB4=>?_
 refine iSt3 hB4 rfl hL.st.cell hL.en.cell rfl fun w5 hB5 hc5=>?_
 have s13:=x13.size
 have x35:Ext w3 w5:=x4.thenCh hc5 fun c hc=>by omega
 have X5:=(x1.trans x13).trans x35
 have hL5:=hL3.ext x35
 have hi5:=hi.ext x35
 have hAl:=hL.ji.len
 have hBl:=hL'.ji.len
 have htl:(openJ t).text.length ≤ t.length:=by
  have:=congrArg List.length htk
  rw [List.length_take] at this;omega
 have hmI:JI (mrgI (openJ t).items (openJ s).items):=hL'.ji.filter _
 have hfit:=VW ht hen htl
 refine iBs03 fun v19 w6 x6 ho6=>?_
 refine iLp (fun z:Value × Nat=>[z.1,.int .i64 (z.2:Int)]) (fun z w'=>z.2 ≤ (openJ s).items.length ∧ Ext w5 w' ∧ ItW w5.heap.size w' z.1 (mrgI (openJ t).items ((openJ s).items.take z.2))) (fun z=>(openJ s).items.length - z.2) (v19,0) rfl ⟨Nat.zero_le _,x6,ho6⟩ ?_
 rintro ⟨u,k⟩ w8 Kn ⟨hk,x8,ho⟩ hKn
 have hk:k ≤ (openJ s).items.length:=hk
 have ho:ItW w5.heap.size w8 u (mrgI (openJ t).items ((openJ s).items.take k)):=ho
 have hol:(mrgI (openJ t).items ((openJ s).items.take k)).length ≤ 12:=by
  have:(mrgI (openJ t).items ((openJ s).items.take k)).length ≤ ((openJ s).items.take k).length:=List.length_filter_le _ _
  rw [List.length_take] at this
  omega
 intro _
 simp only [gx]
 have hi8:=(hi5.ext x8).sl
 have hB8:=hB5.ext x8
 refine iLenK hi8 (iLt (iCndP (fun hlt=>?_) (fun hlt=>?_)))
 ·have hkl:k < (openJ s).items.length:=by omega
  have hsn:=aBB (A:=(openJ t).items) hkl
  refine iLd3 hB8 (iNm hi8 rfl hkl ?_)
  intro w9 x9
  refine iCall ((o6 (hL5.ext (x8.trans x9))).mono ?_)
  rintro v28 w10 ⟨x10,hA⟩
  refine ⟨x10,?_⟩
  refine iRetQ (fun w' hw'=>LN (hA.ext hw').sl hL.ji.incI) ?_
  refine iE20 (iE21 ?_)
  intro w11 x11
  have x811:=(x9.trans x10).trans x11
  have X11:=x8.trans x811
  refine iNot (iCnd (fun h=>?_) (fun h=>?_))
  ·rw [Bool.not_eq_true'] at h
   rw [h] at hsn
   refine iItm (hi5.ext X11).sl rfl hkl ?_
   refine iBs31 fun q12 w12 hq12 x12 hB12=>?_
   have X12:=X11.trans x12
   have ho12:=ho.ext (x811.trans x12)
   refine iApI (e:=gt (openJ s).items k) X12.size ho12 hB12 (by omega) fun u' w13 ho13 hc13=>?_
   refine iAdd (by omega) ?_
   refine hKn (u',k + 1) _ ⟨hkl,X12.thenCh hc13 fun c hc=>(ho12.blk c hc).1,?_⟩ (by show (openJ s).items.length - (k + 1) < (openJ s).items.length - k;omega)
   show ItW _ w13 u' (mrgI (openJ t).items ((openJ s).items.take (k + 1)))
   rw [hsn]
   exact ho13
  ·rw [Bool.not_eq_false'] at h
   rw [h,if_pos rfl,List.append_nil] at hsn
   refine iAdd (by omega) ?_
   refine hKn (u,k + 1) _ ⟨hkl,X11,?_⟩ (by show (openJ s).items.length - (k + 1) < (openJ s).items.length - k;omega)
   show ItW _ w11 u (mrgI (openJ t).items ((openJ s).items.take (k + 1)))
   rw [hsn]
   exact ho.ext x811
 ·have e:k = (openJ s).items.length:=by omega
  subst e
  rw [List.take_length] at ho hol
  refine iFa (iLdB hB8 rfl ?_)
  refine iTxTo htl ?_
  rw [htk]
  intro w14 x14
  refine iCall ((JD (ho.ext x14).sl (by omega)).mono ?_)
  rintro v52 w15 ⟨x15,h15⟩
  refine ⟨x15,?_⟩
  refine iRetQ (fun w' hw'=>IK (j0:=openJ t) hfit (h15.ext hw').sl (fun e he=>by have:=aB7 hmI e he;omega)) ?_
  refine iE20 (iE21 ?_)
  intro w16 x16
  exact ⟨rfl,(((X5.trans x8).trans x14).trans x15).trans x16⟩
end Go.Proofs.YteifjhpddhppcaaGreatDoor

namespace Go.Vc
theorem XI:∀ (E:List Ent) (j:Jn),¬ (replJ j E).2 = 0 → (replJ j E).1 = []
 | [],j,h=>absurd rfl h
 | e :: E,j,h=>by
  rw [replJ] at h ⊢
  by_cases hc:addC j e = 0
  ·rw [if_pos hc] at h ⊢
   cases ha:addJ j e with
   | none=>rfl
   | some j'=>
    rw [ha] at h
    exact XI E j' h
  ·rw [if_neg hc]
theorem aAO {L L':List Itm} {e:Ent} (hI:IncI L) (hs:stepI L e = some L') (hk:e.kd = 1 ∨ e.kd = 3) {x:Itm} (hx:x ∈ L) (hn:¬ x.nm = e.nm):x ∈ L':=by
 have set_in:∀ {k:Nat} {y:Itm},(k < L.length → (gt L k).nm = e.nm) → x ∈ L.set k y:=fun {k y} hk=>by
  obtain ⟨i,hi,rfl⟩:=List.getElem_of_mem hx
  have hik:¬ k = i:=fun e'=>by
   subst e'
   exact hn (by rw [← gt_eq hi];exact hk hi)
  refine List.mem_iff_getElem.2 ⟨i,by rw [List.length_set];exact hi,?_⟩
  rw [List.getElem_set,if_neg hik]
 unfold stepI at hs
 split at hs
 ·split at hs
  ·rename_i hh
   cases hs
   exact set_in fun _=>(KX hI hh).2
  ·split at hs
   ·cases hs
   ·cases hs
    have:x ∈ L.take (posI L e.nm) ++ L.drop (posI L e.nm):=by rw [List.take_append_drop];exact hx
    rcases List.mem_append.1 this with h | h
    ·exact List.mem_append_left _ h
    ·exact List.mem_append_right _ (List.mem_cons_of_mem _ h)
 ·rename_i h1
  split at hs
  ·cases hs
  ·rename_i hh
   have hh:hasI L e.nm = true:=by simpa using hh
   rw [if_neg (show ¬ e.kd = 2 by omega)] at hs
   split at hs
   ·cases hs
    exact set_in fun _=>(KX hI hh).2
   ·cases hs
theorem aCP {L L':List Itm} {e:Ent} (hs:stepI L e = some L') (hk:e.kd = 1 ∨ e.kd = 3):L.length ≤ L'.length ∧ L'.length ≤ L.length + (if e.kd = 1 then 1 else 0):=by
 unfold stepI at hs
 split at hs
 ·rename_i h1
  split at hs
  ·cases hs;rw [List.length_set,if_pos h1];omega
  ·split at hs
   ·cases hs
   ·cases hs
    have:=WO L e.nm
    rw [List.length_append,List.length_cons,List.length_take,List.length_drop,if_pos h1];omega
 ·rename_i h1
  split at hs
  ·cases hs
  ·rw [if_neg (show ¬ e.kd = 2 by omega)] at hs
   split at hs
   ·cases hs;rw [List.length_set,if_neg h1];omega
   ·cases hs
def ones (E:List Ent):Nat:=(E.filter fun e=>decide (e.kd = 1)).length
theorem RI {A:List Itm}:∀ (E:List Ent) (j:Jn),Fit j → JI j.items → (∀ e ∈ E,(e.kd = 1 ∨ e.kd = 3) ∧ hasI A e.nm = false) → (∀ x ∈ A,x ∈ j.items) → (replJ j E).2 = 0 →
  ∃ j',Fit j' ∧ (replJ j E).1 = j'.text ∧ (∃ u,j'.text = j.text ++ u) ∧ (∀ x ∈ A,x ∈ j'.items) ∧ j.items.length ≤ j'.items.length ∧ j'.items.length ≤ j.items.length + ones E
 | [],j,hf,_,_,hA,_=>⟨j,hf,rfl,⟨[],by rw [List.append_nil]⟩,hA,Nat.le_refl _,Nat.le_add_right _ _⟩
 | e :: E,j,hf,hJ,hE,hA,h=>by
  rw [replJ] at h ⊢
  by_cases hc:addC j e = 0
  ·rw [if_pos hc] at h ⊢
   obtain ⟨he,h60,h6,L,hst⟩:=tM hc
   obtain ⟨hk,hno⟩:=hE e List.mem_cons_self
   have hen:=hf.en
   obtain ⟨-,ha,hf'⟩:=Y0 hf he hst (by omega) h6
   rw [ha] at h ⊢
   obtain ⟨l1,l2⟩:=aCP hst hk
   obtain ⟨j',g1,g2,⟨u,g3⟩,g4,g5,g6⟩:=RI E _ hf' (wQ hJ he hst) (fun e he=>hE e (List.mem_cons_of_mem _ he)) (fun x hx=>aAO hJ.incI hst hk (hA x hx) fun e'=>by
    have:hasI A e.nm = true:=List.any_eq_true.2 ⟨x,hx,decide_eq_true e'⟩
    rw [hno] at this;cases this) h
   have g5:L.length ≤ j'.items.length:=g5
   have g6:j'.items.length ≤ L.length + ones E:=g6
   have g3:j'.text = (j.text ++ lineC j.chk e) ++ u:=g3
   refine ⟨j',g1,g2,⟨lineC j.chk e ++ u,by rw [g3,List.append_assoc]⟩,g4,by omega,?_⟩
   have:ones (e :: E) = (if e.kd = 1 then 1 else 0) + ones E:=by
    unfold ones
    by_cases h1:e.kd = 1
    ·rw [List.filter_cons,if_pos (decide_eq_true h1),if_pos h1,List.length_cons];omega
    ·rw [List.filter_cons,if_neg (by rw [decide_eq_false h1];simp),if_neg h1];omega
   omega
  ·rw [if_neg hc] at h
   exact absurd h hc
theorem W4:∀ M:List Itm,ones (cpE M) = M.length
 | []=>rfl
 | x :: M=>by
  have ih:=W4 M
  unfold ones at *
  rw [show cpE (x :: M) = cp1 x ++ cpE M by simp [cpE],List.filter_append,List.length_append,ih]
  unfold cp1
  split <;> simp <;> omega
theorem aDY {M:List Itm} {e:Ent} (h:e ∈ cpE M):(e.kd = 1 ∨ e.kd = 3) ∧ ∃ x ∈ M,e.nm = x.nm:=by
 unfold cpE at h
 obtain ⟨x,hx,he⟩:=List.mem_flatMap.1 h
 unfold cp1 at he
 rcases List.mem_cons.1 he with rfl | he
 ·exact ⟨.inl rfl,x,hx,rfl⟩
 ·split at he
  ·rw [List.mem_singleton.1 he];exact ⟨.inr rfl,x,hx,rfl⟩
  ·cases he
theorem aCT {t s:Str} (ht:(openJ t).text.length ≤ 6000) (h:(replJ (openJ t) (cpE (mrgI (openJ t).items (openJ s).items))).2 = 0):
  ∃ j',Fit j' ∧ openJ (replJ (openJ t) (cpE (mrgI (openJ t).items (openJ s).items))).1 = j' ∧ (replJ (openJ t) (cpE (mrgI (openJ t).items (openJ s).items))).1 = j'.text ∧ (∃ u,j'.text = (openJ t).text ++ u) ∧ (∀ x ∈ (openJ t).items,x ∈ j'.items) ∧ (openJ t).items.length ≤ j'.items.length ∧ j'.items.length ≤ (openJ t).items.length + (openJ s).items.length:=by
 have hR:=Q4 t
 obtain ⟨j',g1,g2,g3,g4,g5,g6⟩:=RI (A:=(openJ t).items) (cpE (mrgI (openJ t).items (openJ s).items)) (openJ t) ⟨hR,aBI t,ht⟩ (OB hR) (fun e he=>by
  obtain ⟨h1,x,hx,e1⟩:=aDY he
  have hx:=(List.mem_filter.1 hx).2
  exact ⟨h1,by rw [e1];simpa using hx⟩) (fun x hx=>hx) h
 rw [W4] at g6
 have:(mrgI (openJ t).items (openJ s).items).length ≤ (openJ s).items.length:=List.length_filter_le _ _
 refine ⟨j',g1,?_,g2,g3,g4,g5,by omega⟩
 rw [g2];exact g1.reach.open g1.en
theorem aAF {j:Jn} (hf:Fit j) {x:Itm} (hx:x ∈ j.items):(fE x.fm = false → addC j ⟨3,x.nm,[]⟩ = 5) ∧ (fE x.fm = true → addC j ⟨3,x.nm,[]⟩ = 0 ∨ addC j ⟨3,x.nm,[]⟩ = 3) ∧ (addC j ⟨3,x.nm,[]⟩ = 0 → (openJ (appT j ⟨3,x.nm,[]⟩)).ents.length = j.ents.length + 1 ∧ (appT j ⟨3,x.nm,[]⟩).length ≤ 6000):=by
 have hJ:=OB hf.reach
 have hh:hasI j.items x.nm = true:=List.any_eq_true.2 ⟨x,hx,decide_eq_true rfl⟩
 obtain ⟨i,hi,rfl⟩:=List.getElem_of_mem hx
 rw [← gt_eq hi] at hh ⊢
 have hp:posI j.items (gt j.items i).nm = i:=sT (by omega) (fun k hk=>hJ.incI k i hk hi) (fun _=>cV _)
 have hok:=hJ.ok (gt j.items i) (by rw [gt_eq hi];exact List.getElem_mem _)
 have he:entB ⟨3,(gt j.items i).nm,[]⟩ = true:=aAN hok.1
 refine ⟨fun hc=>?_,fun hc=>?_,fun hc=>?_⟩
 ·have hst:stepI j.items ⟨3,(gt j.items i).nm,[]⟩ = none:=by
   unfold stepI
   simp [hh,hp,hc]
  unfold addC
  rw [if_neg (by rw [he];simp),hst]
 ·have hst:=YD (M:=j.items) hh hp hc
  rw [xE j _ he hst]
  split
  ·exact .inr rfl
  ·exact .inl rfl
 ·obtain ⟨_,h60,h6,L,hst⟩:=tM hc
  have hen:=hf.en
  obtain ⟨-,-,hf'⟩:=Y0 hf he hst (by omega) h6
  have ha:appT j ⟨3,(gt j.items i).nm,[]⟩ = j.text ++ lineC j.chk ⟨3,(gt j.items i).nm,[]⟩:=by unfold appT;rw [if_pos hc]
  have ho:=hf'.reach.open hf'.en
  rw [ha]
  refine ⟨?_,h6⟩
  show (openJ _).ents.length = _
  rw [show openJ (j.text ++ lineC j.chk ⟨3,(gt j.items i).nm,[]⟩) = _ from ho]
  show (j.ents ++ [_]).length = _
  rw [List.length_append];rfl
end Go.Vc

namespace Go.Vc
end Go.Vc
namespace Go.Proofs.YteifjhpddhppcaaGreatDoor
open Go.Vc
theorem YG {vc:Value} {w:World} {bs:List Nat} (hc:SlB w vc bs):Ret Tryz.prog RC #[vc] w (.bool (decide ((4096:Int) < (bs.length:Nat)))):=by
 apply aAL;unfold Q6
 refine iLenB hc ?_
 refine iLt ?_
 exact ⟨rfl,Ext.refl _⟩
end Go.Proofs.YteifjhpddhppcaaGreatDoor

namespace Go.Vc
theorem aEV {P:Program} {w:World} {t t0 t1 t2:TypeId} {x:Itm} {xo yo:Operand} {K:Value → Prop} (hu:P.underlying t = some (.struct (P.fieldsOf t))) (hp:P.stoodInHeld t = false) (hg:P.eqGuardType P.depth t = false)
  (hf : (P.fieldsOf t).toList.map (fun f => (f.name == "_", f.offset, f.type)) = [(false, 0, t0), (false, 1, t1), (false, 2, t2)]) (h0 : P.underlying t0 = some .string) (h1 : P.underlying t1 = some .string) (h2 : P.underlying t2 = some (.int .i64))
  (h:K (.bool false)):xR P w (do eqGuard .neq t xo yo x.val x.val;binOp .neq t x.val x.val) K:=by
 refine ⟨_,fun w' _=>?_,h⟩
 obtain ⟨f0, f1, f2, hl, n0, n1, n2, o0, o1, o2, rfl, rfl, rfl⟩ : ∃ f0 f1 f2, (P.fieldsOf t).toList = [f0, f1, f2] ∧ ¬ f0.name = "_" ∧ ¬ f1.name = "_" ∧ ¬ f2.name = "_" ∧ f0.offset = 0 ∧ f1.offset = 1 ∧ f2.offset = 2 ∧ f0.type = t0 ∧ f1.type = t1 ∧ f2.type = t2 := by
  generalize (P.fieldsOf t).toList = l at hf
  rcases l with _ | ⟨f0,_ | ⟨f1,_ | ⟨f2,_ | ⟨f3,l⟩⟩⟩⟩ <;> simp at hf
  exact ⟨f0,f1,f2,rfl,hf.1.1,hf.2.1.1,hf.2.2.1,hf.1.2.1,hf.2.1.2.1,hf.2.2.2.1,hf.1.2.2,hf.2.1.2.2,hf.2.2.2.2⟩
 have pt:∀ (t:TypeId) (cs:Array Value) (o:Nat) (x:Value),(P.underlying t = some (.int .i64) ∨ P.underlying t = some .string) → cs[o]? = some x → (part t cs o).run P w' = .ok x w':=fun t cs o x ht hx=>by
  have hg:isAgg? P t = some false:=by rcases ht with ht | ht <;> simp [isAgg?,ht]
  simp [part,nP hg,hx]
 have eqs:∀ (d:Nat) (t:TypeId) (a:Str),P.underlying t = some .string → (Op.equalIn (d + 1) t (sv a) (sv a)).run P w' = .ok true w':=fun d t a ht=>by
  have:=run_equalIn_string w' d t ⟨a.toArray⟩ ⟨a.toArray⟩ ht
  simpa using this
 show ((do eqGuard .neq t xo yo (.agg #[sv x.nm,sv x.fm,.int .i64 x.cl]) (.agg #[sv x.nm,sv x.fm,.int .i64 x.cl]);binOp .neq t (.agg #[sv x.nm,sv x.fm,.int .i64 x.cl]) (.agg #[sv x.nm,sv x.fm,.int .i64 x.cl])):Sem Value).run P w' = .ok (.bool false) w'
 rw [Sem.run_bind,run_eqGuard_agg w' .neq t xo yo _ _ hg,Result.andThen_ok,run_neq_struct,run_equalIn_struct w' 9999 t _ _ hu hp,hl]
 simp only [Op.eqFields,ne_eq,n0,n1,n2,not_false_eq_true,if_true,o0,o1,o2,Sem.run_bind]
 rw [pt _ _ 0 (sv x.nm) (.inr h0) rfl,Result.andThen_ok,pt _ _ 0 (sv x.nm) (.inr h0) rfl,Result.andThen_ok,eqs 9998 _ x.nm h0,Result.andThen_ok]
 simp only [Bool.not_true,Bool.false_eq_true,if_false,Sem.run_bind]
 rw [pt _ _ 1 (sv x.fm) (.inr h1) rfl,Result.andThen_ok,pt _ _ 1 (sv x.fm) (.inr h1) rfl,Result.andThen_ok,eqs 9998 _ x.fm h1,Result.andThen_ok]
 simp only [Bool.not_true,Bool.false_eq_true,if_false,Sem.run_bind]
 rw [pt _ _ 2 (.int .i64 x.cl) (.inl h2) rfl,Result.andThen_ok,pt _ _ 2 (.int .i64 x.cl) (.inl h2) rfl,Result.andThen_ok,run_equalIn_int w' 9998 _ .i64 .i64 _ _ h2,Result.andThen_ok]
 simp
end Go.Vc
namespace Go.Proofs.YteifjhpddhppcaaGreatDoor
open Go.Vc
theorem aBE : (Tryz.prog.fieldsOf 32).toList.map (fun f => (f.name == "_", f.offset, f.type)) = [(false, 0, aB), (false, 1, aB), (false, 2, t_i64)] := by kernel_rfl
theorem T0:Tryz.prog.underlying aB = some .string:=by kernel_rfl
theorem aEN:Tryz.prog.underlying t_i64 = some (.int .i64):=by kernel_rfl
end Go.Proofs.YteifjhpddhppcaaGreatDoor

namespace Go.Vc
theorem sm_of {t:Str} (hg:goodT t = true) (hp:(fT t).plain = true) (hs:(fT t).size ≤ 20):SmT t:=by
 obtain ⟨⟨a,ha,rfl⟩,-⟩:=P5 hg
 rw [aF ha] at hp hs
 exact SmT.of ha hp hs
theorem vt_vF {t:Str} (hg:goodT t = true):VT [] t ↔ vF [] (fT t) = true:=by
 obtain ⟨⟨a,ha,rfl⟩,-⟩:=P5 hg
 rw [← bY,vB_vF ha,aF ha]
theorem aBX {L:List Itm} (h:IncI L) {i:Nat} (hi:i < L.length):posI L (gt L i).nm = i:=
 sT (by omega) (fun k hk=>h k i hk hi) (fun _=>cV _)
end Go.Vc
namespace Go.Proofs.YteifjhpddhppcaaGreatDoor
open Go.Vc
theorem uH {vc:Value} {w:World} {bs:List Nat} (hc:SlB w vc bs):Cal Tryz.prog j6 #[vc] w fun r w'=>Ext w w' ∧ ∃ t s:Str,r = .tuple #[sv t,sv s] ∧ t.length ≤ 4610 ∧ s.length ≤ 4610:=by
 apply wG;unfold jZ
 refine iCall ((NM hc).mono ?_)
 rintro _ w2 ⟨b,rfl,hS2⟩
 refine iCall ((AW (by decide) hc hS2).mono ?_)
 rintro _ w3 ⟨⟨t,rfl,ht⟩,hS3,hch3⟩
 refine iCall ((AW (by decide) hc hS3).mono ?_)
 rintro _ w4 ⟨⟨s,rfl,hs⟩,hS4,hch4⟩
 exact ⟨hS4.ext,t,s,rfl,ht,hs⟩
theorem HT {w:World} {vc:Value} {bs:List Nat} (hT:TabOk w) (hc:SlB w vc bs):Ret Tryz.prog sK #[vc] w (.bool true):=by
 apply IZ;unfold sL
 refine iRet (YG hc) fun w1 x1=>?_
 refine iCndP (fun _=>⟨by first | trivial | rfl,x1⟩) (fun _=>?_)
 refine iCall ((uH (hc.ext x1)).mono ?_)
 rintro _ w2 ⟨x2,t,s,rfl,ht,hs⟩
 refine iE20 (iE21 ?_)
 have X2:=x1.trans x2
 refine iRet (BW (t:=t) (s:=s) (by omega) (by omega) (hT.ext X2)) fun w3 x3=>iE20 (iE21 ?_)
 refine iRet (BZ (t:=t) (s:=s) (by omega) (by omega) w3) fun w4 x4=>iE20 (iE21 ?_)
 have X4:=(X2.trans x3).trans x4
 refine iJnB false w4 (fun J hJ=>?_) (fun w6 x6=>?_)
 ·refine iNe (iCndF (decide_eq_false fun h=>h rfl) (iNeT ?_))
  rw [decide_eq_false fun h=>h rfl]
  exact hJ _ (Ext.refl _)
 intro _
 simp only [gx]
 refine iCndF rfl ?_
 have X6:=X4.trans x6
 have htk:=TT t
 have hmrg:=aCT (t:=t) (s:=s) (by have:=htk.2;omega)
 have hbad:=XI (cpE (mrgI (openJ t).items (openJ s).items)) (openJ t)
 generalize replJ (openJ t) (cpE (mrgI (openJ t).items (openJ s).items)) = q at *
 obtain ⟨u,z⟩:=q
 have hbad:¬ z = 0 → u = []:=hbad
 refine iNe (iCndP (fun h=>?_) (fun h=>?_))
 ·have h:¬ z = 0:=h
  rw [show ((u,z):Str × Int).1 = [] from hbad h]
  exact iEqT ⟨by first | trivial | rfl,X6⟩
 have h0:z = 0:=Classical.not_not.1 h
 obtain ⟨j',hf,ho,htx,⟨ext,hpre⟩,hkeep,hl1,hl2⟩:=hmrg h0
 have ho:openJ u = j':=ho
 have htx:u = j'.text:=htx
 have hul:u.length ≤ 6000:=by rw [htx];exact hf.tx
 show callV _ _ _ _ _
 refine iCall ((fL (t:=t) (by omega) (hT.ext X6)).mono ?_)
 rintro _ w7 ⟨x7,va,rfl,hA7,-⟩
 refine iE30 (iE31 (iE32 ?_))
 have X7:=X6.trans x7
 refine iCall ((fL (t:=s) (by omega) (hT.ext X7)).mono ?_)
 rintro _ w8 ⟨x8,vb,rfl,hB8,hb12⟩
 refine iE30 (iE31 (iE32 ?_))
 have X8:=X7.trans x8
 refine iCall ((fL (t:=u) (by omega) (hT.ext X8)).mono ?_)
 rintro _ w9 ⟨x9,vi,rfl,hC9,hc12⟩
 rw [ho] at hC9 hc12
 rw [ho]
 refine iE30 (iE31 (iE32 ?_))
 have X9:=X8.trans x9
 have hA9:SlIt w9 va (openJ t).items:=(hA7.ext (x8.trans x9)).sl
 have hB9:SlIt w9 vb (openJ s).items:=(hB8.ext x9).sl
 have hC9:SlIt w9 vi j'.items:=hC9.sl
 have hJ:=OB hf.reach
 have hinc:=hJ.incI
 have hen:=hf.en
 have hpl:(openJ t).text.length ≤ j'.text.length:=by rw [hpre,List.length_append];omega
 refine iJnB false w9 (fun J hJ=>?_) (fun w11 x11=>?_)
 ·refine iLenT (iNe (iCndF (decide_eq_false fun h=>h (by rw [show ((u,z):Str × Int).1 = u from rfl,htx])) ?_))
  refine iLenT (iLt (iCndF (decide_eq_false (by have:=htk.2;omega)) ?_))
  refine iLt (iCndF (decide_eq_false (by omega)) ?_)
  refine iTxTo (by show _ ≤ u.length;rw [htx];exact hpl) (iTxTo htk.2 ?_)
  rw [htk.1,show (((u,z):Str × Int).1).take (openJ t).text.length = (openJ t).text by show u.take _ = _;rw [htx,hpre,List.take_left]]
  refine iNeT (iCndF (decide_eq_false fun h=>h rfl) ?_)
  refine iLenK hC9 (iLenK hA9 (iLt (iCndF (decide_eq_false (by omega)) ?_)))
  refine iLenK hC9 (iLenK hA9 (iLenK hB9 (iAdd (by have:=hA9.len;omega) (iLt ?_))))
  rw [decide_eq_false (by omega)]
  exact fun w17 x17=>hJ _ x17
 intro _
 simp only [gx]
 refine iCndF rfl ?_
 have X11:=X9.trans x11
 have hA11:=SlK.ext hA9 x11
 have hC11:=SlK.ext hC9 x11
 have hT11:=hT.ext X11
 have hal:=hA11.len
 show lp _ _ _
 refine iLp (fun i:Nat=>[.int .i64 (i:Int)]) (fun i w'=>i ≤ (openJ t).items.length ∧ Ext w11 w') (fun i=>(openJ t).items.length - i) 0 rfl ⟨Nat.zero_le _,Ext.refl _⟩ ?_
 rintro i w19 Kn ⟨hi,x19⟩ hKn
 have hA19:SlIt w19 va (openJ t).items:=SlK.ext hA11 x19
 intro _
 simp only [gx]
 refine iLenK hA19 (iLt (iCndP (fun h=>?_) (fun h=>?_)))
 ·have hil:i < (openJ t).items.length:=by omega
  have hmem:gt (openJ t).items i ∈ (openJ t).items:=by rw [gt_eq hil];exact List.getElem_mem _
  obtain ⟨k,hk,hke⟩:=List.getElem_of_mem (hkeep _ hmem)
  have hke:gt j'.items k = gt (openJ t).items i:=by rw [gt_eq hk];exact hke
  have hpos:=aBX hinc hk
  rw [hke] at hpos
  have hhas:hasI j'.items (gt (openJ t).items i).nm = true:=List.any_eq_true.2 ⟨_,hkeep _ hmem,decide_eq_true rfl⟩
  refine iNm hA19 rfl hil ?_
  show callV Tryz.prog _ [sv u,_] _ _
  refine iRet (OH (t:=u) (n:=(gt (openJ t).items i).nm) (by omega) (hT11.ext x19)) fun w20 x20=>iE20 (iE21 ?_)
  have e1:fndC u (gt (openJ t).items i).nm = 0:=by unfold fndC;rw [ho,if_pos hhas]
  have e2:fndI u (gt (openJ t).items i).nm = gt (openJ t).items i:=by unfold fndI;rw [ho,if_pos hhas,hpos,hke]
  rw [e1,e2]
  refine iNew3 fun q w21 hq x21 hB21=>?_
  refine iSt3 hB21 rfl rfl rfl rfl fun w22 hB22 hc22=>?_
  have x2022:Ext w20 w22:=x21.thenCh hc22 fun c hc=>by omega
  have x1122:=x19.trans (x20.trans x2022)
  refine iJnB false w22 (fun J hJ=>?_) (fun w24 x24=>?_)
  ·refine iNe (iCndF (decide_eq_false fun h=>h rfl) ?_)
   refine iLd3 hB22 ?_
   refine iItm (SlK.ext hA11 x1122) rfl hil ?_
   refine aEV (x:=gt (openJ t).items i) (by kernel_rfl) (by kernel_rfl) (by kernel_rfl) aBE T0 T0 aEN ?_
   exact fun w26 x26=>hJ _ x26
  intro _
  simp only [gx]
  refine iCndF rfl (iAdd (by omega) ?_)
  exact hKn (i + 1) _ ⟨hil,x1122.trans x24⟩ (by omega)
 refine iLp (fun i:Nat=>[.int .i64 (i:Int)]) (fun i w'=>i ≤ j'.items.length ∧ Ext w11 w') (fun i=>j'.items.length - i) 0 rfl ⟨Nat.zero_le _,x19⟩ ?_
 rintro i w28 Kn2 ⟨hi2,x28⟩ hKn2
 have hC28:SlIt w28 vi j'.items:=SlK.ext hC11 x28
 intro _
 simp only [gx]
 refine iLenK hC28 (iLt (iCndP (fun h2=>?_) (fun h2=>⟨by first | trivial | rfl,X11.trans x28⟩)))
 have hil:i < j'.items.length:=by omega
 have hmem:gt j'.items i ∈ j'.items:=by rw [gt_eq hil];exact List.getElem_mem _
 obtain ⟨-,hgood,-,hcl⟩:=hJ.ok _ hmem
 obtain ⟨cc1,cc2,cc3⟩:=aAF hf hmem
 have hfm:∀ {w':World} {K:Value → Prop},Ext w11 w' → K (sv (gt j'.items i).fm) → xIa 3 vi (.int .i64 (i:Int)) fun p=>xFa 1 p fun q=>xLd w' q K:=fun x h=>iFm (SlK.ext hC11 x) rfl hil h
 have hnm:∀ {w':World} {K:Value → Prop},Ext w11 w' → K (sv (gt j'.items i).nm) → xIa 3 vi (.int .i64 (i:Int)) fun p=>xFa 0 p fun q=>xLd w' q K:=fun x h=>iNm (SlK.ext hC11 x) rfl hil h
 have hcl1:∀ {w':World} {K:Value → Prop},Ext w11 w' → K (.int .i64 (gt j'.items i).cl) → xIa 3 vi (.int .i64 (i:Int)) fun p=>xFa 2 p fun q=>xLd w' q K:=fun x h=>iFld (f:=2) (SlK.ext hC11 x) rfl hil (by decide) (nT hil).2.2 h
 generalize gt j'.items i = x at *
 have hpc:pCode x.fm = 0:=by unfold goodT at hgood;rw [Bool.and_eq_true,decide_eq_true_eq] at hgood;exact hgood.1
 have hsz40:(fT x.fm).size ≤ 40:=(oO hpc).1
 have hfg:(fT x.fm).good:=EL x.fm
 have hcb:fE x.fm = ((fT x.fm).plain && (decide ((fT x.fm).size ≤ 20) && vF [] (fT x.fm))):=rfl
 refine hfm x28 ?_
 refine iCall ((oR x.fm w28).mono ?_)
 rintro _ w29 ⟨x29,v,rfl,hv,-⟩
 have hv:FmW w28.heap.size w29 v (fT x.fm):=hv hpc
 have hvs:FmS w29 v (fT x.fm):=hv.sl
 rw [hpc]
 refine iE30 (iE31 (iE32 ?_))
 have x1129:=x28.trans x29
 refine iRet (OP hvs hfg hsz40) fun w30 x30=>iE20 (iE21 ?_)
 have x1130:=x1129.trans x30
 refine iAdd (by omega) (iNe (iCndF (decide_eq_false fun h=>h rfl) ?_))
 refine hnm x1130 ?_
 refine bB (cs:=#[.int .i64 3,sv x.nm,.string ⟨#[]⟩]) (by simp [Instr.fill,Value.cells]) ?_
 have hnl:x.nm.length ≤ 4294967296:=by
  have h:=(hJ.ok x hmem).1
  have:=O1 h
  omega
 show callV Tryz.prog _ [sv u,(⟨3,x.nm,[]⟩:Ent).val] _ _
 refine iRet (HK (t:=u) (e:=⟨3,x.nm,[]⟩) (by omega) (by show x.nm.length + 0 ≤ _;omega) (hT11.ext x1130)) fun w31 x31=>iE20 (iE21 ?_)
 rw [ho]
 have x1131:=x1130.trans x31
 have hvs31:FmS w31 v (fT x.fm):=SlK.ext hvs (x30.trans x31)
 have next:∀ {w':World},Ext w11 w' → xAdd .i64 (.int .i64 (i:Int)) (.int .i64 1) fun v160=>Kn2 [v160] w':=fun {w'} hx=>iAdd (by omega) (hKn2 (i + 1) _ ⟨hil,hx⟩ (by omega))
 refine iJnB (!(fT x.fm).plain || decide (20 < (fT x.fm).size)) w31 (fun J hJ=>?_) (fun w33 x33=>?_)
 ·refine iNot (iCnd (fun hp=>?_) (fun hp=>?_))
  ·rw [hp,Bool.true_or] at hJ
   exact hJ _ (Ext.refl _)
  ·rw [hp,Bool.false_or] at hJ
   refine iLenK hvs31 (iLt ?_)
   rw [show decide ((20:Int) < ((fT x.fm).size:Int)) = decide (20 < (fT x.fm).size) from decide_eq_decide.2 (by omega)]
   exact hJ _ (Ext.refl _)
 intro _
 simp only [gx]
 have x1133:=x1131.trans x33
 have noclaim:fE x.fm = false → addC j' ⟨3,x.nm,[]⟩ = 5 ∧ ¬ x.cl = 1:=fun h=>⟨cc1 h,fun e=>by rw [hcl e] at h;cases h⟩
 refine iCnd (fun hbad=>?_) (fun hgd=>?_)
 ·have hno:fE x.fm = false:=by
   rw [hcb]
   cases hp:(fT x.fm).plain with
   | false=>rfl
   | true=>
    rw [hp] at hbad
    have:20 < (fT x.fm).size:=by simpa using hbad
    rw [decide_eq_false (by omega)];rfl
  obtain ⟨n1,n2⟩:=noclaim hno
  refine iJnB false w33 (fun J hJ=>?_) (fun w35 x35=>?_)
  ·rw [n1]
   refine iNe (iCndF (decide_eq_false fun h=>h rfl) ?_)
   refine hcl1 x1133 (iEq ?_)
   rw [decide_eq_false n2]
   exact hJ _ (Ext.refl _)
  intro _
  simp only [gx]
  exact iCndF rfl (next (x1133.trans x35))
 rw [Bool.or_eq_false_iff,Bool.not_eq_false',decide_eq_false_iff_not] at hgd
 obtain ⟨hp,hs20⟩:=hgd
 have hs20:(fT x.fm).size ≤ 20:=by omega
 have hsm:=sm_of hgood hp hs20
 have hcv:fE x.fm = vF [] (fT x.fm):=by rw [hcb,hp,decide_eq_true hs20,Bool.true_and,Bool.true_and]
 refine iRet (CT (SlK.ext hvs31 x33) hfg hp hs20) fun w36 x36=>iE20 (iE21 ?_)
 have x1136:=x1133.trans x36
 have hvt:=vt_vF hgood
 rw [hcv] at cc1 cc2 noclaim
 generalize hth:vF [] (fT x.fm) = th at *
 generalize hac:addC j' ⟨3,x.nm,[]⟩ = ac at *
 refine iJnB false w36 (fun J hJ=>?_) (fun w38 x38=>?_)
 ·refine iNe (iCndF (decide_eq_false fun h=>h rfl) (iNot ?_))
  cases th with
  | false=>
   obtain ⟨n1,n2⟩:=noclaim rfl
   have n1:ac = 5:=n1
   subst n1
   refine iCndT rfl (iNe (iCndF (decide_eq_false fun h=>h rfl) ?_))
   refine hcl1 x1136 (iEq (iCndF (decide_eq_false n2) ?_))
   exact iCndF rfl (hJ _ (Ext.refl _))
  | true=>
   refine iCndF rfl (iCndT rfl (iNe (iCndP (fun h=>?_) (fun h=>hJ _ (Ext.refl _)))))
   have h3:ac = 3:=(cc2 rfl).resolve_left h
   subst h3
   refine iNe ?_
   rw [decide_eq_false fun h=>h rfl]
   exact hJ _ (Ext.refl _)
 intro _
 simp only [gx]
 refine iCndF rfl ?_
 have x1138:=x1136.trans x38
 refine iJnB (th && decide (ac = 0)) w38 (fun J hJ=>?_) (fun w40 x40=>?_)
 ·refine iCnd (fun h=>?_) (fun h=>?_)
  ·rw [h,Bool.true_and] at hJ
   exact iEq (hJ _ (Ext.refl _))
  ·rw [h,Bool.false_and] at hJ
   exact hJ _ (Ext.refl _)
 intro _
 simp only [gx]
 have x1140:=x1138.trans x40
 refine iJnX (fun xs w'=>Ext w40 w') (fun J hJ=>?_) ?_
 ·refine iCnd (fun h=>?_) (fun h=>hJ _ _ (Ext.refl _))
  rw [Bool.and_eq_true,decide_eq_true_eq] at h
  obtain ⟨e1,e2⟩:=cc3 h.2
  refine iCall ((fL (t:=appT j' ⟨3,x.nm,[]⟩) (by omega) (hT11.ext x1140)).mono ?_)
  rintro _ w43 ⟨x43,vn,rfl,-,-⟩
  refine iE30 (iE31 (iE32 ?_))
  refine iAdd (by omega) (iNe (iCndF (decide_eq_false fun h=>h (by rw [e1];omega)) ?_))
  exact hJ _ _ x43
 rintro _ w42 x42
 intro _
 have x1142:=x1140.trans x42
 refine iNot (iCnd (fun hn=>?_) (fun hn=>next x1142))
 have hn:th = false:=by simpa using hn
 have hnv:¬ VT [] x.fm:=fun h=>by rw [hvt.1 h] at hn;cases hn
 refine iBs0 fun g w44 hw44 x44 ho44=>?_
 refine hfm (x1142.trans x44) ?_
 have ho44:TxW 0 w44 g []:=ho44.mono (Nat.zero_le _)
 refine iCall ((y0 ho44 hsm hnv).mono ?_)
 rintro _ w45 ⟨x45,hF⟩
 have x1145:=(x1142.trans x44).trans x45
 rcases hF with ⟨z1,z2,rfl,hz1,hz2⟩ | ⟨va2,vv2,W,vals,rfl,hcm,hva2,hvv2⟩
 ·refine iEx rfl (iEx rfl (iEx rfl ?_))
  refine iNew2 fun q w46 hq x46 hB46=>?_
  refine iSt2 hB46 rfl hz1 hz2 fun w47 hB47 hc47=>?_
  have x4547:Ext w45 w47:=x46.thenCh hc47 fun c hc=>by have hc:c = q:=hc;omega
  refine iEq (iCndF (by decide) (iNe (iCndF (by decide) ?_)))
  exact next (x1145.trans x4547)
 ·refine iEx rfl (iEx rfl (iEx rfl ?_))
  refine iNew2 fun q w46 hq x46 hB46=>?_
  refine iSt2 hB46 rfl rfl hva2.cell fun w47 hB47 hc47=>?_
  have x4547:Ext w45 w47:=x46.thenCh hc47 fun c hc=>by have hc:c = q:=hc;omega
  have x1147:=x1145.trans x4547
  refine iEq (iCndT (by decide) ?_)
  refine iLd2 hB47 ?_
  refine hfm x1147 ?_
  intro w48 x48
  refine iBs0 fun g2 w49 hw49 x49 ho49=>⟨x49,?_⟩
  have x4749:=x48.trans x49
  have ho49:TxW 0 w49 g2 []:=ho49.mono (Nat.zero_le _)
  refine iRetQ (fun w' x'=>y5 hsm hcm (Sl.ext hva2.sl ((x4547.trans x4749).trans x')) (Sl.ext hvv2.sl ((x4547.trans x4749).trans x')) (ho49.ext x').sl) ?_
  refine iE20 (iE21 ?_)
  intro w50 x50
  have x1150:=(x1147.trans x4749).trans x50
  refine iJnB false w50 (fun J hJ=>?_) (fun w52 x52=>?_)
  ·refine iNe (iCndF (decide_eq_false fun h=>h rfl) (iNot ?_))
   exact hJ _ (Ext.refl _)
  intro _
  simp only [gx]
  exact iCndF rfl (next (x1150.trans x52))
end Go.Proofs.YteifjhpddhppcaaGreatDoor
