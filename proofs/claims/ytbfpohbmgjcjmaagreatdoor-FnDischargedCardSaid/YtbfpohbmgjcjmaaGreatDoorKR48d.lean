/- The proof of FnDischargedCard, part 4 of 7. Conditions: none. -/
import Derived.Test.YtbfpohbmgjcjmaaGreatDoorKR48c
import Derived.Maps.Own
namespace Go.Vc
theorem TC {w:World} {v:Value} {N:List RN} (h:RawS w v N) (hn:0 < N.length):isSl v ∧ J0 v = false:=by
 obtain ⟨_,a,c,rfl,_,_,h0 | ⟨b,o,rfl,_⟩⟩:=h
 ·omega
 ·exact ⟨trivial,rfl⟩
theorem FmS.rawS {w:World} {v:Value} {f:Fm} (h:SlK 2 w v f.size f.cells):RawS w v (rawF f):=by
 unfold RawS
 rw [aG,a9]
 exact h
end Go.Vc
namespace Go.Proofs.YtbfpohbmgjcjmaaGreatDoor
open Go.Vc
theorem kY {v0 v1:Value} {N M:List RN} {w:World} (h0:RawS w v0 N) (h1:RawS w v1 M):Ret Tryz.prog LM #[v0,v1] w (.bool (decide (N = M))):=by
 have hln:=h0.len
 apply T6;unfold LO
 refine iRet (v:=.bool (decide (N = M))) ?_ fun w1 x1=>⟨rfl,x1⟩
 apply m9;unfold fD
 refine iLenK h0 (iLenK h1 (iNe (iCndP (fun h=>?_) (fun h=>?_))))
 ·rw [decide_eq_false (show ¬ N = M from fun e=>h (by rw [e]))]
  exact ⟨by first | trivial | rfl,Ext.refl _⟩
 have hl:N.length = M.length:=by omega
 refine iLenK h0 ?_
 refine iLp (fun i:Nat=>[.int .i64 (i:Int)]) (fun i w'=>i ≤ N.length ∧ Ext w w' ∧ ∀ j,j < i → N[j]? = M[j]?) (fun i=>N.length - i) 0 rfl ⟨Nat.zero_le _,Ext.refl _,fun j hj=>absurd hj (Nat.not_lt_zero j)⟩ ?_
 rintro i w2 Kn ⟨hi,x2,he⟩ hKn
 intro _
 simp only [gx]
 refine iLt (iCndP (fun hlt=>?_) (fun hlt=>?_))
 ·have hi0:i < N.length:=by omega
  have hi1:i < M.length:=by omega
  obtain ⟨a0,a1⟩:=iD hi0
  obtain ⟨b0,b1⟩:=iD hi1
  refine iLdK (cs:=#[.int .i64 N[i].1,.int .i64 N[i].2]) (SlK.ext h0 x2) rfl hi0 rfl (fun j hj=>by rcases j with _ | _ | j;exact a0;exact a1;omega) ?_
  refine iLdK (cs:=#[.int .i64 M[i].1,.int .i64 M[i].2]) (SlK.ext h1 x2) rfl hi1 rfl (fun j hj=>by rcases j with _ | _ | j;exact b0;exact b1;omega) ?_
  refine yR (t0:=2) (t1:=2) (by kernel_rfl) (by kernel_rfl) (by kernel_rfl) (by kernel_rfl) (by kernel_rfl) (by kernel_rfl) ?_
  intro w3 x3
  refine iCndP (fun h=>?_) (fun h=>?_)
  ·rw [decide_eq_false (show ¬ N = M from fun e=>h (by subst e;exact ⟨rfl,rfl⟩))]
   exact ⟨by first | trivial | rfl,x2.trans x3⟩
  ·refine iAdd (by omega) ?_
   refine hKn (i + 1) _ ⟨hi0,x2.trans x3,fun j hj=>?_⟩ (by omega)
   by_cases e:j = i
   ·subst e
    have h:=Classical.not_not.1 h
    rw [List.getElem?_eq_getElem hi0,List.getElem?_eq_getElem hi1]
    congr 1
    exact Prod.ext h.1 h.2
   ·exact he j (by omega)
 ·have:N = M:=List.ext_getElem? fun j=>by
   by_cases hj:j < i
   ·exact he j hj
   ·rw [List.getElem?_eq_none (by omega),List.getElem?_eq_none (by omega)]
  rw [decide_eq_true this]
  exact ⟨by first | trivial | rfl,x2⟩
theorem mV {v:Value} {N:List RN} {w:World} (h:RawS w v N) (hn:0 < N.length) (hL:N.length ≤ 1000000):Cal Tryz.prog IY #[v] w fun r w'=>Ext w w' ∧ RawW w.heap.size aA w' r N:=by
 apply TI;unfold IN
 refine iCall (Cal.mono (R:=fun r w'=>Ext w w' ∧ RawW w.heap.size aA w' r N) ?_ fun r w' h=>h)
 apply mY;unfold fE
 obtain ⟨h1,h2⟩:=TC h hn
 refine ⟨h1,rfl,iCndF (by rw [h2];rfl) ?_⟩
 refine iBsA0 fun u w1 _ x1 ho=>?_
 refine iAppK cA cC rfl (by decide) ho (SlK.ext h x1) (uV N) (by omega) (by omega) x1.size fun r w2 ho2 hg2 _=>?_
 rw [Nat.zero_add,List.nil_append] at ho2
 exact ⟨x1.grown hg2 fun c hc=>(OwK.blk ho c hc).1,ho2⟩
theorem HK {k:Nat} (hk:k < 19) {v:Value} {a:Fm} {w:World} (h:FmS w v a) (has:a.size ≤ 1000000):Ret Tryz.prog vK #[.int .i64 (k:Int),v] w (.bool (mtc k a)):=by
 apply I3;unfold vC
 refine iCall ((nV hk w).mono ?_)
 rintro u w1 ⟨x1,hu⟩
 refine iCall ((M8 hu.sl (SlK.ext h x1) (BU hk) (by have:=wA ⟨k,hk⟩;have:(schF k).size ≤ 40:=this;omega) has).mono ?_)
 rintro _ w2 ⟨x2,u2,rfl⟩
 exact iE20 (iE21 ⟨rfl,x1.trans x2⟩)
end Go.Proofs.YtbfpohbmgjcjmaaGreatDoor


namespace Go.Proofs.YtbfpohbmgjcjmaaGreatDoor
open Go.Vc
theorem uT {t:Str} (ht:t.length ≤ 4194304) (w:World):Cal Tryz.prog HI #[sv t] w fun v w'=>Ext w w' ∧ FmW w.heap.size w' v (rd t).1:=by
 apply R9;unfold GD
 refine f8 (cs:=#[sv t,.int .i64 0,.bool false]) (by simp [Instr.fill,Value.cells]) ?_
 refine iNew fun b w1 hb h1 hB=>?_
 refine iCall ((rU ht (RdS.new hB)).mono ?_)
 rintro v w2 ⟨_,hc2,hv2⟩
 rw [← TV] at hv2
 exact ⟨h1.thenCh hc2 fun c hc=>by omega,hv2.mono h1.size⟩
def FmsS (w:World) (vs:List Value) (fs:List Fm):Prop:=vs.length = fs.length ∧ ∀ i,i < fs.length → ∃ v,vs[i]? = some v ∧ FmS w v (fs.getD i .fls)
end Go.Proofs.YtbfpohbmgjcjmaaGreatDoor

namespace Go.Vc
theorem Z6 {lo:Nat} {e:TypeId} {w:World} {v:Value} {xs:List Value} {K:Value → Prop} (hs:Ow lo e w v xs) (h0:v = .slice none 0 0 → K (.bool true)) (h1:K (.bool false)):xNilS true v (.slice none 0 0) K:=by
 obtain ⟨_,h | ⟨g,cap,cur,hv,_⟩⟩:=hs
 ·obtain ⟨rfl,_⟩:=h
  exact ⟨trivial,rfl,h0 rfl⟩
 ·subst hv
  exact ⟨trivial,rfl,h1⟩
end Go.Vc
namespace Go.Proofs.YtbfpohbmgjcjmaaGreatDoor
open Go.Vc
theorem FX {v fv:Value} {L:List Str} {p:Str → Bool} {w0 w:World} (h0:Ext w0 w) (hs:SlT w v L) (hf:∀ x ∈ L,∀ w',Ext w0 w' → callV Tryz.prog fv [sv x] w' fun u w''=>u = .bool (p x) ∧ Ext w' w''):
  Cal Tryz.prog fY #[v,fv] w fun r w'=>Ext w w' ∧ ((r = .int .i64 (-1) ∧ ∀ j,j < L.length → p (gt L j) = false) ∨ ∃ i:Nat,r = .int .i64 (i:Int) ∧ i < L.length ∧ p (gt L i) = true ∧ ∀ j,j < i → p (gt L j) = false):=by
 apply f4;unfold cR
 have hln:=hs.len
 rw [cB] at hln
 refine fI hs ?_
 refine iLp (fun i:Nat=>[.int .i64 (i:Int)]) (fun i w'=>i ≤ L.length ∧ Ext w w' ∧ ∀ j,j < i → p (gt L j) = false) (fun i=>L.length - i) 0 rfl ⟨Nat.zero_le _,Ext.refl _,fun j hj=>by omega⟩ ?_
 rintro i w2 Kn ⟨hi,h2,hno⟩ hKn
 intro _
 simp only [gx]
 refine iLt ?_
 refine iCndP (fun h=>?_) (fun h=>?_)
 ·refine iIaG (hs.ext h2) rfl (by omega) ?_
  refine (hf (gt L i) (by rw [gt_eq (show i < L.length by omega)];exact List.getElem_mem _) w2 (h0.trans h2)).mono ?_
  rintro u w3 ⟨rfl,h23⟩
  refine iCnd (fun h3=>?_) (fun h3=>?_)
  ·exact ⟨h2.trans h23,.inr ⟨i,rfl,by omega,h3,hno⟩⟩
  ·refine iAdd (by omega) ?_
   refine hKn (i + 1) _ ⟨by omega,h2.trans h23,fun j hj=>?_⟩ (by omega)
   by_cases hji:j = i
   ·subst hji;exact h3
   ·exact hno j (by omega)
 ·exact ⟨h2,.inl ⟨by first | trivial | rfl,fun j hj=>hno j (by omega)⟩⟩
theorem MV {lo:Nat} {v:Value} {L:List Str} {w:World} (hs:Ow lo aD w v (strs L)) (hL:L.length ≤ 1099511627776):
  Cal Tryz.prog i5 #[v] w fun r w'=>Ext w w' ∧ Ow w.heap.size aD w' r (strs L):=by
 apply r9;unfold i6
 refine Z6 hs (fun e=>?_) ?_
 ·refine iCndT rfl ⟨Ext.refl _,?_⟩
  have:strs L = []:=by
   obtain ⟨_,h | ⟨g,cap,cur,hv,_⟩⟩:=hs
   ·exact List.length_eq_zero_iff.1 h.2
   ·rw [e] at hv;cases hv
  rw [this];exact Ow.nil _ _ _
 ·refine iCndF rfl ?_
  refine iBs0 fun u w1 hw1 x1 ho=>?_
  have hll:=cB L
  refine iApp qH pU rfl ho (hs.ext x1).sl (wP L) (by simp only [List.length_nil];omega) (by simp only [List.length_nil];omega) (by omega) fun u' w2 ho2 hg=>?_
  refine ⟨x1.grown hg fun b hb=>(ho.blk b hb).1,by simpa using ho2⟩
theorem LZ {p:Str → Bool} {L:List Str} (h:∀ j,j < L.length → p (gt L j) = false):L.filter (fun x=>!p x) = L:=by
 rw [List.filter_eq_self]
 intro x hx
 obtain ⟨j,hj,rfl⟩:=List.getElem_of_mem hx
 rw [← gt_eq hj,h j hj];rfl
theorem EL {v fv:Value} {L:List Str} {p:Str → Bool} {w0 w:World} (h0:Ext w0 w) (hs:Ow w0.heap.size aD w v (strs L)) (hL:L.length ≤ 1099511627776) (hf:∀ x ∈ L,∀ w',Ext w0 w' → callV Tryz.prog fv [sv x] w' fun u w''=>u = .bool (p x) ∧ Ext w' w''):
  Cal Tryz.prog fP #[v,fv] w fun r w'=>Ext w0 w' ∧ Ow w0.heap.size aD w' r (strs (L.filter fun x=>!p x)):=by
 apply oC;unfold fO
 refine iCall ((FX h0 hs.sl hf).mono ?_)
 rintro r w1 ⟨x1,⟨rfl,hno⟩ | ⟨i0,rfl,hi0,hp0,hno⟩⟩
 ·refine iEq (iCndT (by decide) ⟨h0.trans x1,?_⟩)
  rw [LZ hno];exact hs.ext x1
 refine iEq (iCndF (by simp) ?_)
 refine iAdd (by omega) ?_
 have hs1:=hs.ext x1
 have X1:=h0.trans x1
 obtain ⟨g,cap,hv,hcap,hcm⟩:=hs1.open (by intro e;have:=cB L;rw [e] at this;simp at this;omega)
 rw [cB] at hv hcap
 have hg:v.ownBlock = some g:=by rw [hv];rfl
 have hglo:=(hs1.blk g hg).1
 have hfl:∀ j,L.take (j + 1) = L.take j ++ (if j < L.length then [gt L j] else []):=fun j=>by
  split
  ·rename_i h;rw [List.take_succ_eq_append_getElem h,gt_eq h]
  ·rename_i h;rw [List.append_nil,List.take_of_length_le (by omega),List.take_of_length_le (by omega)]
 refine iLp (fun s:Nat × Nat=>[.int .i64 (s.1:Int),.int .i64 (s.2:Int)]) (fun s w'=>s.1 < s.2 ∧ s.2 ≤ L.length ∧ ∃ M,Turn w0.heap.size aD sv v w1 w' M ∧ M.length = L.length ∧ M.take s.1 = (L.take s.2).filter (fun x=>!p x) ∧ ∀ j,s.2 ≤ j → gt M j = gt L j) (fun s=>L.length - s.2) (i0,i0 + 1) rfl
  ⟨by show i0 < i0 + 1;omega,by show i0 + 1 ≤ _;omega,L,Turn.refl hs1,rfl,?_,fun _ _=>rfl⟩ ?_
 ·show L.take i0 = (L.take (i0 + 1)).filter fun x=>!p x
  rw [hfl,if_pos hi0,List.filter_append,List.filter_cons,hp0]
  have:(L.take i0).filter (fun x=>!p x) = L.take i0:=LZ fun j hj=>by
   rw [List.length_take] at hj
   rw [ZF (by omega)];exact hno j (by omega)
  rw [this];simp
 rintro ⟨i,j⟩ w3 Kn ⟨hij,hj,M,ht,hM,hMt,hMe⟩ hKn
 have hij:i < j:=hij
 have hj:j ≤ L.length:=hj
 have hMt:M.take i = (L.take j).filter (fun x=>!p x):=hMt
 have hMe:∀ k,j ≤ k → gt M k = gt L k:=hMe
 have X3:Ext w0 w3:=X1.thenCh ht.ch fun b hb=>by rw [hg] at hb;cases hb;exact hglo
 intro _
 simp only [gx]
 have hlenv:∀ {K:Value → Prop},K (.int .i64 (L.length:Nat)) → xLenS v K:=fun h=>by rw [hv];exact iLenL h
 refine hlenv ?_
 refine iLt ?_
 refine iCndP (fun h3=>?_) (fun h3=>?_)
 ·have hjl:j < L.length:=by omega
  have hsl:SlT w3 v M:=ht.ow.sl
  refine iIaG hsl rfl (by omega) ?_
  rw [hMe j (Nat.le_refl _)]
  refine (hf (gt L j) (by rw [gt_eq hjl];exact List.getElem_mem _) w3 X3).mono ?_
  rintro u w4 ⟨rfl,x4⟩
  have ht4:=ht.ext x4
  refine iNot ?_
  have hfj:(L.take (j + 1)).filter (fun x=>!p x) = (L.take j).filter (fun x=>!p x) ++ if p (gt L j) then [] else [gt L j]:=by
   rw [hfl,if_pos hjl,List.filter_append,List.filter_cons]
   cases p (gt L j) <;> simp
  refine iCnd (fun h4=>?_) (fun h4=>?_)
  ·rw [show p (gt L j) = false by simpa using h4] at hfj
   refine iIaOw ht4.ow (by omega) (by rw [List.length_map];omega) fun b o hb _ _ hc hfz hset=>?_
   refine iSt (hc.trans (List.getElem?_eq_getElem (by rw [List.length_map];omega))) hfz rfl ?_
   have hset:=hset (sv (gt L j))
   rw [Int.toNat_natCast,← List.map_set] at hset
   refine iAdd (by omega) ?_
   refine iAdd (by omega) ?_
   refine hKn (i + 1,j + 1) _ ⟨by show i + 1 < j + 1;omega,hjl,M.set i (gt L j),⟨hset,ht4.ch.trans ((Upd.setCell w4 b o _).ch (S:=fun c=>v.ownBlock = some c) hb) fun _ e=>.inl e⟩,by rw [List.length_set];exact hM,?_,fun k hk=>?_⟩ (by show L.length - (j + 1) < L.length - j;omega)
   ·show (M.set i (gt L j)).take (i + 1) = (L.take (j + 1)).filter fun x=>!p x
    rw [hfj,List.take_succ_eq_append_getElem (by rw [List.length_set];omega),List.getElem_set_self,List.take_set_of_le (Nat.le_refl _),hMt]
    rfl
   ·have hk:j + 1 ≤ k:=hk
    rw [I4 _ (by omega),if_neg (by omega)]
    exact hMe k (by omega)
  ·rw [show p (gt L j) = true by simpa using h4] at hfj
   refine iAdd (by omega) ?_
   refine hKn (i,j + 1) _ ⟨by show i < j + 1;omega,hjl,M,ht4,hM,?_,fun k hk=>hMe k (by have hk:j + 1 ≤ k:=hk;omega)⟩ (by show L.length - (j + 1) < L.length - j;omega)
   show M.take i = _
   rw [hfj,hMt];simp
 ·have hend:j = L.length:=by omega
  subst hend
  rw [List.take_length] at hMt
  have ho:=ht.ow
  rw [hv] at ho ⊢
  refine P6 (k:=i) (by omega) hcap ?_
  refine iClr qH pU rfl ho (by rw [List.length_map];exact hM) (by omega) fun w8 h8 hc8=>?_
  refine U5 (k:=i) (by omega) hcap ?_
  rw [show (List.map sv M).take i = strs (M.take i) from RO M i,hMt] at h8
  exact ⟨X3.thenCh hc8 fun b hb=>by rw [hb];exact hglo,h8⟩
end Go.Proofs.YtbfpohbmgjcjmaaGreatDoor

namespace Go.Vc
def Fm.w2 (a:Fm):Nat:=2 ^ a.wt
theorem Fm.w2_ge (a:Fm):2 ≤ a.w2:=by
 have:=Nat.pow_le_pow_right (n:=2) (by omega) a.wt_pos
 simpa [Fm.w2] using this
theorem E0 {x y:Nat} (hx:2 ≤ x) (hy:2 ≤ y):x + y ≤ x * y:=by
 obtain ⟨a,rfl⟩:=Nat.exists_eq_add_of_le hx
 obtain ⟨b,rfl⟩:=Nat.exists_eq_add_of_le hy
 rw [Nat.add_mul,Nat.mul_add,Nat.mul_add]
 omega
theorem W7 (a b:Fm):(Fm.and a b).w2 = 4 * (a.w2 * b.w2):=by
 simp only [Fm.w2,Fm.wt,Nat.pow_add];omega
theorem w2_or (a b:Fm):(Fm.or a b).w2 = 2 * (a.w2 * b.w2):=by
 simp only [Fm.w2,Fm.wt,Nat.pow_add];omega
theorem l7 (a b:Fm):(Fm.imp a b).w2 = 2 * (a.w2 * b.w2):=by
 simp only [Fm.w2,Fm.wt,Nat.pow_add];omega
theorem W2 (a b:Fm):a.w2 + b.w2 < (Fm.and a b).w2:=by
 rw [W7]
 have:=E0 a.w2_ge b.w2_ge
 have:=a.w2_ge
 omega
theorem lt_or (a b:Fm):a.w2 + b.w2 < (Fm.or a b).w2:=by
 rw [w2_or]
 have:=E0 a.w2_ge b.w2_ge
 have:=a.w2_ge
 omega
theorem TA (a b:Fm):a.w2 + b.w2 < (Fm.imp a b).w2:=by
 rw [l7]
 have:=E0 a.w2_ge b.w2_ge
 have:=a.w2_ge
 omega
theorem VY (a b y:Fm):(Fm.imp a (.imp b y)).w2 < (Fm.imp (.and a b) y).w2:=by
 rw [l7,l7,l7,W7]
 have e:2 * (4 * (a.w2 * b.w2) * y.w2) = 8 * (a.w2 * (b.w2 * y.w2)):=by rw [Nat.mul_assoc 4,Nat.mul_assoc a.w2];omega
 have e2:2 * (a.w2 * (2 * (b.w2 * y.w2))) = 4 * (a.w2 * (b.w2 * y.w2)):=by rw [Nat.mul_left_comm a.w2];omega
 rw [e,e2]
 have:0 < a.w2 * (b.w2 * y.w2):=Nat.mul_pos (by have:=a.w2_ge;omega) (Nat.mul_pos (by have:=b.w2_ge;omega) (by have:=y.w2_ge;omega))
 omega
theorem XE (a b y:Fm):(Fm.imp a y).w2 + (Fm.imp b y).w2 < (Fm.imp (.or a b) y).w2:=by
 rw [l7,l7,l7,w2_or]
 have h1:=E0 a.w2_ge b.w2_ge
 have h2:(a.w2 + b.w2) * y.w2 ≤ a.w2 * b.w2 * y.w2:=Nat.mul_le_mul_right _ h1
 rw [Nat.add_mul] at h2
 have e:2 * (2 * (a.w2 * b.w2) * y.w2) = 4 * (a.w2 * b.w2 * y.w2):=by rw [Nat.mul_assoc 2];omega
 rw [e]
 have:0 < a.w2 * y.w2:=Nat.mul_pos (by have:=a.w2_ge;omega) (by have:=y.w2_ge;omega)
 omega
theorem ZA (x y z:Fm):(Fm.imp y z).w2 + (Fm.imp x y).w2 < (Fm.imp (.imp x y) z).w2:=by
 rw [l7,l7,l7,l7]
 have h1:=E0 x.w2_ge z.w2_ge
 have h2:(x.w2 + z.w2) * y.w2 ≤ x.w2 * z.w2 * y.w2:=Nat.mul_le_mul_right _ h1
 rw [Nat.add_mul] at h2
 have e:2 * (2 * (x.w2 * y.w2) * z.w2) = 4 * (x.w2 * z.w2 * y.w2):=by rw [Nat.mul_assoc 2,Nat.mul_right_comm x.w2];omega
 have e2:z.w2 * y.w2 = y.w2 * z.w2:=Nat.mul_comm _ _
 rw [e]
 have:0 < x.w2 * y.w2:=Nat.mul_pos (by have:=x.w2_ge;omega) (by have:=y.w2_ge;omega)
 omega
theorem Fm.wt_size:∀ {a:Fm},a.plain = true → a.size ≤ a.wt ∧ a.wt ≤ 2 * a.size
 | .var _,_=>by simp [Fm.size,Fm.wt]
 | .fls,_=>by simp [Fm.size,Fm.wt]
 | .and a b,h=>by
  simp only [Fm.plain,Bool.and_eq_true] at h
  have h1:=Fm.wt_size h.1
  have h2:=Fm.wt_size h.2
  simp only [Fm.size,Fm.wt];omega
 | .or a b,h=>by
  simp only [Fm.plain,Bool.and_eq_true] at h
  have h1:=Fm.wt_size h.1
  have h2:=Fm.wt_size h.2
  simp only [Fm.size,Fm.wt];omega
 | .imp a b,h=>by
  simp only [Fm.plain,Bool.and_eq_true] at h
  have h1:=Fm.wt_size h.1
  have h2:=Fm.wt_size h.2
  simp only [Fm.size,Fm.wt];omega
theorem yX (b:Bool) (s:Str):(par b s).length ≤ s.length + 2:=by cases b <;> simp [par]
theorem Fm.body_len:∀ {a:Fm},a.plain = true → a.body.length ≤ 5 * a.wt
 | .var _,_=>by simp [Fm.body,Fm.wt]
 | .fls,_=>by simp [Fm.body,Fm.wt]
 | .and a b,h=>by
  simp only [Fm.plain,Bool.and_eq_true] at h
  have h1:=Fm.body_len h.1
  have h2:=Fm.body_len h.2
  have p1:=yX (decide (a.own < 2)) a.body
  have p2:=yX (decide (b.own < 3)) b.body
  simp only [Fm.body,Fm.wt,List.length_append,List.length_cons];omega
 | .or a b,h=>by
  simp only [Fm.plain,Bool.and_eq_true] at h
  have h1:=Fm.body_len h.1
  have h2:=Fm.body_len h.2
  have p1:=yX (decide (a.own < 1)) a.body
  have p2:=yX (decide (b.own < 2)) b.body
  simp only [Fm.body,Fm.wt,List.length_append,List.length_cons];omega
 | .imp a b,h=>by
  simp only [Fm.plain,Bool.and_eq_true] at h
  have h1:=Fm.body_len h.1
  have h2:=Fm.body_len h.2
  have p1:=yX (decide (a.own < 1)) a.body
  have p3:=yX (decide (a.own < 3)) a.body
  have:=b.wt_pos
  simp only [Fm.body,Fm.wt]
  split
  ·split
   ·simp only [List.length_cons,List.length_nil];omega
   ·simp only [List.length_cons];omega
  ·simp only [List.length_append,List.length_cons];omega
theorem T9 (n:Nat):n < 2 ^ n:=Nat.lt_two_pow_self
theorem p8 {b:Bool} {s:Str} {c:UInt8} (h:c ∈ par b s):c = 40 ∨ c = 41 ∨ c ∈ s:=by
 cases b
 ·exact .inr (.inr h)
 ·simp only [par,if_true,List.mem_cons,List.mem_append,List.not_mem_nil,or_false] at h
  rcases h with h | h | h
  ·exact .inl h
  ·exact .inr (.inr h)
  ·exact .inr (.inl h)
theorem Fm.body_mem:∀ {a:Fm},a.good → ∀ c ∈ a.body,c ≠ 47 ∧ c ≠ 59
 | .var v,h,c,hc=>by
  simp only [Fm.body,List.mem_singleton] at hc
  subst hc
  have h:v < 6:=h
  exact ⟨vl_ne h (by decide),vl_ne h (by decide)⟩
 | .fls,_,c,hc=>by
  simp only [Fm.body,List.mem_singleton] at hc
  subst hc;decide
 | .and a b,h,c,hc=>by
  simp only [Fm.body,List.mem_append,List.mem_cons] at hc
  rcases hc with hc | rfl | hc
  ·rcases p8 hc with rfl | rfl | hc
   ·decide
   ·decide
   ·exact Fm.body_mem h.1 c hc
  ·decide
  ·rcases p8 hc with rfl | rfl | hc
   ·decide
   ·decide
   ·exact Fm.body_mem h.2 c hc
 | .or a b,h,c,hc=>by
  simp only [Fm.body,List.mem_append,List.mem_cons] at hc
  rcases hc with hc | rfl | hc
  ·rcases p8 hc with rfl | rfl | hc
   ·decide
   ·decide
   ·exact Fm.body_mem h.1 c hc
  ·decide
  ·rcases p8 hc with rfl | rfl | hc
   ·decide
   ·decide
   ·exact Fm.body_mem h.2 c hc
 | .imp a b,h,c,hc=>by
  simp only [Fm.body] at hc
  split at hc
  ·split at hc
   ·simp only [List.mem_singleton] at hc;subst hc;decide
   ·simp only [List.mem_cons] at hc
    rcases hc with rfl | hc
    ·decide
    ·rcases p8 hc with rfl | rfl | hc
     ·decide
     ·decide
     ·exact Fm.body_mem h.1 c hc
  ·simp only [List.mem_append,List.mem_cons] at hc
   rcases hc with hc | rfl | hc
   ·rcases p8 hc with rfl | rfl | hc
    ·decide
    ·decide
    ·exact Fm.body_mem h.1 c hc
   ·decide
   ·exact Fm.body_mem h.2 c hc
 | .box a,h,c,hc=>by
  simp only [Fm.body,List.mem_cons] at hc
  rcases hc with rfl | rfl | hc
  ·decide
  ·decide
  ·rcases p8 hc with rfl | rfl | hc
   ·decide
   ·decide
   ·exact Fm.body_mem (a:=a) h c hc
 | .dia a,h,c,hc=>by
  simp only [Fm.body,List.mem_cons] at hc
  rcases hc with rfl | rfl | hc
  ·decide
  ·decide
  ·rcases p8 hc with rfl | rfl | hc
   ·decide
   ·decide
   ·exact Fm.body_mem (a:=a) h c hc
/-! ### Texts of plain formulas -/
def fT (t:Str):Fm:=(rd t).1
def GT (t:Str):Prop:=∃ a:Fm,a.good ∧ a.plain = true ∧ t = a.body
theorem aX {a:Fm} (h:a.good):fT a.body = a:=by rw [fT,PQ h]
theorem GT.at {t:Str} (h:GT t):(fT t).good ∧ (fT t).plain = true ∧ (fT t).body = t:=by
 obtain ⟨a,h1,h2,rfl⟩:=h
 rw [aX h1]
 exact ⟨h1,h2,rfl⟩
theorem GT.inj {t u:Str} (h:GT t) (k:GT u) (e:fT t = fT u):t = u:=by rw [← h.at.2.2,← k.at.2.2,e]
theorem GT.of {a:Fm} (h:a.good) (k:a.plain = true):GT a.body:=⟨a,h,k,rfl⟩
def wT (t:Str):Nat:=(fT t).w2
def mT (L:List Str):Nat:=(L.map wT).sum
theorem wT_ge (t:Str):2 ≤ wT t:=(fT t).w2_ge
theorem W0 (A B:List Str):mT (A ++ B) = mT A + mT B:=by simp [mT]
theorem eG (t:Str) (B:List Str):mT (t :: B) = wT t + mT B:=by simp [mT]
theorem WD (L:List Str):2 * L.length ≤ mT L:=by
 induction L with
 | nil=>simp
 | cons t L ih=>rw [eG,List.length_cons];have:=wT_ge t;omega
theorem WO {t:Str}:∀ {L:List Str},t ∈ L → wT t ≤ mT L
 | [],h=>by simp at h
 | u :: L,h=>by
  rw [eG]
  rcases List.mem_cons.1 h with rfl | h
  ·omega
  ·have:=WO h;omega
theorem JF (p:Str → Bool):∀ L:List Str,mT (L.filter p) ≤ mT L
 | []=>Nat.le_refl _
 | u :: L=>by
  have:=JF p L
  rw [List.filter_cons]
  split
  ·rw [eG,eG];omega
  ·rw [eG];omega
theorem UX {t:Str}:∀ {L:List Str},t ∈ L → mT (L.filter fun u=>!decide (u = t)) + wT t ≤ mT L
 | [],h=>by simp at h
 | u :: L,h=>by
  rw [eG,List.filter_cons]
  by_cases e:u = t
  ·subst e
   rw [if_neg (by simp)]
   have:=JF (fun x=>!decide (x = u)) L
   omega
  ·rcases List.mem_cons.1 h with h | h
   ·exact absurd h.symm e
   ·rw [if_pos (by simp [e]),eG]
    have:=UX h
    omega
theorem U2 (x:Str):∀ l:List Str,mT (insT x l) ≤ mT l + wT x
 | []=>by rw [insT,eG];omega
 | y :: l=>by
  rw [insT]
  split
  ·rw [eG,eG];have:=U2 x l;omega
  ·split
   ·rw [eG];omega
   ·rw [eG,eG];omega
theorem UU (l:List Str):mT (setT l) ≤ mT l:=by
 have:∀ (l a:List Str),mT (l.foldl (fun a x=>insT x a) a) ≤ mT a + mT l:=by
  intro l
  induction l with
  | nil=>intro a;simp [mT]
  | cons x l ih=>intro a;rw [List.foldl_cons,eG];have:=ih (insT x a);have:=U2 x a;omega
 have:=this l []
 simpa [setT,mT] using this
theorem N2 {t:Str} (h:GT t):t.length ≤ 5 * (fT t).wt:=by
 have:=Fm.body_len h.at.2.1
 rwa [h.at.2.2] at this
theorem VF {t:Str} (h:GT t):t.length ≤ 5 * wT t:=by
 have:=N2 h
 have:(fT t).wt < wT t:=T9 _
 omega
theorem TE {a:Fm} {n:Nat} (h:a.w2 ≤ 2 ^ n):a.wt ≤ n:=by
 rcases Nat.lt_or_ge n a.wt with h1 | h1
 ·have:=Nat.pow_lt_pow_right (a:=2) (by omega) h1
  unfold Fm.w2 at h
  omega
 ·exact h1
structure SqT (L:List Str) (r:Str):Prop where
 left:∀ t ∈ L,GT t
 right:GT r
 small:mT L + wT r ≤ 1099511627776
def VT (L:List Str) (r:Str):Prop:=Vld (L.map fT) (fT r)
theorem SqT.wt_left {L:List Str} {r t:Str} (h:SqT L r) (ht:t ∈ L):(fT t).wt ≤ 40:=by
 have:=WO ht
 have:=h.small
 exact TE (n:=40) (by show wT t ≤ _;omega)
theorem SqT.wt_right {L:List Str} {r:Str} (h:SqT L r):(fT r).wt ≤ 40:=by
 have:=h.small
 exact TE (n:=40) (by show wT r ≤ _;omega)
def keyT (L:List Str) (r:Str):Str:=L.flatMap (fun t=>t ++ [47]) ++ 59 :: (r ++ [47])
theorem PO:∀ {a b r s:Str},(∀ c ∈ a,c ≠ 47) → (∀ c ∈ b,c ≠ 47) → a ++ 47 :: r = b ++ 47 :: s → a = b ∧ r = s
 | [],[],_,_,_,_,h=>by simp at h;exact ⟨rfl,h⟩
 | [],x :: b,_,_,_,hb,h=>by simp at h;exact absurd h.1.symm (hb x (by simp))
 | x :: a,[],_,_,ha,_,h=>by simp at h;exact absurd h.1 (ha x (by simp))
 | x :: a,y :: b,_,_,ha,hb,h=>by
  simp only [List.cons_append,List.cons.injEq] at h
  have:=PO (fun c hc=>ha c (by simp [hc])) (fun c hc=>hb c (by simp [hc])) h.2
  exact ⟨by rw [h.1,this.1],this.2⟩
theorem GT.mem {t:Str} (h:GT t):∀ c ∈ t,c ≠ 47 ∧ c ≠ 59:=by
 obtain ⟨a,h1,_,rfl⟩:=h
 exact Fm.body_mem h1
theorem TH:∀ {L L':List Str} {r r':Str},(∀ t ∈ L,GT t) → (∀ t ∈ L',GT t) → GT r → GT r' → keyT L r = keyT L' r' → L = L' ∧ r = r'
 | [],[],r,r',_,_,h1,h2,h=>by
  simp only [keyT,List.flatMap_nil,List.nil_append,List.cons.injEq,true_and] at h
  exact ⟨rfl,(PO (fun c hc=>(h1.mem c hc).1) (fun c hc=>(h2.mem c hc).1) h).1⟩
 | [],t :: L',_,_,_,h2,_,_,h=>by
  simp only [keyT,List.flatMap_nil,List.nil_append,List.flatMap_cons,List.append_assoc] at h
  have ht:=(h2 t (by simp)).mem
  cases t with
  | nil=>simp at h
  | cons c t=>simp only [List.cons_append,List.cons.injEq] at h;exact absurd h.1.symm (ht c (by simp)).2
 | t :: L,[],_,_,h1,_,_,_,h=>by
  simp only [keyT,List.flatMap_nil,List.nil_append,List.flatMap_cons,List.append_assoc] at h
  have ht:=(h1 t (by simp)).mem
  cases t with
  | nil=>simp at h
  | cons c t=>simp only [List.cons_append,List.cons.injEq] at h;exact absurd h.1 (ht c (by simp)).2
 | t :: L,t' :: L',r,r',h1,h2,h3,h4,h=>by
  simp only [keyT,List.flatMap_cons,List.append_assoc,List.singleton_append] at h
  obtain ⟨e1,e2⟩:=PO (fun c hc=>((h1 t (by simp)).mem c hc).1) (fun c hc=>((h2 t' (by simp)).mem c hc).1) h
  have:=TH (fun u hu=>h1 u (by simp [hu])) (fun u hu=>h2 u (by simp [hu])) h3 h4 e2
  exact ⟨by rw [e1,this.1],this.2⟩
theorem VH:∀ {L:List Str},(∀ t ∈ L,GT t) → (L.flatMap (fun t=>t ++ [47])).length ≤ 6 * mT L
 | [],_=>by simp
 | t :: L,h=>by
  have:=VH (fun u hu=>h u (by simp [hu]):∀ u ∈ L,GT u)
  have:=VF (h t (by simp))
  have:=wT_ge t
  rw [List.flatMap_cons,eG,List.length_append,List.length_append,List.length_singleton]
  omega
end Go.Vc

namespace Go.Vc
abbrev Sq:=List Str × Str
def dropT (t:Str) (L:List Str):List Str:=L.filter fun u=>!decide (u = t)
def ins (L:List Str) (t:Str) (ts:List Str):List Str:=setT (dropT t L ++ ts)
theorem lJ {L:List Str} {t:Str} {ts:List Str} {u:Fm}:u ∈ (ins L t ts).map fT ↔ u ∈ ts.map fT ∨ u ∈ (dropT t L).map fT:=by
 simp only [ins,List.mem_map,pO,List.mem_append]
 constructor
 ·rintro ⟨a,h | h,rfl⟩
  ·exact .inr ⟨a,h,rfl⟩
  ·exact .inl ⟨a,h,rfl⟩
 ·rintro (⟨a,h,rfl⟩ | ⟨a,h,rfl⟩)
  ·exact ⟨a,.inr h,rfl⟩
  ·exact ⟨a,.inl h,rfl⟩
theorem RG {L:List Str} {t:Str} (ht:t ∈ L) (u:Fm):u ∈ L.map fT ↔ u = fT t ∨ u ∈ (dropT t L).map fT:=by
 simp only [dropT,List.mem_map,List.mem_filter]
 constructor
 ·rintro ⟨a,h,rfl⟩
  by_cases e:a = t
  ·exact .inl (by rw [e])
  ·exact .inr ⟨a,⟨h,by simp [e]⟩,rfl⟩
 ·rintro (rfl | ⟨a,⟨h,_⟩,rfl⟩)
  ·exact ⟨t,ht,rfl⟩
  ·exact ⟨a,h,rfl⟩
theorem SqT.ins {L:List Str} {r t r':Str} {ts:List Str} (h:SqT L r) (ht:t ∈ L) (hg:∀ u ∈ ts,GT u) (hr:GT r') (hm:mT ts + wT r' < wT t + wT r):SqT (ins L t ts) r' ∧ mT (ins L t ts) + wT r' < mT L + wT r:=by
 have h1:=UU (dropT t L ++ ts)
 have h2:mT (dropT t L) + wT t ≤ mT L:=UX ht
 rw [W0] at h1
 have h3:=h.small
 have h4:mT (Go.Vc.ins L t ts) + wT r' < mT L + wT r:=by unfold Go.Vc.ins;omega
 refine ⟨⟨fun u hu=>?_,hr,by omega⟩,h4⟩
 rcases List.mem_append.1 (pO.1 hu) with hu | hu
 ·exact h.left u (List.mem_filter.1 hu).1
 ·exact hg u hu
structure Prem (L:List Str) (r:Str) (ps:List Sq):Prop where
 iff:VT L r ↔ ∀ p ∈ ps,VT p.1 p.2
 sq:∀ p ∈ ps,SqT p.1 p.2
 lt:∀ p ∈ ps,mT p.1 + wT p.2 < mT L + wT r
def aW (L:List Str) (r t:Str):List Sq × Bool:=
 match fT t with
 | .and a b=>([(ins L t [a.body,b.body],r)],true)
 | .or a b=>([(ins L t [a.body],r),(ins L t [b.body],r)],true)
 | .imp .fls _=>([(ins L t [],r)],true)
 | .imp (.var p) b=>([(ins L t [b.body],r)],decide ((Fm.var p).body ∈ L))
 | .imp (.and x y) b=>([(ins L t [(Fm.imp x (.imp y b)).body],r)],true)
 | .imp (.or x y) b=>([(ins L t [(Fm.imp x b).body,(Fm.imp y b).body],r)],true)
 | _=>([],false)
theorem wT_of {t:Str} {a:Fm} (h:fT t = a):wT t = a.w2:=by rw [wT,h]
theorem cO {a:Fm} (h:a.good):wT a.body = a.w2:=wT_of (aX h)
theorem AE (t:Str):mT [t] = wT t:=by simp [mT]
theorem W5 (t u:Str):mT [t,u] = wT t + wT u:=by simp [mT]
theorem UT {a b:Str} (h:GT a) (k:GT b):∀ u ∈ [a,b],GT u:=fun u hu=>by
 simp only [List.mem_cons,List.not_mem_nil,or_false] at hu
 rcases hu with rfl | rfl
 ·exact h
 ·exact k
theorem yV {a:Str} (h:GT a):∀ u ∈ [a],GT u:=fun u hu=>by rw [List.mem_singleton.1 hu];exact h
theorem Prem.one {L A:List Str} {r q:Str} (h:VT L r ↔ VT A q) (hs:SqT A q ∧ mT A + wT q < mT L + wT r):Prem L r [(A,q)]:=
 ⟨by simpa using h,by simpa using hs.1,by simpa using hs.2⟩
theorem Prem.two {L A B:List Str} {r q s:Str} (h:VT L r ↔ VT A q ∧ VT B s) (hs:SqT A q ∧ mT A + wT q < mT L + wT r) (ht:SqT B s ∧ mT B + wT s < mT L + wT r):Prem L r [(A,q),(B,s)]:=
 ⟨by simpa using h,by simpa using ⟨hs.1,ht.1⟩,by simpa using ⟨hs.2,ht.2⟩⟩
theorem cM {a b:Fm} (h:(Fm.imp a b).plain = true):a.plain = true ∧ b.plain = true:=by simpa [Fm.plain] using h
theorem vT {a b:Fm} (h:(Fm.and a b).plain = true):a.plain = true ∧ b.plain = true:=by simpa [Fm.plain] using h
theorem F0 {a b:Fm} (h:(Fm.or a b).plain = true):a.plain = true ∧ b.plain = true:=by simpa [Fm.plain] using h
theorem vU {a b:Fm} (h:a.plain = true) (k:b.plain = true):(Fm.imp a b).plain = true:=by simp [Fm.plain,h,k]
theorem YO {L:List Str} {r t:Str} (h:SqT L r) (ht:t ∈ L) (hk:(aW L r t).2 = true):Prem L r (aW L r t).1:=by
 obtain ⟨hg,hp,-⟩:=(h.left t ht).at
 have hS:=RG ht
 have r2:=wT_ge r
 have hw:wT t = (fT t).w2:=rfl
 unfold aW at hk ⊢
 split at hk
 ·rename_i a b e
  rw [e] at hg hp hS hw
  have g1:=GT.of hg.1 (vT hp).1
  have g2:=GT.of hg.2 (vT hp).2
  refine Prem.one (r_and hS (fun u=>?_)).symm (h.ins ht (UT g1 g2) h.right ?_)
  ·rw [lJ];simp only [List.map_cons,List.map_nil,aX hg.1,aX hg.2,List.mem_cons,List.not_mem_nil,or_false,or_assoc]
  ·rw [W5,cO hg.1,cO hg.2,hw];have:=W2 a b;omega
 ·rename_i a b e
  rw [e] at hg hp hS hw
  have g1:=GT.of hg.1 (F0 hp).1
  have g2:=GT.of hg.2 (F0 hp).2
  have:=lt_or a b
  have:=a.w2_ge
  have:=b.w2_ge
  refine Prem.two (r_or hS (fun u=>?_) (fun u=>?_)) (h.ins ht (yV g1) h.right ?_) (h.ins ht (yV g2) h.right ?_)
  ·rw [lJ];simp only [List.map_cons,List.map_nil,aX hg.1,List.mem_cons,List.not_mem_nil,or_false]
  ·rw [lJ];simp only [List.map_cons,List.map_nil,aX hg.2,List.mem_cons,List.not_mem_nil,or_false]
  ·rw [AE,cO hg.1,hw];omega
  ·rw [AE,cO hg.2,hw];omega
 ·rename_i b e
  rw [e] at hg hp hS hw
  refine Prem.one ?_ (h.ins ht (by simp) h.right ?_)
  ·have:=SB (c:=fT r) hS
   have e2:Vld ((dropT t L).map fT) (fT r) ↔ VT (ins L t []) r:=Vld.congr fun M w=>by
    constructor
    ·intro k u hu;rw [lJ] at hu;exact k u (by simpa using hu)
    ·intro k u hu;exact k u (lJ.2 (.inr hu))
   exact this.symm.trans e2
  ·rw [show mT [] = 0 from rfl,hw];have:=(Fm.imp .fls b).w2_ge;omega
 ·rename_i p b e
  rw [e] at hg hp hS hw
  have hk:=of_decide_eq_true hk
  have g2:=GT.of hg.2 (cM hp).2
  refine Prem.one (XZ (x:=.var p) hS (fun u=>?_) ?_).symm (h.ins ht (yV g2) h.right ?_)
  ·rw [lJ];simp only [List.map_cons,List.map_nil,aX hg.2,List.mem_cons,List.not_mem_nil,or_false]
  ·refine List.mem_map.2 ⟨_,List.mem_filter.2 ⟨hk,?_⟩,aX hg.1⟩
   have:¬ (Fm.var p).body = t:=fun e2=>by rw [← e2,aX hg.1] at e;cases e
   simp [this]
  ·rw [AE,cO hg.2,hw];have:=TA (.var p) b;omega
 ·rename_i x y b e
  rw [e] at hg hp hS hw
  have hp1:=vT (cM hp).1
  have hgg:(Fm.imp x (.imp y b)).good:=⟨hg.1.1,hg.1.2,hg.2⟩
  have g2:=GT.of hgg (vU hp1.1 (vU hp1.2 (cM hp).2))
  refine Prem.one (XY hS (fun u=>?_)).symm (h.ins ht (yV g2) h.right ?_)
  ·rw [lJ];simp only [List.map_cons,List.map_nil,aX hgg,List.mem_cons,List.not_mem_nil,or_false]
  ·rw [AE,cO hgg,hw];have:=VY x y b;omega
 ·rename_i x y b e
  rw [e] at hg hp hS hw
  have hp1:=F0 (cM hp).1
  have hg1:(Fm.imp x b).good:=⟨hg.1.1,hg.2⟩
  have hg2:(Fm.imp y b).good:=⟨hg.1.2,hg.2⟩
  have g1:=GT.of hg1 (vU hp1.1 (cM hp).2)
  have g2:=GT.of hg2 (vU hp1.2 (cM hp).2)
  refine Prem.one (YH hS (fun u=>?_)).symm (h.ins ht (UT g1 g2) h.right ?_)
  ·rw [lJ];simp only [List.map_cons,List.map_nil,aX hg1,aX hg2,List.mem_cons,List.not_mem_nil,or_false,or_assoc]
  ·rw [W5,cO hg1,cO hg2,hw];have:=XE x y b;omega
 ·cases hk
theorem XX {L:List Str} {r:Str} {a b:Fm} (h:SqT L r) (e:fT r = .and a b):Prem L r [(L,a.body),(L,b.body)]:=by
 obtain ⟨hg,hp,-⟩:=h.right.at
 have hw:wT r = (fT r).w2:=rfl
 rw [e] at hg hp hw
 have:=W2 a b
 have:=h.small
 have:=a.w2_ge
 have:=b.w2_ge
 have e1:=cO hg.1
 have e2:=cO hg.2
 refine Prem.two ?_ ⟨⟨h.left,GT.of hg.1 (vT hp).1,by omega⟩,by omega⟩ ⟨⟨h.left,GT.of hg.2 (vT hp).2,by omega⟩,by omega⟩
 unfold VT
 rw [e,aX hg.1,aX hg.2]
 exact Vld.and
theorem WK {L:List Str} {r:Str} {a b:Fm} (h:SqT L r) (e:fT r = .imp a b):Prem L r [(setT (L ++ [a.body]),b.body)]:=by
 obtain ⟨hg,hp,-⟩:=h.right.at
 have hw:wT r = (fT r).w2:=rfl
 rw [e] at hg hp hw
 have:=TA a b
 have:=h.small
 have e1:=cO hg.1
 have e2:=cO hg.2
 have h1:=UU (L ++ [a.body])
 rw [W0,AE] at h1
 refine Prem.one ?_ ⟨⟨fun u hu=>?_,GT.of hg.2 (cM hp).2,by omega⟩,by omega⟩
 ·unfold VT
  rw [e,aX hg.2]
  refine Vld.imp fun x=>?_
  simp only [List.mem_map,pO,List.mem_append,List.mem_singleton]
  constructor
  ·rintro ⟨y,hy | rfl,rfl⟩
   ·exact .inr ⟨y,hy,rfl⟩
   ·exact .inl (aX hg.1)
  ·rintro (rfl | ⟨y,hy,rfl⟩)
   ·exact ⟨_,.inr rfl,aX hg.1⟩
   ·exact ⟨y,.inl hy,rfl⟩
 ·rcases List.mem_append.1 (pO.1 hu) with hu | hu
  ·exact h.left u hu
  ·rw [List.mem_singleton.1 hu];exact GT.of hg.1 (cM hp).1
def oV (L:List Str) (r t:Str):Option (Sq × Sq):=
 match fT t with
 | .imp (.imp x y) z=>some ((ins L t [(Fm.imp y z).body],(Fm.imp x y).body),(ins L t [z.body],r))
 | _=>none
theorem KC {L:List Str} {r t:Str} (h:SqT L r) (ht:t ∈ L) {p q:Sq} (hn:oV L r t = some (p,q)):
  (SqT p.1 p.2 ∧ mT p.1 + wT p.2 < mT L + wT r) ∧ (SqT q.1 q.2 ∧ mT q.1 + wT q.2 < mT L + wT r) ∧ (VT p.1 p.2 → (VT q.1 q.2 ↔ VT L r)) ∧ ∃ x z,fT t = .imp x z ∧ (VT p.1 p.2 ↔ Vld (L.map fT) x):=by
 obtain ⟨hg,hp,-⟩:=(h.left t ht).at
 have hS:=RG ht
 have r2:=wT_ge r
 have hw:wT t = (fT t).w2:=rfl
 unfold oV at hn
 split at hn
 ·rename_i x y z e
  rw [e] at hg hp hS hw
  have hp1:=cM (cM hp).1
  have hg1:(Fm.imp y z).good:=⟨hg.1.2,hg.2⟩
  have g1:=GT.of hg1 (vU hp1.2 (cM hp).2)
  have g2:=GT.of hg.1 (cM hp).1
  have g3:=GT.of hg.2 (cM hp).2
  simp only [Option.some.injEq,Prod.mk.injEq] at hn
  obtain ⟨rfl,rfl⟩:=hn
  have h1:∀ a,a ∈ (ins L t [(Fm.imp y z).body]).map fT ↔ a = .imp y z ∨ a ∈ (dropT t L).map fT:=fun a=>by
   rw [lJ];simp only [List.map_cons,List.map_nil,aX hg1,List.mem_cons,List.not_mem_nil,or_false]
  have h3:∀ a,a ∈ (ins L t [z.body]).map fT ↔ a = z ∨ a ∈ (dropT t L).map fT:=fun a=>by
   rw [lJ];simp only [List.map_cons,List.map_nil,aX hg.2,List.mem_cons,List.not_mem_nil,or_false]
  have hA:VT (ins L t [(Fm.imp y z).body]) (Fm.imp x y).body ↔ Vld (L.map fT) (.imp x y):=by
   unfold VT
   rw [aX hg.1]
   exact Y3 hS h1
  refine ⟨h.ins ht (yV g1) g2 ?_,h.ins ht (yV g3) h.right ?_,fun k=>V0 hS h3 (hA.1 k),_,_,e,hA⟩
  ·rw [AE,cO hg1,cO hg.1,hw];have:=ZA x y z;omega
  ·show mT [z.body] + wT r < wT t + wT r
   rw [AE,cO hg.2,hw];have:=TA (.imp x y) z;omega
 ·cases hn
theorem Z2 {L:List Str} {r:Str} (h:SqT L r) (hr:¬ r ∈ L) (hf:¬ Fm.fls.body ∈ L) (hno:∀ t ∈ L,(aW L r t).2 = false)
  (hr2:∀ a b,fT r ≠ .and a b ∧ fT r ≠ .imp a b) (hor:∀ a b,fT r = .or a b → ¬ VT L a.body ∧ ¬ VT L b.body)
  (hn:∀ t ∈ L,∀ p q,oV L r t = some (p,q) → ¬ (VT p.1 p.2 ∧ VT q.1 q.2)):¬ VT L r:=by
 by_cases hA:∃ t ∈ L,∃ p q,oV L r t = some (p,q) ∧ VT p.1 p.2
 ·obtain ⟨t,ht,p,q,e,hp⟩:=hA
  obtain ⟨-,-,k,-⟩:=KC h ht e
  exact fun hv=>hn t ht p q e ⟨hp,(k hp).2 hv⟩
 refine stuck (fun a ha=>?_) ?_
 ·obtain ⟨t,ht,rfl⟩:=List.mem_map.1 ha
  have h1:=hno t ht
  obtain ⟨hg,hpl,hb⟩:=(h.left t ht).at
  unfold aW at h1
  split at h1
  ·cases h1
  ·cases h1
  ·cases h1
  ·rename_i p b e
   refine .inr ⟨_,_,e,.inl ⟨p,rfl,fun hm=>?_⟩⟩
   obtain ⟨u,hu,e2⟩:=List.mem_map.1 hm
   have:=(h.left u hu).at.2.2
   rw [e2] at this
   rw [this] at h1
   exact absurd hu (of_decide_eq_false h1)
  ·cases h1
  ·cases h1
  ·rename_i q1 q2 q3 q4 q5 q6
   cases e:fT t with
   | var p=>exact .inl ⟨p,rfl⟩
   | fls=>rw [e] at hb;rw [← hb] at ht;exact absurd ht hf
   | and a b=>exact absurd e (q1 a b)
   | or a b=>exact absurd e (q2 a b)
   | box a=>rw [e] at hpl;cases hpl
   | dia a=>rw [e] at hpl;cases hpl
   | imp x z=>
    refine .inr ⟨x,z,rfl,.inr fun hv=>?_⟩
    cases x with
    | var p=>exact q4 p z e
    | fls=>exact q3 z e
    | and a b=>exact q5 a b z e
    | or a b=>exact q6 a b z e
    | box a=>rw [e] at hpl;cases hpl
    | dia a=>rw [e] at hpl;cases hpl
    | imp x y=>
     have hne:oV L r t = some ((ins L t [(Fm.imp y z).body],(Fm.imp x y).body),(ins L t [z.body],r)):=by unfold oV;rw [e]
     obtain ⟨-,-,-,x',z',e',k⟩:=KC h ht hne
     rw [e] at e'
     cases e'
     exact hA ⟨t,ht,_,_,hne,k.2 hv⟩
 ·obtain ⟨hg,hpl,hb⟩:=h.right.at
  cases e:fT r with
  | var p=>
   refine .inl ⟨p,rfl,fun hm=>hr ?_⟩
   obtain ⟨u,hu,e2⟩:=List.mem_map.1 hm
   have:=(h.left u hu).inj h.right (e2.trans e.symm)
   rwa [← this]
  | fls=>exact .inr (.inl rfl)
  | and a b=>exact absurd e (hr2 a b).1
  | imp a b=>exact absurd e (hr2 a b).2
  | box a=>rw [e] at hpl;cases hpl
  | dia a=>rw [e] at hpl;cases hpl
  | or a b=>
   rw [e] at hg
   have:=hor a b e
   unfold VT at this
   rw [aX hg.1,aX hg.2] at this
   exact .inr (.inr ⟨a,b,rfl,this.1,this.2⟩)
theorem VT.or {L:List Str} {r:Str} {a b:Fm} (h:GT r) (e:fT r = .or a b) (k:VT L a.body ∨ VT L b.body):VT L r:=by
 have hg:=h.at.1
 rw [e] at hg
 unfold VT at k ⊢
 rw [aX hg.1,aX hg.2] at k
 rw [e]
 exact fun M w hw=>k.imp (fun k=>k M w hw) (fun k=>k M w hw)
theorem VT.ax {L:List Str} {r:Str} (k:r ∈ L ∨ Fm.fls.body ∈ L):VT L r:=by
 rcases k with k | k
 ·exact Vld.mem (List.mem_map.2 ⟨r,k,rfl⟩)
 ·exact Vld.fls (List.mem_map.2 ⟨_,k,aX trivial⟩)
open Classical in
noncomputable def vB (L:List Str) (r:Str):Bool:=decide (VT L r)
theorem fB {L:List Str} {r:Str}:vB L r = true ↔ VT L r:=by unfold vB;exact @decide_eq_true_iff _ (Classical.propDecidable _)
theorem MS {L:List Str} {r:Str}:vB L r = false ↔ ¬ VT L r:=by unfold vB;exact @decide_eq_false_iff_not _ (Classical.propDecidable _)
end Go.Vc

namespace Go.Vc
theorem aAG {a b:Str} (h:sv a = sv b):a = b:=by
 simp only [sv,Value.string.injEq,ByteArray.mk.injEq] at h
 exact Array.toList_inj.2 h |> fun e=>by simpa using e
def MapB (Q:Str → Value → Prop) (w:World) (b:Nat):Prop:=∃ es clock,w.heap[b]? = some (.map es clock) ∧ ∀ x ∈ es.toList,∃ t:Str,x.key = sv t ∧ Q t x.val
theorem MapB.ext {Q:Str → Value → Prop} {w w':World} {b:Nat} (h:MapB Q w b) (x:Ext w w'):MapB Q w' b:=by
 obtain ⟨es,clock,hb,h⟩:=h
 exact ⟨es,clock,by rw [Go.RowKit.Below.block x b (hO hb)];exact hb,h⟩
theorem MapB.ne_ow {Q:Str → Value → Prop} {w:World} {b lo k n:Nat} {e:TypeId} {v:Value} {xs:List Value} (h:MapB Q w b) (ho:OwK k lo e w v n xs):∀ c,v.ownBlock = some c → ¬ c = b:=by
 obtain ⟨es,clock,hb,h⟩:=h
 rintro c hc rfl
 obtain ⟨cur,h1⟩:=ho.ty hc
 rw [h1] at hb;cases hb
theorem MapB.ne_blk {Q:Str → Value → Prop} {w:World} {b q:Nat} {e:TypeId} {cs:List Value} (h:MapB Q w b) (hq:Blk e w q cs):¬ q = b:=by
 obtain ⟨es,clock,hb,h⟩:=h
 rintro rfl
 unfold Blk at hq
 rw [hq] at hb;cases hb
theorem MapB.keys {Q:Str → Value → Prop} {es:Array MapEntry} (h:∀ x ∈ es.toList,∃ t:Str,x.key = sv t ∧ Q t x.val):∀ x ∈ es.toList,MapKept.IsKey .string x.key:=fun x hx=>by
 obtain ⟨t,e,_⟩:=h x hx
 rw [e];trivial
section
variable {P:Program} {t k e:TypeId} {Q:Str → Value → Prop}
theorem YY {w:World} {K:Value → World → Prop} (h:∀ b w',b = w.heap.size → Ext w w' → MapB Q w' b → K (.map (some b)) w'):xOp P (Instr.makeMap t none) w K:=
 ⟨_,_,rfl,h _ _ rfl (Ext.alloc w _) ⟨#[],0,heap_alloc_new w _,by simp⟩⟩
theorem Y7 {w:World} {b:Nat} {s:Str} {z:Value} {K:Value → Prop} (h:MapB Q w b) (ht:P.underlying t = some (.map k e)) (hk:P.underlying k = some .string) (hz:∀ w,(zeroValue e).run P w = .ok z w)
  (h0:K (.tuple #[z,.bool false])) (h1:∀ v,Q s v → K (.tuple #[v,.bool true])):xR P w (Instr.lookup t (.map (some b)) (sv s) true) K:=by
 obtain ⟨es,clock,hb,hm⟩:=h
 have hb':∀ w',Ext w w' → w'.heap[b]? = some (.map es clock):=fun w' x=>by rw [Go.RowKit.Below.block x b (hO hb)];exact hb
 rcases MapKept.findNow_spec (k:=sv s) (d:=.string) trivial es.toList 0 (MapB.keys hm) with ⟨f1,f2⟩ | ⟨j,e0,f1,f2,f3⟩
 ·refine ⟨_,fun w' x=>?_,h0⟩
  simp [Instr.lookup,run_underlying ht,MapKept.run_getObj_map (hb' w' x),MapKept.run_checkKey (k:=sv s) hk trivial,MapKept.run_findKey hk f1,hz,Result.andThen]
 ·obtain ⟨u,e1,hq⟩:=hm e0 (List.mem_of_getElem? f2)
  rw [f3] at e1
  have e1:=aAG e1
  subst e1
  refine ⟨_,fun w' x=>?_,h1 _ hq⟩
  simp [Instr.lookup,run_underlying ht,MapKept.run_getObj_map (hb' w' x),MapKept.run_checkKey (k:=sv s) hk trivial,MapKept.run_findKey hk f1,Result.andThen]
theorem ZV {w:World} {b:Nat} {s:Str} {v:Value} {K:World → Prop} (h:MapB Q w b) (ht:P.underlying t = some (.map k e)) (hk:P.underlying k = some .string) (hv:Q s v)
  (h1:∀ w',MapB Q w' b → Ch (fun c=>c = b) w w' → K w'):xOpU P (Instr.mapUpdate t (.map (some b)) (sv s) v) w K:=by
 obtain ⟨es,clock,hb,hm⟩:=h
 have hset:∀ o,({ w with heap:=w.heap.setIfInBounds b o }:World).heap[b]? = some o ∧ Ch (fun c=>c = b) w { w with heap:=w.heap.setIfInBounds b o }:=fun o=>
  ⟨(MapKept.heap_set hb).1,rfl,rfl,rfl,by simp,fun i _ hi=>(MapKept.heap_set hb).2 i hi⟩
 rcases MapKept.findNow_spec (k:=sv s) (d:=.string) trivial es.toList 0 (MapB.keys hm) with ⟨f1,f2⟩ | ⟨j,e0,f1,f2,f3⟩
 ·refine ⟨_,?_,h1 { w with heap:=w.heap.setIfInBounds b (.map (es.push ⟨sv s,v,clock⟩) (clock + 1)) } ⟨_,_,(hset _).1,fun x hx=>?_⟩ (hset _).2⟩
  ·simp [Instr.mapUpdate,run_underlying ht,MapKept.run_getObj_map hb,MapKept.run_checkKey (k:=sv s) hk trivial,MapKept.run_findKey hk f1,MapKept.run_setObj_map _ hb,Result.andThen]
  ·simp only [Array.toList_push,List.mem_append,List.mem_singleton] at hx
   rcases hx with hx | rfl
   ·exact hm x hx
   ·exact ⟨s,rfl,hv⟩
 ·have hj:j < es.size:=by have:=(List.getElem?_eq_some_iff.1 f2).1;simpa using this
  have hkey:((es[j]?).map (·.key)).getD (sv s) = sv s:=by
   have:es[j]? = some e0:=by simpa using f2
   rw [this];exact f3
  refine ⟨_,?_,h1 { w with heap:=w.heap.setIfInBounds b (.map (es.modify j fun e=>{ e with key:=sv s,val:=v }) clock) } ⟨_,_,(hset _).1,fun x hx=>?_⟩ (hset _).2⟩
  ·simp only [Nat.zero_add] at f1
   simp [Instr.mapUpdate,run_underlying ht,MapKept.run_getObj_map hb,MapKept.run_checkKey (k:=sv s) hk trivial,MapKept.run_findKey hk f1,MapKept.run_setObj_map _ hb,Result.andThen,hkey,MapKept.run_keyThatStays (k:=sv s) (d:=.string) trivial]
  ·rw [Array.toList_modify] at hx
   obtain ⟨i,hi,rfl⟩:=List.getElem_of_mem hx
   rw [List.getElem_modify]
   split
   ·exact ⟨s,rfl,hv⟩
   ·exact hm _ (List.getElem_mem _)
end
end Go.Vc
namespace Go.Proofs.YtbfpohbmgjcjmaaGreatDoor
open Go.Vc
theorem S7 {lo:Nat} {v:Value} {L:List Str} {t:Str} {w:World} (hs:Ow lo aD w v (strs L)) (hL:L.length ≤ 1099511627776):
  Cal Tryz.prog LL #[v,sv t] w fun r w'=>Ext w w' ∧ Ow w.heap.size aD w' r (strs (dropT t L)):=by
 apply T1;unfold LP
 refine iNew fun q w1 hq x1 hB=>?_
 refine iCall ((MV (hs.ext x1) hL).mono ?_)
 rintro u w2 ⟨x2,ho⟩
 refine iCall ((EL (w0:=w1) (p:=fun u=>decide (u = t)) x2 ho hL fun x hx w' hw'=>(iClo rfl ?_)).mono ?_)
 ·show Cal Tryz.prog GX #[sv x,.pointer (some ⟨q,0,none⟩)] w' _
  apply SF;unfold GY
  refine iLdB (hB.ext hw') rfl ?_
  exact iEqT ⟨rfl,Ext.refl _⟩
 ·rintro r w3 ⟨x3,ho3⟩
  exact ⟨x1.trans x3,ho3.mono x1.size⟩
end Go.Proofs.YtbfpohbmgjcjmaaGreatDoor

namespace Go.Vc
theorem SlK.cellOk {k:Nat} {w:World} {v:Value} {n:Nat} {xs:List Value} (h:SlK k w v n xs):aF v = true:=by
 obtain ⟨_,a,c,rfl,_⟩:=h
 rfl
theorem aAL {fs:List Fm} {j:Nat} (h:j < fs.length):fs.getD j .fls = fs[j]:=by simp [List.getD_eq_getElem?_getD,h]
theorem YU {f:Fm}:∀ g ∈ f.kids,g.size < f.size:=fun g hg=>by
 have:=f.size_kids
 have h2:∀ (l:List Fm),g ∈ l → g.size ≤ sizeL l:=by
  intro l
  induction l with
  | nil=>intro h;simp at h
  | cons a l ih=>
   intro h
   simp only [sizeL,List.map_cons,List.sum_cons] at ih ⊢
   rcases List.mem_cons.1 h with rfl | h
   ·omega
   ·have:=ih h;omega
 have:=h2 _ hg
 omega
theorem YZ:∀ {f:Fm},f.good → ∀ g ∈ f.kids,g.good
 | .and a b,h,g,hg=>by simp only [Fm.kids,List.mem_cons,List.not_mem_nil,or_false] at hg;rcases hg with rfl | rfl;exact h.1;exact h.2
 | .or a b,h,g,hg=>by simp only [Fm.kids,List.mem_cons,List.not_mem_nil,or_false] at hg;rcases hg with rfl | rfl;exact h.1;exact h.2
 | .imp a b,h,g,hg=>by simp only [Fm.kids,List.mem_cons,List.not_mem_nil,or_false] at hg;rcases hg with rfl | rfl;exact h.1;exact h.2
 | .box a,h,g,hg=>by simp only [Fm.kids,List.mem_cons,List.not_mem_nil,or_false] at hg;subst hg;exact h
 | .dia a,h,g,hg=>by simp only [Fm.kids,List.mem_cons,List.not_mem_nil,or_false] at hg;subst hg;exact h
end Go.Vc
namespace Go.Proofs.YtbfpohbmgjcjmaaGreatDoor
open Go.Vc
abbrev TxW (lo:Nat) (w:World) (v:Value) (L:List Str):Prop:=Ow lo aD w v (strs L)
theorem R3 {v:Value} {f:Fm} {w:World} (hs:FmS w v f) (hn:f.size ≤ 1099511627776):Cal Tryz.prog IM #[v] w fun r w'=>Ext w w' ∧ ∃ vs,Sl w' r vs ∧ FmsS w' vs f.kids:=by
 apply SM;unfold JE
 refine iFld (j:=0) hs rfl f.size_pos (by decide) (aO hs).1 ?_
 refine iRet (rH f.kind w) fun w1 x1=>?_
 have har:=f.arity_kids
 refine iEq ?_
 refine iCndP (fun h=>?_) (fun h=>?_)
 ·obtain ⟨g,hg⟩:∃ g,f.kids = [g]:=List.length_eq_one_iff.1 (by omega)
  refine iCall ((aM (hs.ext x1) hg hn).mono ?_)
  rintro u w2 ⟨x2,hu⟩
  refine iBs1 rfl (SlK.cellOk hu) fun b w3 hb x3 hB=>?_
  refine ⟨(x1.trans x2).trans x3,_,Sl.ofBlk (n:=1) hB rfl (by decide),by rw [hg];rfl,fun i hi=>?_⟩
  rw [hg] at hi ⊢
  have:i = 0:=by simp at hi;omega
  subst this
  exact ⟨u,rfl,hu.ext x3⟩
 ·refine iEq ?_
  refine iCndP (fun h2=>?_) (fun h2=>?_)
  ·obtain ⟨g,k,hg⟩:∃ g k,f.kids = [g,k]:=by
    have:f.kids.length = 2:=by omega
    match hk:f.kids,this with
    | [g,k],_=>exact ⟨g,k,rfl⟩
   refine iCall ((aM (hs.ext x1) hg hn).mono ?_)
   rintro u w2 ⟨x2,hu⟩
   refine iCall ((aS ((hs.ext x1).ext x2) hg hn).mono ?_)
   rintro u' w3 ⟨x3,hu'⟩
   refine iBs2 rfl (SlK.cellOk hu) (SlK.cellOk hu') fun b w4 hb x4 hB=>?_
   refine ⟨((x1.trans x2).trans x3).trans x4,_,Sl.ofBlk (n:=2) hB rfl (by decide),by rw [hg];rfl,fun i hi=>?_⟩
   rw [hg] at hi ⊢
   rcases i with _ | _ | i
   ·exact ⟨u,rfl,(hu.ext x3).ext x4⟩
   ·exact ⟨u',rfl,hu'.ext x4⟩
   ·simp at hi;omega
  ·refine ⟨x1,[],Sl.nil _,?_,fun i hi=>?_⟩
   ·have:f.kids.length ≤ 2:=by cases f <;> simp [Fm.kids]
    simp;omega
   ·have:f.kids.length ≤ 2:=by cases f <;> simp [Fm.kids]
    omega
theorem n5 {v:Value} {f:Fm} {w:World} (hs:FmS w v f) (hg:f.good) (hn:f.size ≤ 1099511627776):Cal Tryz.prog zX #[v] w fun r w'=>Ext w w' ∧ TxW w.heap.size w' r (f.kids.map Fm.body):=by
 apply NU;unfold yZ
 refine iCall ((R3 hs hn).mono ?_)
 rintro u w1 ⟨x1,vs,hsl,hf⟩
 refine iLenS hsl ?_
 have hkl:f.kids.length ≤ 2:=by cases f <;> simp [Fm.kids]
 have hvl:=hf.1
 refine iLp (fun s:Value × Nat=>[s.1,.int .i64 (s.2:Int)]) (fun s w'=>s.2 ≤ f.kids.length ∧ Ext w1 w' ∧ TxW w1.heap.size w' s.1 ((f.kids.take s.2).map Fm.body)) (fun s=>f.kids.length - s.2) (.slice none 0 0,0) rfl ⟨Nat.zero_le _,Ext.refl _,Ow.nil _ _ _⟩ ?_
 rintro ⟨r,k⟩ w2 Kn ⟨hk,x2,ho⟩ hKn
 have hk:k ≤ f.kids.length:=hk
 have ho:TxW w1.heap.size w2 r ((f.kids.take k).map Fm.body):=ho
 intro _
 simp only [gx]
 refine iLt ?_
 refine iCndP (fun h=>?_) (fun h=>?_)
 ·have hkk:k < f.kids.length:=by omega
  obtain ⟨a,ha1,ha2⟩:=hf.2 k hkk
  rw [aAL hkk] at ha2
  refine iIa (j:=(k:Int)) (hsl.ext x2) (by omega) (by omega) fun p hp=>?_
  have hp:w2.cell? p = some a:=hp.trans (by rw [Int.toNat_natCast];exact ha1)
  refine iLd hp ?_
  have hm:f.kids[k] ∈ f.kids:=List.getElem_mem _
  have:=YU _ hm
  refine iRet (bS (ha2.ext x2) (YZ hg _ hm) (by omega)) fun w3 x3=>?_
  have ho3:=ho.ext x3
  refine iApp1 qH pU rfl ho3 rfl (by rw [cB,List.length_map,List.length_take];omega) (by rw [cB,List.length_map,List.length_take];omega) (x2.trans x3).size fun r' w5 ho5 hg5=>?_
  refine iAdd (by omega) ?_
  refine hKn (r',k + 1) _ ⟨hkk,(x2.trans x3).grown hg5 fun b hb=>(ho3.blk b hb).1,?_⟩ (by show f.kids.length - (k + 1) < f.kids.length - k;omega)
  show TxW _ _ _ _
  rw [List.take_succ_eq_append_getElem hkk,List.map_append,List.map_singleton]
  rw [WY] at ho5
  exact ho5
 ·have:k = f.kids.length:=by omega
  subst this
  rw [List.take_length] at ho
  exact ⟨x1.trans x2,ho.mono x1.size⟩
theorem uQ {v va vb:Value} {a b:Fm} {w:World} (hs:Sl w v [va,vb]) (ha:FmS w va a) (hb:FmS w vb b) (hsz:(Fm.imp a b).size ≤ 1099511627776):Cal Tryz.prog jX #[v] w fun r w'=>Ext w w' ∧ FmW w.heap.size w' r (.imp a b):=by
 apply zV;unfold qW
 refine iLenS hs ?_
 refine iSub (by simp) ?_
 refine iIa (j:=1) hs (by omega) (by simp) fun p hp=>?_
 have hp:w.cell? p = some vb:=hp
 refine iLd hp ?_
 refine iLenS hs ?_
 refine iSub (by simp) ?_
 refine iLp (fun s:Value × Nat=>[s.1,.int .i64 ((s.2:Int) - 1)]) (fun s w'=>(s.2 = 1 ∧ s.1 = vb ∧ w' = w) ∨ (s.2 = 0 ∧ Ext w w' ∧ FmW w.heap.size w' s.1 (.imp a b))) (fun s=>s.2) (vb,1) rfl (.inl ⟨rfl,rfl,rfl⟩) ?_
 rintro ⟨u,s⟩ w2 Kn (⟨h1,h2,h3⟩ | ⟨h1,x2,ho⟩) hKn
 ·have h1:s = 1:=h1
  have h2:u = vb:=h2
  subst h1;subst h2;subst h3
  intro _
  simp only [gx]
  refine iLe (iCndT (by decide) ?_)
  refine iIa (j:=0) hs (by omega) (by simp) fun p hp=>?_
  have hp:w2.cell? p = some va:=hp
  refine iLd hp ?_
  refine iCall ((dP (k:=4) (c:=.imp a b) rfl rfl ha hb hsz).mono ?_)
  rintro r w3 ⟨x3,ho⟩
  refine iSub (by simp) ?_
  exact hKn (r,0) _ (.inr ⟨rfl,x3,ho⟩) (by simp)
 ·have h1:s = 0:=h1
  subst h1
  intro _
  simp only [gx]
  refine iLe (iCndF (by decide) ?_)
  exact ⟨x2,ho⟩
theorem P9 {v va vb vc:Value} {a b c:Fm} {w:World} (hs:Sl w v [va,vb,vc]) (ha:FmS w va a) (hb:FmS w vb b) (hc:FmS w vc c) (hsz:(Fm.imp a (.imp b c)).size ≤ 1099511627776):Cal Tryz.prog jX #[v] w fun r w'=>Ext w w' ∧ FmW w.heap.size w' r (.imp a (.imp b c)):=by
 apply zV;unfold qW
 refine iLenS hs ?_
 refine iSub (by simp) ?_
 refine iIa (j:=2) hs (by omega) (by simp) fun p hp=>?_
 have hp:w.cell? p = some vc:=hp
 refine iLd hp ?_
 refine iLenS hs ?_
 refine iSub (by simp) ?_
 refine iLp (fun s:Value × Nat=>[s.1,.int .i64 ((s.2:Int) - 1)]) (fun s w'=>(s.2 = 2 ∧ s.1 = vc ∧ w' = w) ∨ (s.2 = 1 ∧ Ext w w' ∧ FmW w.heap.size w' s.1 (.imp b c)) ∨ (s.2 = 0 ∧ Ext w w' ∧ FmW w.heap.size w' s.1 (.imp a (.imp b c)))) (fun s=>s.2) (vc,2) rfl (.inl ⟨rfl,rfl,rfl⟩) ?_
 have hsz2:(Fm.imp b c).size ≤ 1099511627776:=by simp only [Fm.size] at hsz ⊢;omega
 rintro ⟨u,s⟩ w2 Kn (⟨h1,h2,h3⟩ | ⟨h1,x2,ho⟩ | ⟨h1,x2,ho⟩) hKn
 ·have h1:s = 2:=h1
  have h2:u = vc:=h2
  subst h1;subst h2;subst h3
  intro _
  simp only [gx]
  refine iLe (iCndT (by decide) ?_)
  refine iIa (j:=1) hs (by omega) (by simp) fun p hp=>?_
  have hp:w2.cell? p = some vb:=hp
  refine iLd hp ?_
  refine iCall ((dP (k:=4) (c:=.imp b c) rfl rfl hb hc hsz2).mono ?_)
  rintro r w3 ⟨x3,ho⟩
  refine iSub (by simp) ?_
  exact hKn (r,1) _ (.inr (.inl ⟨rfl,x3,ho⟩)) (by simp)
 ·have h1:s = 1:=h1
  subst h1
  intro _
  simp only [gx]
  refine iLe (iCndT (by decide) ?_)
  refine iIa (j:=0) (hs.ext x2) (by omega) (by simp) fun p hp=>?_
  have hp:w2.cell? p = some va:=hp
  refine iLd hp ?_
  refine iCall ((dP (k:=4) (c:=.imp a (.imp b c)) rfl rfl (ha.ext x2) ho.sl hsz).mono ?_)
  rintro r w3 ⟨x3,ho3⟩
  refine iSub (by simp) ?_
  exact hKn (r,0) _ (.inr (.inr ⟨rfl,x2.trans x3,ho3.mono x2.size⟩)) (by simp)
 ·have h1:s = 0:=h1
  subst h1
  intro _
  simp only [gx]
  refine iLe (iCndF (by decide) ?_)
  exact ⟨x2,ho⟩
end Go.Proofs.YtbfpohbmgjcjmaaGreatDoor

namespace Go.Vc
theorem iNew2 {w:World} {e:TypeId} {a b:Value} {K:Value → World → Prop} (h:∀ q w',q = w.heap.size ∧ w'.heap.size = q + 1 → Ext w w' → Blk e w' q [a,b] → K (.pointer (some ⟨q,0,none⟩)) w'):xNew (Value.cells (.agg #[a,b])) e w K:=
 iNew fun q w' h1 h2 h3=>h q w' h1 h2 (by simpa [Value.cells] using h3)
theorem iLd2 {w:World} {e:TypeId} {q:Nat} {a b:Value} {K:Value → Prop} (hB:Blk e w q [a,b]) (h:K (.agg #[a,b])):xLdA w 2 (.pointer (some ⟨q,0,none⟩)) K:=iLdA hB rfl (by simpa using h)
theorem iSt2 {P:Program} {w:World} {e:TypeId} {q:Nat} {cs:List Value} {a b:Value} {K:World → Prop} (hB:Blk e w q cs) (hl:cs.length = 2) (ha:aF a = true) (hb:aF b = true)
  (h:∀ w',Blk e w' q [a,b] → Ch (fun d=>d = q) w w' → K w'):xStA P w 2 (.pointer (some ⟨q,0,none⟩)) (.agg #[a,b]) K:=by
 obtain ⟨w',h1,h2,h3⟩:=uS (P:=P) [a,b] 0 w cs hB (by simp [hl]) (fun v hv=>by simp at hv;rcases hv with rfl | rfl <;> assumption)
 refine ⟨_,w',rfl,rfl,?_,h w' ?_ (h2.ch rfl)⟩
 ·simpa [Value.cells] using h1
 ·rw [List.take_zero,List.nil_append,List.drop_of_length_le (by simp [hl]),List.append_nil] at h3;exact h3
theorem iBsA2 {w:World} {e:TypeId} {z0 z1 x y x' y':Value} {K:Value → World → Prop} (h:∀ b w',b = w.heap.size ∧ w'.heap.size = b + 1 → Ext w w' → Blk e w' b [x,y,x',y'] → K (.slice (some ⟨b,0,none⟩) 2 2) w'):
  xBs e (Value.cells (.agg #[z0,z1])) 2 2 [(0,.agg #[x,y]),(1,.agg #[x',y'])] w K:=by
 refine ⟨#[x,y,x',y'],?_,h _ _ ⟨rfl,by simp⟩ (Ext.alloc w _) (Blk.new w #[x,y,x',y'] e)⟩
 simp [Instr.fill,Value.cells,show Array.range 4 = #[0,1,2,3] from rfl]
theorem SlK.ofBlk {k:Nat} {e:TypeId} {w:World} {b n:Nat} {cs:List Value} (h:Blk e w b cs) (hn:cs.length = n * k) (hm:n ≤ 9223372036854775807):SlK k w (.slice (some ⟨b,0,none⟩) n n) n cs:=(OwK.ofBlk (lo:=0) h (Nat.zero_le _) hn hm).sl
theorem XA {L:List Str} {k:Nat} (h:k < L.length) (f:Str → Str):(L.take (k + 1)).flatMap f = (L.take k).flatMap f ++ f (gt L k):=by
 rw [List.take_succ_eq_append_getElem h,List.flatMap_append,gt_eq h];simp
theorem ZG (L:List Str) (k:Nat) (f:Str → Str):((L.take k).flatMap f).length ≤ (L.flatMap f).length:=by
 have:L.flatMap f = (L.take k).flatMap f ++ (L.drop k).flatMap f:=by rw [← List.flatMap_append,List.take_append_drop]
 rw [this,List.length_append];omega
end Go.Vc
namespace Go.Proofs.YtbfpohbmgjcjmaaGreatDoor
open Go.Vc
theorem aN {lo lo':Nat} {v vt:Value} {L ts:List Str} {r t:Str} {w:World} (hv:TxW lo w v L) (ht:TxW lo' w vt ts) (hl:L.length + ts.length ≤ 1099511627776):
  Cal Tryz.prog sX #[.agg #[v,sv r],sv t,vt] w fun u w'=>Ext w w' ∧ ∃ v',u = .agg #[v',sv r] ∧ TxW w.heap.size w' v' (ins L t ts):=by
 apply H6;unfold tA
 refine iNew2 fun q1 w1 hq1 x1 hB1=>?_
 refine iNew2 fun q2 w2 hq2 x2 hB2=>?_
 have hB1:=hB1.ext x2
 refine iFa (iLdB hB1 rfl ?_)
 refine iFa (iLdB hB1 rfl ?_)
 intro w3 x3
 have X3:=(x1.trans x2).trans x3
 have hd:(dropT t L).length ≤ L.length:=List.length_filter_le _ _
 refine iCall ((S7 (hv.ext X3) (by omega)).mono ?_)
 rintro u w4 ⟨x4,ho4⟩
 refine ⟨x4,fun w5 x5=>?_⟩
 refine iCall ((CQ (A:=dropT t L) (B:=ts) (ho4.ext x5).sl (ht.ext ((X3.trans x4).trans x5)).sl ho4.cell ht.cell (by omega)).mono ?_)
 rintro u' w6 ⟨x6,ho6⟩
 refine ⟨x6,?_⟩
 refine f6 ho6.cell rfl ?_
 intro w7 x7
 have X7:=((x3.trans x4).trans (x5.trans x6)).trans x7
 have hB7:=hB2.ext X7
 refine iSt2 hB7 rfl ho6.cell rfl fun w8 hB8 hc8=>?_
 intro w9 x9
 refine iLd2 (hB8.ext x9) ?_
 have ho8:TxW w5.heap.size w8 u' (ins L t ts):=(ho6.ext x7).ch hc8 fun c hc e=>by
  have h1:=(ho6.blk c hc).1
  have h2:=x5.size
  have h3:=x4.size
  have h4:=x3.size
  omega
 have hX:Ext w w8:=((x1.trans x2).trans X7).thenCh hc8 fun c hc=>by have:=x1.size;omega
 refine ⟨hX.trans x9,u',rfl,(ho8.ext x9).mono ?_⟩
 have h2:=x5.size
 have h3:=x4.size
 have h4:=X3.size
 omega
theorem LE {lo lo':Nat} {v vt:Value} {L ts:List Str} {r:Str} {w:World} (hv:TxW lo w v L) (ht:TxW lo' w vt ts) (hl:L.length + ts.length ≤ 1099511627776):
  Cal Tryz.prog zT #[.agg #[v,sv r],vt] w fun u w'=>Ext w w' ∧ ∃ v',u = .agg #[v',sv r] ∧ TxW w.heap.size w' v' (setT (L ++ ts)):=by
 apply NQ;unfold y0
 refine iNew2 fun q1 w1 hq1 x1 hB1=>?_
 refine iNew2 fun q2 w2 hq2 x2 hB2=>?_
 have hB1:=hB1.ext x2
 refine iFa (iLdB hB1 rfl ?_)
 refine iFa (iLdB hB1 rfl ?_)
 intro w3 x3
 have X3:=(x1.trans x2).trans x3
 refine iCall ((CQ (A:=L) (B:=ts) (hv.ext X3).sl (ht.ext X3).sl hv.cell ht.cell (by omega)).mono ?_)
 rintro u' w6 ⟨x6,ho6⟩
 refine ⟨x6,?_⟩
 refine f6 ho6.cell rfl ?_
 intro w7 x7
 have X7:=(x3.trans x6).trans x7
 have hB7:=hB2.ext X7
 refine iSt2 hB7 rfl ho6.cell rfl fun w8 hB8 hc8=>?_
 intro w9 x9
 refine iLd2 (hB8.ext x9) ?_
 have ho8:TxW w3.heap.size w8 u' (setT (L ++ ts)):=(ho6.ext x7).ch hc8 fun c hc e=>by
  have h1:=(ho6.blk c hc).1
  have h4:=x3.size
  omega
 have hX:Ext w w8:=((x1.trans x2).trans X7).thenCh hc8 fun c hc=>by have:=x1.size;omega
 exact ⟨hX.trans x9,u',rfl,(ho8.ext x9).mono X3.size⟩
theorem dW {v:Value} {r r':Str} {w:World} (hc:aF v = true):Ret Tryz.prog sR #[.agg #[v,sv r],sv r'] w (.agg #[v,sv r']):=by
 apply H7;unfold sV
 refine iNew2 fun q1 w1 hq1 x1 hB1=>?_
 refine iNew2 fun q2 w2 hq2 x2 hB2=>?_
 have hB1:=hB1.ext x2
 refine iFa (iLdB hB1 rfl ?_)
 refine f6 hc rfl ?_
 refine iSt2 hB2 rfl hc rfl fun w8 hB8 hc8=>?_
 refine iLd2 hB8 ⟨rfl,(x1.trans x2).thenCh hc8 fun c hc=>by have:=x1.size;omega⟩
theorem JD {v u:Value} {L:List Str} {r:Str} {w:World} (hv:SlT w v L) (hu:SlT w u [r]) (hl:(L.flatMap (fun t=>t ++ [47])).length + r.length ≤ 1152921504606846976):
  Ret Tryz.prog xD #[.agg #[v,u]] w (sv (keyT L r)):=by
 apply LD;unfold xP
 refine iNew2 fun q w1 hq x1 hB=>?_
 refine iFa (iLdB hB rfl ?_)
 refine fI (hv.ext x1) ?_
 have hln:=hv.len
 rw [cB] at hln
 refine iLp (fun k:Nat=>[sv ((L.take k).flatMap fun t=>t ++ [47]),.int .i64 (k:Int)]) (fun k w'=>k ≤ L.length ∧ w' = w1) (fun k=>L.length - k) 0 rfl ⟨Nat.zero_le _,rfl⟩ ?_
 rintro k w2 Kn ⟨hk,rfl⟩ hKn
 intro _
 simp only [gx]
 refine iLt ?_
 refine iCndP (fun h=>?_) (fun h=>?_)
 ·have hk':k < L.length:=by omega
  have e:=XA hk' fun t=>t ++ [47]
  have hle:=ZG L (k + 1) fun t=>t ++ [47]
  rw [e,List.length_append,List.length_append,List.length_singleton] at hle
  refine iIaG (hv.ext x1) rfl hk' ?_
  refine iCat (b:=[47]) (by simp only [List.length_singleton];omega) ?_
  refine iCat (by rw [List.length_append,List.length_singleton];omega) ?_
  refine iAdd (by omega) ?_
  rw [← e]
  exact hKn (k + 1) _ ⟨hk',rfl⟩ (by omega)
 ·have:k = L.length:=by omega
  subst this
  rw [List.take_length]
  refine iCat (b:=[59]) (by simp only [List.length_singleton];omega) ?_
  refine iFa (iLdB hB rfl ?_)
  refine fI (hu.ext x1) ?_
  refine iLp (fun k:Nat=>[sv (if k = 0 then (L.flatMap fun t=>t ++ [47]) ++ [59] else keyT L r),.int .i64 (k:Int)]) (fun k w'=>k ≤ 1 ∧ w' = w2) (fun k=>1 - k) 0 rfl ⟨Nat.zero_le _,rfl⟩ ?_
  rintro k w3 Kn ⟨hk,rfl⟩ hKn
  intro _
  simp only [gx]
  refine iLt ?_
  refine iCndP (fun h=>?_) (fun h=>?_)
  ·have hk0:k = 0:=by simp at h;omega
   subst hk0
   rw [if_pos rfl]
   refine iIaG (hu.ext x1) rfl (by simp) ?_
   refine iCat (b:=[47]) (by show r.length + 1 ≤ _;omega) ?_
   refine iCat (by show ((L.flatMap fun t=>t ++ [47]) ++ [59]).length + (r ++ [47]).length ≤ _;simp only [List.length_append,List.length_singleton];omega) ?_
   refine iAdd (by omega) ?_
   refine cast ?_ (hKn 1 w3 ⟨Nat.le_refl _,rfl⟩ (by omega))
   rw [if_neg (by omega)]
   simp [keyT,gt]
  ·have hk1:k = 1:=by simp at h;omega
   subst hk1
   rw [if_neg (by omega)]
   exact ⟨rfl,x1⟩
def GlR (w:World) (x:Value) (ps:List Sq):Prop:=∃ xs,SlK 2 w x ps.length xs ∧ ∀ i p,ps[i]? = some p → ∃ v,xs[i * 2 + 0]? = some v ∧ xs[i * 2 + 1]? = some (sv p.2) ∧ TxW 0 w v p.1
theorem GlR.ext {w w':World} {x:Value} {ps:List Sq} (h:GlR w x ps) (k:Ext w w'):GlR w' x ps:=by
 obtain ⟨xs,h1,h2⟩:=h
 exact ⟨xs,h1.ext k,fun i p hp=>by obtain ⟨v,a,b,c⟩:=h2 i p hp;exact ⟨v,a,b,c.ext k⟩⟩
theorem GlR.one {w:World} {e:TypeId} {b lo:Nat} {v:Value} {p:Sq} (hB:Blk e w b [v,sv p.2]) (hv:TxW lo w v p.1):GlR w (.slice (some ⟨b,0,none⟩) 1 1) [p]:=
 ⟨_,SlK.ofBlk (n:=1) hB rfl (by decide),fun i q hq=>by
  rcases i with _ | i
  ·simp only [List.getElem?_cons_zero,Option.some.injEq] at hq
   subst hq
   exact ⟨v,rfl,rfl,hv.mono (Nat.zero_le _)⟩
  ·simp at hq⟩
theorem GlR.two {w:World} {e:TypeId} {b lo lo':Nat} {v u:Value} {p q:Sq} (hB:Blk e w b [v,sv p.2,u,sv q.2]) (hv:TxW lo w v p.1) (hu:TxW lo' w u q.1):GlR w (.slice (some ⟨b,0,none⟩) 2 2) [p,q]:=
 ⟨_,SlK.ofBlk (n:=2) hB rfl (by decide),fun i s hs=>by
  rcases i with _ | _ | i
  ·simp only [List.getElem?_cons_zero,Option.some.injEq] at hs
   subst hs
   exact ⟨v,rfl,rfl,hv.mono (Nat.zero_le _)⟩
  ·simp only [Nat.zero_add,List.getElem?_cons_succ,List.getElem?_cons_zero,Option.some.injEq] at hs
   subst hs
   exact ⟨u,rfl,rfl,hu.mono (Nat.zero_le _)⟩
  ·simp at hs⟩
end Go.Proofs.YtbfpohbmgjcjmaaGreatDoor

namespace Go.Vc
theorem iWrOq {e:TypeId} {lo:Nat} {w:World} {v:Value} {xs:List Value} {z:Int} {j:Nat} {k:IntKind} {A:Value → Prop} (hs:Ow lo e w v xs) (hz:z = (j:Int)) (hj:j < xs.length)
  (h:∀ q,(∀ (w':World) (x:Value) (K:World → Prop),Ow lo e w' v xs → aF x = true → (∀ w'',Ow lo e w'' v (xs.set j x) → Ch (fun c=>v.ownBlock = some c) w' w'' → K w'') → xSt w' q x K) → A q):xIa 1 v (.int k z) A:=by
 subst hz
 obtain ⟨_,⟨_,h0⟩ | ⟨g,cap,cur,rfl,hg,hh,h1,h2,h3,h4⟩⟩:=hs
 ·omega
 refine ⟨_,_,_,_,_,rfl,rfl,by omega,by omega,?_⟩
 rw [Int.toNat_natCast,bF,Nat.zero_add,Nat.mul_one]
 refine h _ fun w' x K ho hx hK=>?_
 obtain ⟨_,⟨_,h0⟩ | ⟨g',cap',cur',e1,hg',hh',k1,k2,k3,k4⟩⟩:=ho
 ·omega
 cases e1
 have hB:Blk e w' g cur'.toList:=by unfold Blk;rw [Array.toArray_toList];exact hh'
 have hcl:cur'.toList.length = cap:=by simpa using k3
 refine iStU hB (by omega) hx fun w'' hB' hu=>?_
 refine hK w'' ⟨by rw [Nat.mul_one],.inr ⟨g,cap,(cur'.toList.set j x).toArray,by rw [List.length_set],hg',hB',by rw [List.length_set];exact k1,k2,by simpa using k3,?_⟩⟩ (hu.ch (S:=fun c=>_ = some c) rfl)
 rw [List.length_set,List.take_set,k4]
def ImgN (eN ei:TypeId) (w0 w:World) (vi:Value) (g:Nat → Option Fm):Prop:=∃ us,us.length = 6 ∧ Ow w0.heap.size ei w vi us ∧ ∀ v,v < 6 → match g v with
 | none=>us[v]? = some (.slice none 0 0)
 | some y=>∃ u,us[v]? = some u ∧ OwK 2 w0.heap.size eN w u y.size y.cells ∧ y.size ≤ 1000000
theorem ImgN.ext {eN ei:TypeId} {w0 w w':World} {vi:Value} {g:Nat → Option Fm} (h:ImgN eN ei w0 w vi g) (x:Ext w w'):ImgN eN ei w0 w' vi g:=by
 obtain ⟨us,a1,a2,a3⟩:=h
 refine ⟨us,a1,a2.ext x,fun v hv=>?_⟩
 have:=a3 v hv
 cases hg:g v with
 | none=>rw [hg] at this;exact this
 | some y=>
  rw [hg] at this
  obtain ⟨u,c1,c2,c3⟩:=this
  exact ⟨u,c1,OwK.ext c2 x,c3⟩
theorem ImgN.none {eN ei:TypeId} {w0 w:World} {vi:Value} {g:Nat → Option Fm} {v:Nat} {k:IntKind} {K:Value → Prop} (h:ImgN eN ei w0 w vi g) (hv:v < 6) (hg:g v = none) (hK:K (.slice none 0 0)):xIa 1 vi (.int k (v:Int)) fun p=>xLd w p K:=by
 obtain ⟨us,a1,a2,a3⟩:=h
 have:=a3 v hv
 rw [hg] at this
 refine iIa (j:=(v:Int)) a2.sl (by omega) (by omega) fun p hp=>?_
 rw [Int.toNat_natCast,this] at hp
 exact iLd hp hK
theorem ImgN.get {eN ei:TypeId} {w0 w:World} {vi:Value} {g:Nat → Option Fm} {v:Nat} {y:Fm} {k:IntKind} {K:Value → Prop} (h:ImgN eN ei w0 w vi g) (hv:v < 6) (hg:g v = some y) (hK:∀ u,SlK 2 w u y.size y.cells → y.size ≤ 1000000 → K u):xIa 1 vi (.int k (v:Int)) fun p=>xLd w p K:=by
 obtain ⟨us,a1,a2,a3⟩:=h
 have:=a3 v hv
 rw [hg] at this
 obtain ⟨u,c1,c2,c3⟩:=this
 refine iIa (j:=(v:Int)) a2.sl (by omega) (by omega) fun p hp=>?_
 rw [Int.toNat_natCast,c1] at hp
 exact iLd hp (hK u c2.sl c3)
theorem TK {k n:Nat} {w:World} {v:Value} {xs:List Value} (h:SlK k w v n xs):isSl v:=by
 obtain ⟨_,a,c,rfl,_⟩:=h
 exact trivial
end Go.Vc
namespace Go.Proofs.YtbfpohbmgjcjmaaGreatDoor
open Go.Vc
theorem R8 {v0 v1:Value} {p a:Fm} {w:World} (h0:FmS w v0 p) (h1:FmS w v1 a) (hp:p.good) (hps:p.size ≤ 1000000) (has:a.size ≤ 1000000):Cal Tryz.prog JX #[v0,v1] w fun r w'=>Ext w w' ∧ ∃ u,r = .tuple #[u,.bool (aY p.size [p] [a] fun _=>none).isSome]:=by
 apply S2;unfold JB
 refine iMk (n:=6) (by decide) (by decide) rfl fun b w1 hb x1 hB=>?_
 obtain ⟨v12,hv12⟩:∃ v,v = Value.slice (some ⟨b,0,none⟩) 6 6:=⟨_,rfl⟩
 rw [← hv12]
 have hI:ImgN aA aB w w1 v12 fun _=>none:=⟨List.replicate 6 (.slice none 0 0),rfl,by rw [hv12];exact Ow.ofBlk (n:=6) hB (by omega) rfl (by decide),fun v hv=>by
  show (List.replicate 6 (Value.slice none 0 0))[v]? = some (.slice none 0 0)
  rw [List.getElem?_replicate,if_pos hv]⟩
 refine iLenK h0 ?_
 refine iLp (fun s:Nat × Nat × List Fm × List Fm × (Nat → Option Fm)=>[.int .i64 (s.2.1:Int),.int .i64 (s.1:Int)]) (fun s w'=>MtI w p a s w' ∧ ImgN aA aB w w' v12 s.2.2.2.2) (fun s=>p.size - s.1) (0,0,[p],[a],fun _=>none) rfl
  ⟨⟨by simp [aJ],by simp [aJ],by simp [sizeL],by simp [sizeL],rfl,by simpa using hp,x1,by simp [sizeL]⟩,hI⟩ ?_
 rintro ⟨i,at_,fs,xs,g⟩ w3 Kn ⟨⟨hd0,hd1,hs0,hs1,hll,hgd,x3,hm⟩,hI3⟩ hKn
 have hd0:p.cells.drop (i * 2) = aJ fs ++ []:=hd0
 have hd1:a.cells.drop (at_ * 2) = aJ xs ++ []:=hd1
 have hs0:i + sizeL fs = p.size:=hs0
 have hs1:at_ + sizeL xs = a.size:=hs1
 have hll:fs.length = xs.length:=hll
 have hgd:∀ f ∈ fs,f.good:=hgd
 have x3:Ext w w3:=x3
 have hm:aY (sizeL fs) fs xs g = aY p.size [p] [a] fun _=>none:=hm
 have hIq:ImgN aA aB w w3 v12 g:=hI3
 intro _
 simp only [gx]
 refine iLt ?_
 cases fs with
 | nil=>
  have hx:xs = []:=List.length_eq_zero_iff.1 hll.symm
  subst hx
  simp [sizeL] at hs0 hs1
  refine iCndF (decide_eq_false (by omega)) ?_
  have hres:(aY p.size [p] [a] fun _=>none).isSome = true:=by rw [← hm];rfl
  rw [hres]
  obtain ⟨us,a1,a2,a3⟩:=hIq
  refine iLenS a2.sl ?_
  rw [a1]
  have hsl:∀ j,j < 6 → ∃ u,us[j]? = some u ∧ isSl u:=fun j hj=>by
   have:=a3 j hj
   cases hg:g j with
   | none=>rw [hg] at this;exact ⟨_,this,trivial⟩
   | some y=>
    rw [hg] at this
    obtain ⟨u,c1,c2,_⟩:=this
    exact ⟨u,c1,TK c2.sl⟩
  refine iLp (fun j:Nat=>[.int .i64 (j:Int)]) (fun j w'=>j ≤ 6 ∧ Ext w w' ∧ ∃ us,us.length = 6 ∧ Ow w.heap.size aB w' v12 us ∧ ∀ j,j < 6 → ∃ u,us[j]? = some u ∧ isSl u) (fun j=>6 - j) 0 rfl ⟨Nat.zero_le _,x3,us,a1,a2,hsl⟩ ?_
  clear a1 a2 a3 hsl us
  rintro j w17 Kk ⟨hj,x17,us,a1,a2,a3⟩ hKk
  intro _
  simp only [gx]
  refine iLt (iCndP (fun hlt=>?_) (fun hlt=>⟨x17,v12,rfl⟩))
  have hj6:j < 6:=by omega
  obtain ⟨u,c1,c2⟩:=a3 j hj6
  refine iIa (j:=(j:Int)) a2.sl (by omega) (by omega) fun q hq=>?_
  rw [Int.toNat_natCast,c1] at hq
  refine iLd hq ⟨c2,rfl,?_⟩
  refine iCnd (fun _=>?_) (fun _=>iAdd (by omega) (hKk (j + 1) _ ⟨hj6,x17,us,a1,a2,a3⟩ (by omega)))
  refine iCall ((zG j w17).mono ?_)
  rintro v77 w18 ⟨x18,h77⟩
  refine iWrO (j:=j) (a2.ext x18) rfl (by omega) (OwK.cell h77) fun w19 ho19 hc19=>?_
  refine iAdd (by omega) ?_
  refine hKk (j + 1) _ ⟨hj6,(x17.trans x18).thenCh hc19 fun c hc=>(a2.blk c hc).1,us.set j v77,by rw [List.length_set];exact a1,ho19,fun k hk=>?_⟩ (by omega)
  by_cases e:k = j
  ·subst e
   exact ⟨v77,by rw [List.getElem?_set_self (by omega)],TK h77.sl⟩
  ·obtain ⟨u',d1,d2⟩:=a3 k hk
   exact ⟨u',by rw [List.getElem?_set_ne (fun h=>e h.symm)];exact d1,d2⟩
 | cons f fs=>
  obtain ⟨x,xs,rfl⟩:∃ y ys,xs = y :: ys:=by
   cases xs with
   | nil=>simp at hll
   | cons y ys=>exact ⟨y,ys,rfl⟩
  have sf:sizeL (f :: fs) = f.size + sizeL fs:=by simp [sizeL]
  have sx:sizeL (x :: xs) = x.size + sizeL xs:=by simp [sizeL]
  have pf:=f.size_pos
  have px:=x.size_pos
  obtain ⟨k0,k1,k2⟩:=qK hd0
  obtain ⟨l0,l1,l2⟩:=qK hd1
  have hff:f.good:=hgd f (List.mem_cons_self ..)
  refine iCndT (decide_eq_true (by omega)) ?_
  refine iLdK (cs:=#[.int .i64 (f.kind:Int),.int .i64 (f.sym:Int)]) (SlK.ext h0 x3) rfl (by omega) rfl (fun j hj=>by rcases j with _ | _ | j;exact k0;exact k1;omega) ?_
  refine iNew2 fun q w4 hq x4 hB4=>?_
  refine iStAB hB4 rfl rfl (fun y hy=>by
   simp only [List.mem_cons,List.not_mem_nil,or_false] at hy
   rcases hy with rfl | rfl <;> rfl) fun w5 hu5 hB5=>?_
  have hB5:Blk aA w5 q [.int .i64 (f.kind:Int),.int .i64 (f.sym:Int)]:=hB5
  have x35:Ext w3 w5:=x4.upd hu5 (by omega)
  have x5:=x3.trans x35
  have hI5:=hIq.ext x35
  refine iLenK (SlK.ext h1 x5) (iLe (iCndF (decide_eq_false (by omega)) ?_))
  refine iFa (iLdB hB5 (i:=0) (v:=.int .i64 (f.kind:Int)) rfl ?_)
  refine iNe (iCndP (fun hk=>?_) (fun hk=>?_))
  ·have hk:¬ f.kind = 0:=by omega
   refine iLdK (cs:=#[.int .i64 (x.kind:Int),.int .i64 (x.sym:Int)]) (SlK.ext h1 x5) rfl (by omega) rfl (fun j hj=>by rcases j with _ | _ | j;exact l0;exact l1;omega) ?_
   refine iLdA hB5 rfl ?_
   refine yR (t0:=2) (t1:=2) (by kernel_rfl) (by kernel_rfl) (by kernel_rfl) (by kernel_rfl) (by kernel_rfl) (by kernel_rfl) ?_
   intro w8 x8
   have hsym:f.kind = x.kind → f.sym = x.sym:=fun e=>by
    cases f <;> cases x <;> first | rfl | exact absurd rfl hk | cases e
   have hst:aY (sizeL (f :: fs)) (f :: fs) (x :: xs) g = if f.kind = x.kind then aY (sizeL (f.kids ++ fs)) (f.kids ++ fs) (x.kids ++ xs) g else none:=by
    have:sizeL (f :: fs) = sizeL (f.kids ++ fs) + 1:=by
     rw [sf,bY]
     have:=f.size_kids
     omega
    rw [this,oH hk]
   rw [hst] at hm
   refine iCndP (fun h=>?_) (fun h=>?_)
   ·have hne:¬ f.kind = x.kind:=fun e=>h ⟨by omega,by have:=hsym e;omega⟩
    rw [if_neg hne] at hm
    refine ⟨x5.trans x8,.slice none 0 0,?_⟩
    rw [← hm];rfl
   ·have he:f.kind = x.kind:=by
     have:=(Classical.not_not.1 h).1
     omega
    rw [if_pos he] at hm
    have hfk:=f.size_kids
    have hxk:=x.size_kids
    refine iAdd (by omega) (iAdd (by omega) ?_)
    refine hKn (i + 1,at_ + 1,f.kids ++ fs,x.kids ++ xs,g) _ ⟨⟨k2,l2,by show i + 1 + sizeL (f.kids ++ fs) = _;rw [bY];omega,by show at_ + 1 + sizeL (x.kids ++ xs) = _;rw [bY];omega,?_,?_,x5.trans x8,hm⟩,ImgN.ext hI5 x8⟩ (by show p.size - (i + 1) < p.size - i;omega)
    ·show (f.kids ++ fs).length = (x.kids ++ xs).length
     rw [List.length_append,List.length_append,FV he]
     have hll:fs.length + 1 = xs.length + 1:=hll
     omega
    ·intro y hy
     rcases List.mem_append.1 hy with hy | hy
     ·exact NC hff y hy
     ·exact hgd y (List.mem_cons_of_mem _ hy)
  ·have hk0:f.kind = 0:=by
    have:=Classical.not_not.1 hk
    omega
   obtain ⟨v,rfl⟩:∃ v,f = .var v:=by
    cases f with
    | var v=>exact ⟨v,rfl⟩
    | _=>cases hk0
   have hv6:v < 6:=hff
   have one:(Fm.var v).size = 1:=rfl
   have hd1':a.cells.drop (at_ * 2) = x.cells ++ aJ xs:=by rw [hd1];simp [aJ]
   have hst:aY (sizeL (Fm.var v :: fs)) (Fm.var v :: fs) (x :: xs) g = if g v = none ∨ g v = some x then aY (sizeL fs) fs xs (updO g v x) else none:=by
    rw [sf,one,Nat.add_comm,aY]
   rw [hst] at hm
   refine iCall ((qZ (SlK.ext h1 x5) hd1' (by omega) (by omega)).mono ?_)
   rintro u w7 ⟨x7,hu7⟩
   have hI7:=hI5.ext x7
   have hB7:=hB5.ext x7
   have sym:∀ {w':World} {K:Value → Prop},Ext w7 w' → K (.int .i64 (v:Int)) → xFa 1 (.pointer (some ⟨q,0,none⟩)) fun p=>xLd w' p K:=fun x h=>iFa (iLdB (hB7.ext x) (i:=1) (v:=.int .i64 (v:Int)) rfl h)
   refine iJnX (fun ys w'=>ys = [.bool (!decide (g v = none ∨ g v = some x))] ∧ Ext w7 w') (fun J hJ=>?_) ?_
   ·refine sym (Ext.refl _) ?_
    cases hg:g v with
    | none=>
     refine ImgN.none hI7 hv6 hg ⟨trivial,rfl,iCndF rfl (hJ _ _ ⟨?_,Ext.refl _⟩)⟩
     rw [hg];simp
    | some y=>
     refine ImgN.get hI7 hv6 hg fun z hz hzs=>?_
     have hzp:=y.size_pos
     obtain ⟨n1,n2⟩:=TC (FmS.rawS hz) (by rw [aG];omega)
     refine ⟨n1,rfl,iCndT (by rw [n2];rfl) (sym (Ext.refl _) ?_)⟩
     refine ImgN.get hI7 hv6 hg fun z' hz' _=>?_
     refine iRet (kY (FmS.rawS hz') (FmS.rawS hu7)) fun w10 x10=>iNot (hJ _ _ ⟨?_,x10⟩)
     have:decide (rawF y = rawF x) = decide (y = x):=decide_eq_decide.2 ⟨pT,fun e=>by rw [e]⟩
     rw [hg,this];simp
   rintro _ w9 ⟨rfl,x9⟩
   intro _
   simp only [gx]
   have X9:=(x5.trans x7).trans x9
   by_cases hok:g v = none ∨ g v = some x
   ·rw [decide_eq_true hok]
    rw [if_pos hok] at hm
    refine iCndF rfl (sym x9 ?_)
    intro w11 x11
    have hu11:=SlK.ext hu7 (x9.trans x11)
    refine iCall ((mV (FmS.rawS hu11) (by rw [aG];omega) (by rw [aG];omega)).mono ?_)
    rintro v57 w12 ⟨x12,h57⟩
    refine ⟨x12,?_⟩
    have h57:OwK 2 w11.heap.size aA w12 v57 x.size x.cells:=by
     unfold RawW at h57
     rw [aG,a9] at h57
     exact h57
    have X12:=(X9.trans x11).trans x12
    obtain ⟨us,a1,a2,a3⟩:=hI7.ext ((x9.trans x11).trans x12)
    refine iWrOq (j:=v) a2 rfl (by omega) fun q58 wr=>?_
    intro w13 x13
    refine wr w13 v57 _ (a2.ext x13) (OwK.cell h57) fun w14 ho14 hc14=>?_
    intro w15 x15
    have off:∀ {k n lo:Nat} {e:TypeId} {u:Value} {xs:List Value},OwK k lo e w13 u n xs → e ≠ aB → OwK k lo e w15 u n xs:=fun h hne=>OwK.ext (OwK.ch h hc14 fun c hc hS=>by
     obtain ⟨cur,hh⟩:=(a2.ext x13).ty hS
     exact OwK.ne_blk h (show Blk aB w13 c cur.toList by unfold Blk;rw [hh]) hne hc) x15
    have X15:Ext w w15:=((X12.trans x13).thenCh hc14 fun c hc=>(a2.blk c hc).1).trans x15
    refine iLenK hu7 (iAdd (by omega) (iAdd (by omega) ?_))
    have hd2:a.cells.drop ((at_ + x.size) * 2) = aJ xs ++ []:=by
     rw [show (at_ + x.size) * 2 = at_ * 2 + x.cells.length by rw [x.cells_len];omega,← List.drop_drop,hd1',List.drop_left,List.append_nil]
    refine hKn (i + 1,at_ + x.size,fs,xs,updO g v x) _ ⟨⟨k2,hd2,by show i + 1 + sizeL fs = _;omega,by show at_ + x.size + sizeL xs = _;omega,by have hll:fs.length + 1 = xs.length + 1:=hll;show fs.length = xs.length;omega,fun y hy=>hgd y (List.mem_cons_of_mem _ hy),X15,hm⟩,⟨us.set v v57,by rw [List.length_set];exact a1,ho14.ext x15,fun k hk=>?_⟩⟩ (by show p.size - (i + 1) < p.size - i;omega)
    show match updO g v x k with
     | none=>(us.set v v57)[k]? = some (.slice none 0 0)
     | some y=>∃ u,(us.set v v57)[k]? = some u ∧ OwK 2 w.heap.size aA w15 u y.size y.cells ∧ y.size ≤ 1000000
    by_cases e:k = v
    ·subst e
     rw [show updO g k x k = some x from if_pos rfl]
     exact ⟨v57,by rw [List.getElem?_set_self (by omega)],OwK.mono (off (OwK.ext h57 x13) (by decide)) (X9.trans x11).size,by omega⟩
    ·rw [show updO g v x k = g k from if_neg e,List.getElem?_set_ne (fun h=>e h.symm)]
     have:=a3 k hk
     cases hg:g k with
     | none=>rw [hg] at this;exact this
     | some y=>
      rw [hg] at this
      obtain ⟨u',c1,c2,c3⟩:=this
      exact ⟨u',c1,off (OwK.ext c2 x13) (by decide),c3⟩
   ·rw [decide_eq_false hok]
    rw [if_neg hok] at hm
    refine iCndT rfl ⟨X9,.slice none 0 0,?_⟩
    rw [← hm];rfl
theorem IV {k:Nat} (hk:k < 19) {v:Value} {a:Fm} {w:World} (hT:SchOk w) (h:FmS w v a) (has:a.size ≤ 1000000):Ret Tryz.prog xT #[.int .i64 (k:Int),v] w (.bool (mtc k a)):=by
 apply LA;unfold xM
 refine iCall ((QH hk hT).mono ?_)
 rintro u w1 ⟨x1,hu⟩
 refine iCall ((R8 hu.sl (SlK.ext h x1) (BU hk) (by have:=wA ⟨k,hk⟩;have:(schF k).size ≤ 40:=this;omega) has).mono ?_)
 rintro _ w2 ⟨x2,u2,rfl⟩
 exact iE20 (iE21 ⟨rfl,x1.trans x2⟩)
end Go.Proofs.YtbfpohbmgjcjmaaGreatDoor

namespace Go.Vc
structure HV where
 x:HL
 v:Value
instance:Inhabited HV:=⟨⟨default,.slice none 0 0⟩⟩
def HV.cs (y:HV):List Value:=[.int .i64 y.x.rule,.int .i64 y.x.first,.int .i64 y.x.second,y.v]
def bD (R:List HV):List Value:=R.flatMap HV.cs
theorem yN (R:List HV):(bD R).length = R.length * 4:=by
 induction R with
 | nil=>rfl
 | cons x R ih=>rw [bD,List.flatMap_cons,List.length_append,← bD,ih,List.length_cons];simp [HV.cs];omega
theorem FT (A B:List HV):bD (A ++ B) = bD A ++ bD B:=by simp [bD]
theorem BO:∀ {R:List HV} {j:Nat},j < R.length → ∀ k,k < 4 → (bD R)[j * 4 + k]? = (gt R j).cs[k]?
 | [],j,h,_,_=>absurd h (Nat.not_lt_zero j)
 | x :: R,0,_,k,hk=>by
  rw [show bD (x :: R) = x.cs ++ bD R by simp [bD],Nat.zero_mul,Nat.zero_add,List.getElem?_append_left (by simp [HV.cs];omega)]
  rfl
 | x :: R,j + 1,h,k,hk=>by
  have:=BO (R:=R) (j:=j) (by simpa using h) k hk
  rw [show bD (x :: R) = x.cs ++ bD R by simp [bD],show (j + 1) * 4 + k = j * 4 + k + 4 by omega,List.getElem?_append_right (by simp [HV.cs])]
  rw [show j * 4 + k + 4 - x.cs.length = j * 4 + k by simp [HV.cs]]
  exact this
theorem T0 (R:List HV) (k:Nat):(bD R).take (k * 4) = bD (R.take k):=by
 rcases Nat.lt_or_ge R.length k with h | h
 ·rw [List.take_of_length_le (by rw [yN];omega),List.take_of_length_le (by omega)]
 ·conv=>lhs;rw [← List.take_append_drop k R,FT]
  rw [List.take_append_of_le_length (by rw [yN,List.length_take];omega),List.take_of_length_le (by rw [yN,List.length_take];omega)]
structure RdH (w:World) (v:Value) (R:List HV):Prop where
 row:SlK 4 w v R.length (bD R)
 fm:∀ y ∈ R,RawS w y.v y.x.N
theorem RdH.ext {w w':World} {v:Value} {R:List HV} (h:RdH w v R) (x:Ext w w'):RdH w' v R:=⟨SlK.ext h.row x,fun y hy=>SlK.ext (h.fm y hy) x⟩
theorem iFdH {w:World} {v u:Value} {R:List HV} {z:Int} {j f:Nat} {k:IntKind} {K:Value → Prop} (hs:RdH w v R) (hz:z = (j:Int)) (hj:j < R.length) (hf:f < 4) (hx:(gt R j).cs[f]? = some u) (h:K u):xIa 4 v (.int k z) fun p=>xFa f p fun q=>xLd w q K:=
 iFld hs.row hz hj hf (by rw [BO hj f hf];exact hx) h
theorem bR {R:List HV} {j:Nat} (hj:j < R.length):gt (R.map HV.x) j = (gt R j).x:=by
 rw [gt_eq (by rw [List.length_map];exact hj),gt_eq hj,List.getElem_map]
theorem GA:∀ {n:Nat} {L:List Int},L.Nodup → (∀ z ∈ L,0 ≤ z ∧ z < (n:Int)) → L.length ≤ n
 | 0,L,_,h=>by
  cases L with
  | nil=>exact Nat.le_refl _
  | cons z L=>
   have:=h z (List.mem_cons_self ..)
   omega
 | n + 1,L,hn,h=>by
  have h1:(L.filter fun z=>decide (z ≠ (n:Int))).length ≤ n:=GA (List.Nodup.sublist List.filter_sublist hn) fun z hz=>by
   have h2:=List.mem_filter.1 hz
   have h3:=h z h2.1
   have h4:=of_decide_eq_true h2.2
   omega
  have h2:(L.filter fun z=>!decide (z ≠ (n:Int))).length ≤ 1:=by
   have hnd:(L.filter fun z=>!decide (z ≠ (n:Int))).Nodup:=List.Nodup.sublist List.filter_sublist hn
   have hall:∀ z ∈ (L.filter fun z=>!decide (z ≠ (n:Int))),z = (n:Int):=fun z hz=>by
    have:=(List.mem_filter.1 hz).2
    simpa using this
   generalize (L.filter fun z=>!decide (z ≠ (n:Int))) = M at hnd hall
   match M,hnd,hall with
   | [],_,_=>exact Nat.zero_le _
   | [a],_,_=>exact Nat.le_refl _
   | a :: b :: M,hnd,hall=>
    have ha:=hall a (List.mem_cons_self ..)
    have hb:=hall b (List.mem_cons_of_mem _ (List.mem_cons_self ..))
    rw [List.nodup_cons] at hnd
    exact absurd (ha.trans hb.symm ▸ List.mem_cons_self ..) hnd.1
  have h3:L.length = (L.filter fun z=>decide (z ≠ (n:Int))).length + (L.filter fun z=>!decide (z ≠ (n:Int))).length:=by
   clear hn h h1 h2
   induction L with
   | nil=>rfl
   | cons z L ih=>
    rw [List.length_cons,ih]
    by_cases e:z = (n:Int)
    ·simp [e];omega
    ·simp [e];omega
  omega
end Go.Vc
namespace Go.Proofs.YtbfpohbmgjcjmaaGreatDoor
open Go.Vc
theorem iAtH {w:World} {v:Value} {R:List HV} {z:Int} {j:Nat} {k:IntKind} {K:Value → Prop} (hs:RdH w v R) (hz:z = (j:Int)) (hj:j < R.length) (h:K (.agg (gt R j).cs.toArray)):xIa 4 v (.int k z) fun p=>xLdA w 4 p K:=by
 subst hz
 refine iLdK (cs:=(gt R j).cs.toArray) hs.row rfl hj rfl (fun i hi=>?_) h
 rw [BO hj i hi]
 simp
theorem BQ {v:Value} {w:World} {c:List Int} (hs:SlI w v c) (x:Int):Ret Tryz.prog GH #[v,.int .i64 x] w (.bool (decide (x ∈ c))):=by
 have hl:=hs.len
 apply RY;unfold HD
 refine iLp (fun k:Nat=>[.int .i64 (k:Int)]) (fun k w'=>k ≤ c.length ∧ Ext w w' ∧ ∀ i,i < k → ¬ c.getD i 0 = x) (fun k=>c.length - k) 0 rfl ⟨Nat.zero_le _,Ext.refl _,fun i hi=>by omega⟩ ?_
 rintro k w2 Kn ⟨hk,h2,hall⟩ hKn
 have hs2:=hs.ext h2
 intro _
 simp only [gx]
 refine iLenI hs2 ?_
 refine iLt ?_
 refine iCndP (fun h3=>?_) (fun h3=>?_)
 ·refine iIaI hs2 (by omega) (by omega) fun p hp=>?_
  refine iLd hp ?_
  rw [show c.getD (k:Int).toNat 0 = c.getD k 0 by rw [Int.toNat_natCast]]
  refine iEq ?_
  have hk1:k < c.length:=by omega
  have e:c.getD k 0 = c[k]:=by simp [List.getD_eq_getElem?_getD,hk1]
  refine iCndP (fun h4=>?_) (fun h4=>?_)
  ·rw [decide_eq_true (show x ∈ c by rw [← h4,e];exact List.getElem_mem hk1)]
   exact ⟨rfl,h2⟩
  ·refine iAdd (by omega) ?_
   refine hKn (k + 1) _ ⟨by omega,h2,fun i hi=>?_⟩ (by omega)
   by_cases hik:i = k
   ·subst hik;exact h4
   ·exact hall i (by omega)
 ·rw [decide_eq_false (fun hx=>?_)]
  ·exact ⟨rfl,h2⟩
  ·obtain ⟨i,hi,e⟩:=List.getElem_of_mem hx
   refine hall i (by omega) ?_
   simp [List.getD_eq_getElem?_getD,hi,e]
def inH (h:Nat) (k:Nat) (x:HL):Prop:=(x.rule = 2 → 0 ≤ x.first ∧ x.first < (h:Int)) ∧ (x.rule = 3 → (0 ≤ x.first ∧ x.first < (k:Int)) ∧ 0 ≤ x.second ∧ x.second < (k:Int)) ∧ (x.rule = 4 → 0 ≤ x.first ∧ x.first < (k:Int))
theorem iM {v0:Value} {R:List HV} {h:Nat} {w:World} (hR:RdH w v0 R) (hl:R.length ≤ 1000) (hh:h ≤ 1000) (hin:∀ k,k < R.length → inH h k (gt R k).x):
  Cal Tryz.prog yI #[v0] w fun r w'=>Ext w w' ∧ ∃ D:List (Value × List Int),D.length = R.length ∧ Ow w.heap.size lF w' r (D.map Prod.fst) ∧ ∀ k,k < R.length → Ow w.heap.size t_i64 w' (gt D k).1 (ints (gt D k).2) ∧ ((gt D k).2 = [] ↔ gt (usesB (R.map HV.x)) k = false):=by
 apply KS;unfold xV
 refine iBs0 fun v8 w1 _ x1 ho1=>?_
 refine iLp (fun s:Value × Nat=>[s.1,.int .i64 (s.2:Int)]) (fun s w'=>s.2 ≤ R.length ∧ Ext w w' ∧ ∃ D:List (Value × List Int),D.length = s.2 ∧ Ow w.heap.size lF w' s.1 (D.map Prod.fst) ∧ ∀ k,k < s.2 → Ow w.heap.size t_i64 w' (gt D k).1 (ints (gt D k).2) ∧ ((gt D k).2.Nodup ∧ ∀ z ∈ (gt D k).2,0 ≤ z ∧ z < (h:Int)) ∧ ((gt D k).2 = [] ↔ gt (usesB (R.map HV.x)) k = false)) (fun s=>R.length - s.2) (v8,0) rfl ⟨Nat.zero_le _,x1,[],rfl,ho1,fun k hk=>absurd hk (Nat.not_lt_zero k)⟩ ?_
 rintro ⟨z,i⟩ w3 Kn ⟨hi,x3,D,hDl,hz,hD⟩ hKn
 have hi:i ≤ R.length:=hi
 have hDl:D.length = i:=hDl
 have hz:Ow w.heap.size lF w3 z (D.map Prod.fst):=hz
 intro _
 simp only [gx]
 refine iLenK (hR.ext x3).row (iLt (iCndP (fun hlt=>?_) (fun hlt=>?_)))
 rotate_left
 ·have:i = R.length:=by omega
  subst this
  exact ⟨x3,D,hDl,hz,fun k hk=>⟨(hD k hk).1,(hD k hk).2.2⟩⟩
 have hil:i < R.length:=by omega
 obtain ⟨q2,q3,q4⟩:=hin i hil
 have hu:=yT (L:=R.map HV.x) (k:=i) (by rw [List.length_map];exact hil)
 rw [bR hil] at hu
 have ut:∀ {j:Nat},j < i → gt (usesB ((R.map HV.x).take i)) j = gt (usesB (R.map HV.x)) j:=fun hj=>kB hj (by rw [List.length_map];omega)
 refine iBs0 fun v15 w4 _ x4 ho4=>?_
 have X4:=x3.trans x4
 have hR4:=hR.ext X4
 have fd:∀ {w':World} {f:Nat} {u:Value} {K:Value → Prop},Ext w w' → f < 4 → (gt R i).cs[f]? = some u → K u → xIa 4 v0 (.int .i64 (i:Int)) fun p=>xFa f p fun q=>xLd w' q K:=fun x hf hx hK=>iFdH (hR.ext x) rfl hil hf hx hK
 have rdD:∀ {w':World} {t:Int} {K:Value → Prop},Ext w3 w' → 0 ≤ t → t < (i:Int) → (Ow w.heap.size t_i64 w' (gt D t.toNat).1 (ints (gt D t.toNat).2) → K (gt D t.toNat).1) → xIa 1 z (.int .i64 t) fun p=>xLd w' p K:=fun {w' t K} x h1 h2 hK=>by
  refine iIa (j:=t) (hz.ext x).sl h1 (by rw [List.length_map];omega) fun p hp=>?_
  have hlt:t.toNat < D.length:=by omega
  rw [List.getElem?_map,List.getElem?_eq_getElem hlt,Option.map_some,← gt_eq hlt] at hp
  exact iLd hp (hK ((hD t.toNat (by omega)).1.ext x))
 have dlen:∀ {j:Nat},j < i → (gt D j).2.length ≤ 1000:=fun hj=>Nat.le_trans (GA (hD _ hj).2.1.1 (hD _ hj).2.1.2) hh
 refine fd X4 (by decide) (u:=.int .i64 (gt R i).x.rule) rfl (iEq ?_)
 refine iJnX (fun xs w'=>∃ (u:Value) (L:List Int),xs = [u] ∧ Ext w3 w' ∧ Ow w3.heap.size t_i64 w' u (ints L) ∧ (L.Nodup ∧ ∀ z ∈ L,0 ≤ z ∧ z < (h:Int)) ∧ (L = [] ↔ bE (usesB ((R.map HV.x).take i)) (gt R i).x = false)) (fun J hJ=>?_) ?_
 ·refine iCndP (fun e2=>?_) (fun e2=>iEq (iJn (iCndP (fun e3=>?_) (fun e3=>iEq (iJn (iCndP (fun e4=>?_) (fun e4=>?_)))))))
  ·refine fd X4 (by decide) (u:=.int .i64 (gt R i).x.first) rfl ?_
   refine iBs1 rfl rfl fun c w7 hc x7 hB=>?_
   refine hJ _ _ ⟨_,[(gt R i).x.first],rfl,x4.trans x7,Ow.ofBlk (n:=1) hB (by have:=x4.size;omega) rfl (by decide),⟨by simp,fun y hy=>by rw [List.mem_singleton.1 hy];exact q2 e2⟩,?_⟩
   unfold bE
   rw [if_pos e2]
   simp
  ·obtain ⟨⟨r1,r2⟩,r3,r4⟩:=q3 e3
   refine fd X4 (by decide) (u:=.int .i64 (gt R i).x.first) rfl (rdD x4 r1 r2 fun hA=>?_)
   have hjA:(gt R i).x.first.toNat < i:=by omega
   have hjB:(gt R i).x.second.toNat < i:=by omega
   refine iCall ((EN hA.sl (by have:=dlen hjA;omega)).mono ?_)
   rintro v39 w10 ⟨x10,h39⟩
   have X10:=X4.trans x10
   have x310:=x4.trans x10
   refine fd X10 (by decide) (u:=.int .i64 (gt R i).x.second) rfl (rdD x310 r3 r4 fun hB=>?_)
   have hB4:=(hD _ hjB).1.ext x4
   obtain ⟨-,⟨ndA,rgA⟩,emA⟩:=hD _ hjA
   obtain ⟨-,⟨-,rgB⟩,emB⟩:=hD _ hjB
   have hAl:=dlen hjA
   have hBl:=dlen hjB
   generalize (gt D (gt R i).x.second.toNat).1 = vB at *
   generalize (gt D (gt R i).x.second.toNat).2 = B at *
   generalize (gt D (gt R i).x.first.toNat).2 = A at *
   refine iLp (fun s:Value × Nat=>[s.1,.int .i64 (s.2:Int)]) (fun s w'=>s.2 ≤ B.length ∧ Ext w4 w' ∧ ∃ L:List Int,Ow w4.heap.size t_i64 w' s.1 (ints L) ∧ (L.Nodup ∧ ∀ z ∈ L,0 ≤ z ∧ z < (h:Int)) ∧ (∀ z ∈ A,z ∈ L) ∧ (∀ z ∈ B.take s.2,z ∈ L) ∧ ∀ z ∈ L,z ∈ A ∨ z ∈ B) (fun s=>B.length - s.2) (v39,0) rfl ⟨Nat.zero_le _,x10,A,h39,⟨ndA,rgA⟩,fun _ h=>h,fun _ h=>by simp at h,fun _ h=>.inl h⟩ ?_
   rintro ⟨y,j⟩ w12 Kj ⟨hj,x12,L,hL,⟨ndL,rgL⟩,inA,inB,ab⟩ hKj
   have hj:j ≤ B.length:=hj
   have hL:Ow w4.heap.size t_i64 w12 y (ints L):=hL
   have inB:∀ z ∈ B.take j,z ∈ L:=inB
   intro _
   simp only [gx]
   have hB12:=hB4.ext x12
   refine iLenI hB12.sl (iLt (iCndP (fun hlt=>?_) (fun hlt=>?_)))
   ·have hjl:j < B.length:=by omega
    have tk:∀ {M:List Int},(∀ z ∈ L,z ∈ M) → B[j] ∈ M → ∀ z ∈ B.take (j + 1),z ∈ M:=fun {M} h1 h2 z hz=>by
     rw [List.take_succ_eq_append_getElem hjl] at hz
     rcases List.mem_append.1 hz with hz | hz
     ·exact h1 z (inB z hz)
     ·rw [List.mem_singleton.1 hz];exact h2
    have ej:B.getD j 0 = B[j]:=by rw [List.getD_eq_getElem?_getD,List.getElem?_eq_getElem hjl];rfl
    refine iIaN hB12.sl hjl fun p hp=>iLd hp ?_
    rw [ej]
    refine iRet (BQ hL.sl B[j]) fun w13 x13=>iNot (iCnd (fun hn=>?_) (fun hn=>?_))
    ·have hn:B[j] ∉ L:=of_decide_eq_false (by rw [Bool.not_eq_true'] at hn;exact hn)
     have hLl:=GA ndL rgL
     refine iIaN (hB12.ext x13).sl hjl fun p hp=>iLd hp ?_
     rw [ej]
     refine iP fL fQ rfl (hL.ext x13) rfl (by rw [aL];omega) (by rw [aL];omega) (x12.trans x13).size fun y' w15 ho15 hg15 _=>?_
     refine iAdd (by omega) ?_
     have hL':Ow w4.heap.size t_i64 w15 y' (ints (L ++ [B[j]])):=by
      rw [show ints (L ++ [B[j]]) = ints L ++ [.int .i64 B[j]] by simp [ints]]
      exact ho15
     refine hKj (y',j + 1) _ ⟨hjl,(x12.trans x13).grown hg15 fun c hc=>(hL.blk c hc).1,L ++ [B[j]],hL',⟨?_,fun z hz=>?_⟩,fun z hz=>List.mem_append_left _ (inA z hz),tk (fun z hz=>List.mem_append_left _ hz) (by simp),fun z hz=>?_⟩ (by show B.length - (j + 1) < B.length - j;omega)
     ·rw [List.nodup_append]
      refine ⟨ndL,by simp,fun a ha b hb=>?_⟩
      rw [List.mem_singleton.1 hb]
      rintro rfl
      exact hn ha
     ·rcases List.mem_append.1 hz with hz | hz
      ·exact rgL z hz
      ·rw [List.mem_singleton.1 hz];exact rgB _ (List.getElem_mem _)
     ·rcases List.mem_append.1 hz with hz | hz
      ·exact ab z hz
      ·rw [List.mem_singleton.1 hz];exact .inr (List.getElem_mem _)
    ·have hm:B[j] ∈ L:=of_decide_eq_true (by rw [Bool.not_eq_false'] at hn;exact hn)
     refine iAdd (by omega) ?_
     exact hKj (y,j + 1) _ ⟨hjl,x12.trans x13,L,hL.ext x13,⟨ndL,rgL⟩,inA,tk (fun _ h=>h) hm,ab⟩ (by show B.length - (j + 1) < B.length - j;omega)
   ·have:j = B.length:=by omega
    subst this
    rw [List.take_length] at inB
    intro _
    try simp only [gx]
    refine hJ _ _ ⟨y,L,rfl,x4.trans x12,hL.mono x4.size,⟨ndL,rgL⟩,?_⟩
    unfold bE
    rw [if_neg e2,if_pos e3,ut hjA,ut hjB,Bool.or_eq_false_iff,← emA,← emB]
    constructor
    ·intro e
     subst e
     exact ⟨List.eq_nil_iff_forall_not_mem.2 fun z hz=>by simpa using inA z hz,List.eq_nil_iff_forall_not_mem.2 fun z hz=>by simpa using inB z hz⟩
    ·rintro ⟨rfl,rfl⟩
     exact List.eq_nil_iff_forall_not_mem.2 fun z hz=>by simpa using ab z hz
  ·have r:=q4 e4
   refine fd X4 (by decide) (u:=.int .i64 (gt R i).x.first) rfl (rdD x4 r.1 r.2 fun hA=>?_)
   have hjA:(gt R i).x.first.toNat < i:=by omega
   refine iCall ((EN hA.sl (by have:=dlen hjA;omega)).mono ?_)
   rintro v78 w18 ⟨x18,h78⟩
   obtain ⟨-,nr,emA⟩:=hD _ hjA
   repeat intro _
   try simp only [gx]
   refine hJ _ _ ⟨v78,_,rfl,x4.trans x18,h78.mono x4.size,nr,?_⟩
   unfold bE
   rw [if_neg e2,if_neg e3,if_pos e4,ut hjA]
   exact emA
  ·repeat intro _
   try simp only [gx]
   refine hJ _ _ ⟨v15,[],rfl,x4,ho4,⟨List.nodup_nil,fun z hz=>by cases hz⟩,?_⟩
   unfold bE
   rw [if_neg e2,if_neg e3,if_neg e4]
   simp
 rintro _ w6 ⟨u,L,rfl,x6,hu6,nr,em⟩
 intro _
 simp only [gx]
 rw [← hu] at em
 refine iP VD U6 rfl (hz.ext x6) hu6.cell (by rw [List.length_map];omega) (by rw [List.length_map];omega) (x3.trans x6).size fun z' w20 ho20 hg20 _=>?_
 have hch:=bJ (S:=fun c=>z.ownBlock = some c) hg20 fun c hc=>hc
 have keep:∀ {lo:Nat} {u:Value} {xs:List Value},Ow lo t_i64 w6 u xs → Ow lo t_i64 w20 u xs:=fun ho=>ho.ch hch fun c hc hS=>by
  obtain ⟨cur,hh⟩:=(hz.ext x6).ty hS
  exact ho.ne_blk (show Blk lF w6 c cur.toList by unfold Blk;rw [hh]) (by decide) hc
 refine iAdd (by omega) ?_
 refine hKn (z',i + 1) _ ⟨hil,(x3.trans x6).grown hg20 fun c hc=>(hz.blk c hc).1,D ++ [(u,L)],by rw [List.length_append,hDl];rfl,?_,fun k hk=>?_⟩ (by show R.length - (i + 1) < R.length - i;omega)
 ·show Ow _ _ _ z' ((D ++ [(u,L)]).map Prod.fst)
  rw [List.map_append]
  exact ho20
 ·have hk:k < i + 1:=hk
  by_cases e:k < i
  ·rw [bK (show k < D.length by omega)]
   obtain ⟨h1,h2,h3⟩:=hD k e
   exact ⟨keep (h1.ext x6),h2,h3⟩
  ·have:k = i:=by omega
   subst this
   have ge:gt (D ++ [(u,L)]) k = (u,L):=by have:=bT D (u,L);rwa [hDl] at this
   rw [ge]
   exact ⟨(keep hu6).mono x3.size,nr,em⟩
end Go.Proofs.YtbfpohbmgjcjmaaGreatDoor

namespace Go.Vc
theorem ZD {P:Program} {sz n j:Nat} {w:World} {v:Value} {xs ys:List Value} {k:IntKind} {K:Value → Prop} (hs:SlK sz w v n xs) (hj:j < n) (hl:ys.length = sz) (hy:∀ i,i < sz → xs[j * sz + i]? = ys[i]?) (h:K (.agg ys.toArray)):xIa sz v (.int k (j:Int)) fun p=>xLdA w sz p K:=by
 have _:=P
 refine iIaK hs hj fun b o hc=>?_
 refine ⟨_,ys.toArray,rfl,by simpa using hl,fun i hi=>?_,h⟩
 have e:(⟨b,o,none⟩:Addr).add i = ⟨b,o + i,none⟩:=by
  simp only [Addr.add];split
  ·rename_i e;simp [e]
  ·rfl
 rw [e,hc i hi,hy i hi]
 simp
end Go.Vc
namespace Go.Proofs.YtbfpohbmgjcjmaaGreatDoor
open Go.Vc
theorem HN (x:Int) (w:World):Ret Tryz.prog xL #[.int .i64 x] w (.bool (decide (0 ≤ x ∧ x ≤ 5))):=by
 apply LH;unfold xF
 exact iRet (lP x 0 5 w) fun w1 h1=>⟨rfl,h1⟩
theorem O4 (q:RN) (w:World):Ret Tryz.prog wU #[.agg #[.int .i64 q.1,.int .i64 q.2]] w (.bool (okN q)):=by
 obtain ⟨k,s⟩:=q
 show Ret Tryz.prog wU #[.agg #[.int .i64 k,.int .i64 s]] w (.bool (okN (k,s)))
 have e:okN (k,s) = (decide (0 ≤ k ∧ k ≤ 6) && (decide (0 ≤ s ∧ s ≤ 5) && (decide (k = 0) || decide (s = 0)))):=rfl
 apply SL;unfold G7
 refine iNew fun p w1 _ x1 hB=>?_
 have hB:Blk _ w1 p [.int .i64 k,.int .i64 s]:=hB
 refine iFa (iLdB hB (v:=.int .i64 k) rfl ?_)
 refine iEq (iCndP (fun h0=>?_) (fun h0=>?_))
 ·refine iFa (iLdB hB (v:=.int .i64 s) rfl ?_)
  refine iRet (HN _ w1) fun w2 x2=>⟨?_,x1.trans x2⟩
  rw [e,decide_eq_true h0,decide_eq_true (by omega:0 ≤ k ∧ k ≤ 6)]
  simp
 ·refine iJnB (okN (k,s)) w1 (fun J hJ=>?_) (fun w2 x2=>fun _=>⟨rfl,x1.trans x2⟩)
  refine iFa (iLdB hB (v:=.int .i64 k) rfl ?_)
  refine iRet (lP _ _ _ w1) fun w2 x2=>?_
  rw [e,decide_eq_false h0] at hJ
  by_cases c1:1 ≤ k ∧ k ≤ 6
  ·rw [decide_eq_true c1]
   refine iCndT rfl ?_
   refine iFa (iLdB (hB.ext x2) (v:=.int .i64 s) rfl ?_)
   refine iEq ?_
   rw [decide_eq_true (by omega:0 ≤ k ∧ k ≤ 6),Bool.true_and,Bool.false_or] at hJ
   by_cases c2:s = 0
   ·rw [decide_eq_true c2] at hJ ⊢
    rw [decide_eq_true (by omega:0 ≤ s ∧ s ≤ 5)] at hJ
    exact hJ _ x2
   ·rw [decide_eq_false c2] at hJ ⊢
    rw [Bool.and_false] at hJ
    exact hJ _ x2
  ·rw [decide_eq_false c1]
   rw [decide_eq_false (by omega:¬ (0 ≤ k ∧ k ≤ 6)),Bool.false_and] at hJ
   exact iCndF rfl (hJ _ x2)
theorem xX {v fv:Value} {N:List RN} {w:World} (hs:RawS w v N) (p:RN → Bool) (hf:∀ q ∈ N,∀ w',Ext w w' → callV Tryz.prog fv [.agg #[.int .i64 q.1,.int .i64 q.2]] w' fun u w''=>u = .bool (p q) ∧ Ext w' w''):
  Ret Tryz.prog dC #[v,fv] w (.bool (N.any p)):=by
 have hln:=hs.len
 apply jO;unfold dF
 refine iRet (v:=.int .i64 (match N.findIdx? p with | some i=>(i:Int) | none=>-1)) ?_ fun w1 x1=>iLe ⟨?_,x1⟩
 ·apply kT;unfold d8
  refine iLenK hs ?_
  refine iLp (fun i:Nat=>[.int .i64 (i:Int)]) (fun i w'=>i ≤ N.length ∧ Ext w w' ∧ ∀ x ∈ N.take i,p x = false) (fun i=>N.length - i) 0 rfl ⟨Nat.zero_le _,Ext.refl _,by simp⟩ ?_
  rintro i w2 Kn ⟨hi,h2,hno⟩ hKn
  intro _
  simp only [gx]
  refine iLt (iCndP (fun h=>?_) (fun h=>?_))
  ·have hil:i < N.length:=by omega
   have hat:=iD hil
   refine ZD (P:=Tryz.prog) (ys:=[.int .i64 N[i].1,.int .i64 N[i].2]) (hs.ext h2) (by omega) rfl (fun j hj=>?_) ?_
   ·rcases j with _ | _ | j
    ·exact hat.1
    ·exact hat.2
    ·omega
   refine (hf _ (List.getElem_mem hil) w2 h2).mono ?_
   rintro u w3 ⟨rfl,x3⟩
   cases hp:p N[i]
   ·refine iCndF (by first | rfl | exact hp) ?_
    refine iAdd (by omega) ?_
    refine hKn (i + 1) _ ⟨by omega,h2.trans x3,?_⟩ (by omega)
    rw [List.take_succ_eq_append_getElem hil]
    intro x hx
    rcases List.mem_append.1 hx with hx | hx
    ·exact hno x hx
    ·simp at hx;rw [hx];exact hp
   ·refine iCndT (by first | rfl | exact hp) ⟨?_,h2.trans x3⟩
    have:N.findIdx? p = some i:=List.findIdx?_eq_some_iff_getElem.2 ⟨hil,hp,fun j hj=>by
     have:=hno (N[j]'(by omega)) (List.mem_take_iff_getElem.2 ⟨j,by omega,rfl⟩)
     simp [this]⟩
    rw [this]
  ·refine ⟨?_,h2⟩
   rw [List.take_of_length_le (by omega)] at hno
   have:N.findIdx? p = none:=List.findIdx?_eq_none_iff.2 hno
   rw [this]
 ·cases h:N.findIdx? p with
  | none=>
   have:=List.findIdx?_eq_none_iff.1 h
   have h2:N.any p = false:=List.any_eq_false.2 fun x hx=>by simp [this x hx]
   simp [h2]
  | some i=>
   obtain ⟨hi,hp,_⟩:=List.findIdx?_eq_some_iff_getElem.1 h
   have h2:N.any p = true:=List.any_eq_true.2 ⟨N[i],List.getElem_mem _,hp⟩
   simp [h2]
theorem ME {v:Value} {N:List RN} {i:Nat} {w:World} (hs:RawS w v N) (hok:N.all okN = true) (hi:i ≤ N.length) (hn:N.length ≤ 1099511627776):Ret Tryz.prog uR #[v,.int .i64 (i:Int)] w (.int .i64 (endN N i)):=by
 apply D9;unfold t4
 refine iLp (fun s:Nat × Nat=>[.int .i64 (s.1:Int),.int .i64 (s.2:Int)]) (fun s w'=>Ext w w' ∧ s.1 ≤ N.length ∧ s.2 ≤ 1 + 2 * s.1 ∧ goN (N.drop s.1) s.2 = goN (N.drop i) 1) (fun s=>N.length - s.1) (i,1) rfl ⟨Ext.refl _,hi,by show 1 ≤ 1 + 2 * i;omega,rfl⟩ ?_
 rintro ⟨j,o⟩ w2 Kn ⟨x2,hj,ho,hg⟩ hKn
 have hj:j ≤ N.length:=hj
 have ho:o ≤ 1 + 2 * j:=ho
 have hg:goN (N.drop j) o = goN (N.drop i) 1:=hg
 intro _
 simp only [gx]
 refine iLt (iCndP (fun h3=>?_) (fun h3=>?_))
 ·obtain ⟨o',rfl⟩:∃ o',o = o' + 1:=⟨o - 1,by omega⟩
  refine iLenK (SlK.ext hs x2) ?_
  refine iLe (iCndP (fun h4=>?_) (fun h4=>?_))
  ·obtain rfl:j = N.length:=by omega
   rw [List.drop_length] at hg
   refine ⟨?_,x2⟩
   unfold endN
   rw [← hg];rfl
  ·have hj1:j < N.length:=by omega
   have hat:=iD hj1
   obtain ⟨k,s,hq,hk6,_⟩:=VI (List.all_eq_true.1 hok _ (List.getElem_mem hj1))
   refine iFld (f:=0) (SlK.ext hs x2) rfl hj1 (by decide) hat.1 ?_
   have e1:N[j].1 = (k:Int):=by rw [hq]
   rw [e1]
   refine iRet (rH k w2) fun w3 x3=>?_
   have hak:arity k ≤ 2:=by unfold arity;split;omega;split <;> omega
   refine iSub (by omega) (iAdd (by omega) (iAdd (by omega) ?_))
   rw [show ((o' + 1:Nat):Int) + ((arity k:Int) - 1) = ((o' + arity k:Nat):Int) by omega]
   refine hKn (j + 1,o' + arity k) _ ⟨x2.trans x3,by show j + 1 ≤ N.length;omega,by show o' + arity k ≤ 1 + 2 * (j + 1);omega,?_⟩ (by show N.length - (j + 1) < N.length - j;omega)
   show goN (N.drop (j + 1)) (o' + arity k) = _
   rw [← hg,ST hj1,e1,UL]
 ·obtain rfl:o = 0:=by omega
  rw [FL] at hg
  refine ⟨?_,x2⟩
  unfold endN
  rw [← hg]
  show Value.int .i64 (j:Int) = .int .i64 ((N.length - (N.drop j).length:Nat):Int)
  rw [List.length_drop,show N.length - (N.length - j) = j by omega]
def modN (q:RN):Bool:=decide (q.1 = 5) || decide (q.1 = 6)
def oU (N:List RN):Bool:=!N.any modN
theorem uW {v:Value} {N:List RN} {w:World} (hs:RawS w v N) (hn:N.length ≤ 1099511627776):Ret Tryz.prog zA #[v] w (.bool (isN N)):=by
 apply NJ;unfold AC
 refine iJnB (isN N) w (fun J hJ=>?_) (fun w2 x2=>fun _=>⟨rfl,x2⟩)
 refine iLenK hs ?_
 refine iLe (iCndP (fun h1=>?_) (fun h1=>?_))
 ·refine iLenK hs ?_
  refine iLe (iCndP (fun h2=>?_) (fun h2=>?_))
  ·refine iRet (xX hs (fun q=>!okN q) fun q hq w' x'=>?_) fun w3 x3=>?_
   ·refine iRet (v:=.bool (!okN q)) ?_ fun w5 x5=>⟨rfl,x5⟩
    apply IG;unfold vA
    refine iNew fun p w1 _ x1 hB=>?_
    refine iLdA hB rfl ?_
    refine iRet (O4 q w1) fun w4 x4=>?_
    exact iNot ⟨rfl,x1.trans x4⟩
   rw [show (N.any fun q=>!okN q) = !N.all okN by rw [List.not_all_eq_any_not]]
   refine iNot ?_
   rw [Bool.not_not]
   unfold isN at hJ
   rw [decide_eq_true (by omega:N.length ≤ 40),Bool.true_and] at hJ
   cases hall:N.all okN
   ·refine iCndF rfl ?_
    unfold treeN at hJ
    rw [hall,Bool.false_and] at hJ
    exact hJ _ x3
   ·refine iCndT rfl ?_
    refine iRet (ME (i:=0) (SlK.ext hs x3) hall (Nat.zero_le _) hn) fun w4 x4=>?_
    refine iLenK ((SlK.ext hs x3).ext x4) ?_
    refine iEq ?_
    rw [Q2 hall (by omega)]
    exact hJ _ (x3.trans x4)
  ·unfold isN at hJ
   rw [decide_eq_false (by omega:¬ N.length ≤ 40),Bool.false_and] at hJ
   exact hJ _ (Ext.refl _)
 ·have h0:N = []:=List.length_eq_zero_iff.1 (by omega)
  subst h0
  exact hJ _ (Ext.refl _)
theorem NA (k:Int) (w:World):Ret Tryz.prog m8 #[.int .i64 k] w (.bool (decide (k = 5) || decide (k = 6))):=by
 apply FA;unfold uM
 refine iJnB (decide (k = 5) || decide (k = 6)) w (fun J hJ=>?_) (fun w2 x2=>fun _=>⟨rfl,x2⟩)
 refine iEq (iCndP (fun h=>?_) (fun h=>?_))
 ·rw [decide_eq_true h,Bool.true_or] at hJ
  exact hJ _ (Ext.refl _)
 ·rw [decide_eq_false h,Bool.false_or] at hJ
  exact iEq (hJ _ (Ext.refl _))
theorem MY {v:Value} {N:List RN} {w:World} (hs:RawS w v N):Ret Tryz.prog D4 #[v] w (.bool (oU N)):=by
 apply PY;unfold ET
 refine iRet (xX hs modN fun q hq w' x'=>?_) fun w3 x3=>iNot ⟨rfl,x3⟩
 refine iRet (v:=.bool (modN q)) ?_ fun w5 x5=>⟨rfl,x5⟩
 apply NE;unfold z8
 refine iNew fun p w1 _ x1 hB=>?_
 have hB:Blk _ w1 p [.int .i64 q.1,.int .i64 q.2]:=hB
 refine iFa (iLdB hB (v:=.int .i64 q.1) rfl ?_)
 exact iRet (NA _ w1) fun w4 x4=>⟨rfl,x1.trans x4⟩
abbrev VN:=Value × List RN
structure RwN (w:World) (v:Value) (L:List VN):Prop where
 row:Sl w v (L.map Prod.fst)
 raw:∀ p ∈ L,RawS w p.1 p.2
theorem RwN.ext {w w':World} {v:Value} {L:List VN} (h:RwN w v L) (x:Ext w w'):RwN w' v L:=⟨h.row.ext x,fun p hp=>SlK.ext (h.raw p hp) x⟩
theorem RwN.len {w:World} {v:Value} {L:List VN} (h:RwN w v L):L.length ≤ 9223372036854775807:=by have:=h.row.len;rwa [List.length_map] at this
theorem RwN.one {w:World} {v u:Value} {N:List RN} (h:Sl w v [u]) (k:RawS w u N):RwN w v [(u,N)]:=⟨h,fun p hp=>by
 simp only [List.mem_singleton] at hp
 subst hp;exact k⟩
theorem iRdN {w:World} {v:Value} {L:List VN} {j:Nat} {k:IntKind} {K:Value → Prop} (hs:RwN w v L) (hj:j < L.length) (h:K L[j].1):xIa 1 v (.int k (j:Int)) fun p=>xLd w p K:=
 iIa (j:=(j:Int)) hs.row (by omega) (by rw [List.length_map];omega) fun p hp=>iLd (by rw [hp];simp [hj]) h
theorem iQ {v fv:Value} {L:List VN} {w:World} (hs:RwN w v L) (p:List RN → Bool) (hf:∀ q ∈ L,∀ w',Ext w w' → callV Tryz.prog fv [q.1] w' fun u w''=>u = .bool (p q.2) ∧ Ext w' w''):
  Ret Tryz.prog aZ #[v,fv] w (.bool (L.any fun q=>p q.2)):=by
 have hln:=hs.len
 apply i4;unfold cS
 refine iRet (v:=.int .i64 (match L.findIdx? (fun q=>p q.2) with | some i=>(i:Int) | none=>-1)) ?_ fun w1 x1=>iLe ⟨?_,x1⟩
 ·apply j5;unfold dM
  refine iLenS hs.row ?_
  rw [List.length_map]
  refine iLp (fun i:Nat=>[.int .i64 (i:Int)]) (fun i w'=>i ≤ L.length ∧ Ext w w' ∧ ∀ x ∈ L.take i,p x.2 = false) (fun i=>L.length - i) 0 rfl ⟨Nat.zero_le _,Ext.refl _,by simp⟩ ?_
  rintro i w2 Kn ⟨hi,h2,hno⟩ hKn
  intro _
  simp only [gx]
  refine iLt (iCndP (fun h=>?_) (fun h=>?_))
  ·have hil:i < L.length:=by omega
   refine iRdN (hs.ext h2) hil ?_
   refine (hf _ (List.getElem_mem hil) w2 h2).mono ?_
   rintro u w3 ⟨rfl,x3⟩
   cases hp:p L[i].2
   ·refine iCndF (by first | rfl | exact hp) ?_
    refine iAdd (by omega) ?_
    refine hKn (i + 1) _ ⟨by omega,h2.trans x3,?_⟩ (by omega)
    rw [List.take_succ_eq_append_getElem hil]
    intro x hx
    rcases List.mem_append.1 hx with hx | hx
    ·exact hno x hx
    ·simp at hx;rw [hx];exact hp
   ·refine iCndT (by first | rfl | exact hp) ⟨?_,h2.trans x3⟩
    have:L.findIdx? (fun q=>p q.2) = some i:=List.findIdx?_eq_some_iff_getElem.2 ⟨hil,hp,fun j hj=>by
     have:=hno (L[j]'(by omega)) (List.mem_take_iff_getElem.2 ⟨j,by omega,rfl⟩)
     simp [this]⟩
    rw [this]
  ·refine ⟨?_,h2⟩
   rw [List.take_of_length_le (by omega)] at hno
   have:L.findIdx? (fun q=>p q.2) = none:=List.findIdx?_eq_none_iff.2 hno
   rw [this]
 ·cases h:L.findIdx? (fun q=>p q.2) with
  | none=>
   have:=List.findIdx?_eq_none_iff.1 h
   have h2:(L.any fun q=>p q.2) = false:=List.any_eq_false.2 fun x hx=>by simp [this x hx]
   simp [h2]
  | some i=>
   obtain ⟨hi,hp,_⟩:=List.findIdx?_eq_some_iff_getElem.1 h
   have h2:(L.any fun q=>p q.2) = true:=List.any_eq_true.2 ⟨L[i],List.getElem_mem _,hp⟩
   simp [h2]
theorem rJ {v:Value} {L:List VN} {w:World} (hs:RwN w v L) (hn:∀ p ∈ L,p.2.length ≤ 1099511627776):Ret Tryz.prog vH #[v] w (.bool (L.all fun q=>isN q.2)):=by
 apply IU;unfold wG
 refine iRet (iQ hs (fun N=>!isN N) fun q hq w' x'=>?_) fun w3 x3=>iNot ⟨?_,x3⟩
 ·refine iRet (v:=.bool (!isN q.2)) ?_ fun w5 x5=>⟨rfl,x5⟩
  apply FF;unfold rC
  exact iRet (uW (SlK.ext (hs.raw q hq) x') (hn q hq)) fun w4 x4=>iNot ⟨rfl,x4⟩
 ·rw [List.not_any_eq_all_not];simp
/-! ### Variables -/
end Go.Proofs.YtbfpohbmgjcjmaaGreatDoor

namespace Go.Vc
theorem VP {t:Str} (h:sysNo t < 10) {z:Int}:decide (z ∈ nats (sysT t)) = (decide (0 ≤ z) && decide (z.toNat ∈ sysS (sysNo t))):=by
 unfold sysT
 rw [if_pos h,← Bool.decide_and]
 refine decide_eq_decide.2 ⟨fun hz=>?_,fun ⟨h1,h2⟩=>?_⟩
 ·obtain ⟨n,hn,rfl⟩:=List.mem_map.1 hz
  exact ⟨Int.natCast_nonneg n,by show (((n:Nat):Int)).toNat ∈ _;rw [Int.toNat_natCast];exact hn⟩
 ·exact List.mem_map.2 ⟨z.toNat,h2,by show ((z.toNat:Nat):Int) = z;omega⟩
theorem SV {t:Str} (h:sysNo t < 10) {n:Nat} (hn:n ∈ sysS (sysNo t)):n < 19:=by
 have key:∀ s:Fin 10,∀ k ∈ sysS s.val,k < 19:=by decide
 exact key ⟨_,h⟩ n hn
theorem UY {t:Str} (h:sysNo t < 10):decide (2 ≤ sysNo t) = (!decide (t = [73,110,116]) && !decide (t = [67,76])):=by
 have key:∀ k:Fin 10,decide (2 ≤ k.val) = (!decide (cE[k.val]? = some [73,110,116]) && !decide (cE[k.val]? = some [67,76])):=by decide
 have hk:=key ⟨sysNo t,h⟩
 have e:cE[sysNo t]? = some t:=by
  have hm:t ∈ cE:=List.idxOf_lt_length_iff.1 h
  have:=List.getElem_idxOf (x:=t) (xs:=cE) h
  rw [List.getElem?_eq_getElem h]
  exact congrArg some this
 have e':cE[(⟨sysNo t,h⟩:Fin 10).val]? = some t:=e
 rw [e'] at hk
 simpa using hk
theorem iNew4 {w:World} {e:TypeId} {a b c d:Value} {K:Value → World → Prop} (h:∀ q w',q = w.heap.size ∧ w'.heap.size = q + 1 → Ext w w' → Blk e w' q [a,b,c,d] → K (.pointer (some ⟨q,0,none⟩)) w'):xNew (Value.cells (.agg #[a,b,c,d])) e w K:=
 iNew fun q w' h1 h2 h3=>h q w' h1 h2 (by simpa [Value.cells] using h3)
theorem UQ {k n i:Nat} {ki:IntKind} {w:World} {v:Value} {xs:List Value} {K:Value → Prop} (hs:SlK k w v n xs) (hi:i ≤ n) (h:∀ v',SlK k w v' i (xs.take (i * k)) → K v'):xSl k v none (some (.int ki (i:Int))) K:=by
 obtain ⟨h0,a,c,rfl,h2,h3,h4⟩:=hs
 have hle:i * k ≤ n * k:=Nat.mul_le_mul_right _ hi
 refine ⟨_,_,_,0,i,rfl,⟨ki,rfl⟩,rfl,Nat.zero_le _,by omega,?_⟩
 refine h _ ⟨by rw [List.length_take];omega,_,_,by rw [Nat.sub_zero],by omega,by omega,?_⟩
 rcases Nat.eq_zero_or_pos i with hz | hz
 ·exact .inl hz
 ·rcases h4 with h4 | ⟨b,o,rfl,hc⟩
  ·omega
  ·refine .inr ⟨b,o,?_,fun j hj=>?_⟩
   ·rw [if_neg (by omega),Option.map_some]
    simp [Addr.add]
   ·rw [hc j (by omega),List.getElem?_take,if_pos hj]
theorem eE {w:World} {v:Value} {a:Fm} (h:RawS w v (rawF a)):SlK 2 w v a.size a.cells:=by
 unfold RawS at h
 rw [aG,a9] at h
 exact h
theorem S4 {a b:Fm}:decide (rawF a = rawF b) = decide (a = b):=decide_eq_decide.2 ⟨pT,fun e=>by rw [e]⟩
end Go.Vc
namespace Go.Proofs.YtbfpohbmgjcjmaaGreatDoor
open Go.Vc
theorem OR {t:Str} (ht:sysNo t < 10) {v1 v2:Value} {L:List VN} {R:List HV} {k:Nat} {w:World} (hH:RwN w v1 L) (hL:∀ p ∈ L,isN p.2 = true) (hLl:L.length ≤ 1000) (hR:RdH w v2 R) (hRl:R.length ≤ 1000) (hRs:∀ y ∈ R,y.x.N.length ≤ 1000000) (hk:k < R.length)
  (hgood:∀ j,j < k → goodH (sysNo t) (L.map Prod.snd) (R.map HV.x) j (gt R j).x = true):Ret Tryz.prog DU #[sv t,v1,v2,.int .i64 (k:Int)] w (.bool (goodH (sysNo t) (L.map Prod.snd) (R.map HV.x) k (gt R k).x)):=by
 have hm:gt R k ∈ R:=by rw [gt_eq hk];exact List.getElem_mem _
 have hRk:=hR.fm _ hm
 have hNl:=hRs _ hm
 apply QM;unfold C4
 refine iAtH hR rfl hk ?_
 refine iNew4 fun q w1 hq x1 hB1=>?_
 refine iStAB hB1 rfl rfl (fun y hy=>?_) fun w2 u2 hB2=>?_
 ·simp only [HV.cs,List.mem_cons,List.not_mem_nil,or_false] at hy
  rcases hy with rfl | rfl | rfl | rfl
  ·rfl
  ·rfl
  ·rfl
  ·obtain ⟨_,_,_,e,_⟩:=hRk
   rw [e];rfl
 have x2:Ext w w2:=x1.upd u2 (by omega)
 generalize hy:gt R k = y at *
 have hB2:Blk 45 w2 q [.int .i64 y.x.rule,.int .i64 y.x.first,.int .i64 y.x.second,y.v]:=hB2
 have f0:∀ {w':World} {K:Value → Prop},Ext w2 w' → K (.int .i64 y.x.rule) → xFa 0 (.pointer (some ⟨q,0,none⟩)) fun p=>xLd w' p K:=fun x h=>iFa (iLdB (hB2.ext x) (i:=0) (v:=.int .i64 y.x.rule) rfl h)
 have f1:∀ {w':World} {K:Value → Prop},Ext w2 w' → K (.int .i64 y.x.first) → xFa 1 (.pointer (some ⟨q,0,none⟩)) fun p=>xLd w' p K:=fun x h=>iFa (iLdB (hB2.ext x) (i:=1) (v:=.int .i64 y.x.first) rfl h)
 have f2:∀ {w':World} {K:Value → Prop},Ext w2 w' → K (.int .i64 y.x.second) → xFa 2 (.pointer (some ⟨q,0,none⟩)) fun p=>xLd w' p K:=fun x h=>iFa (iLdB (hB2.ext x) (i:=2) (v:=.int .i64 y.x.second) rfl h)
 have f3:∀ {w':World} {K:Value → Prop},Ext w2 w' → K y.v → xFa 3 (.pointer (some ⟨q,0,none⟩)) fun p=>xLd w' p K:=fun x h=>iFa (iLdB (hB2.ext x) (i:=3) (v:=y.v) rfl h)
 refine f3 (Ext.refl _) (iRet (lG (SlK.ext hRk x2) (by omega)) fun w3 x3=>?_)
 have X3:=x2.trans x3
 unfold goodH
 refine iNot (iCnd (fun hn=>?_) (fun hn=>?_))
 ·have hn:isN y.x.N = false:=by rwa [Bool.not_eq_true'] at hn
  rw [hn,Bool.false_and]
  exact ⟨rfl,X3⟩
 have hn:isN y.x.N = true:=by rwa [Bool.not_eq_false'] at hn
 obtain ⟨a,ga,sa,hN⟩:=dI hn
 rw [hn,Bool.true_and]
 have hfa:∀ {w':World},Ext w w' → FmS w' y.v a:=fun x=>eE (hN ▸ SlK.ext hRk x)
 refine f1 x3 (iSub (by omega) (iRet (iB _ _ _ w3) fun w4 x4=>?_))
 have x24:=x3.trans x4
 have X4:=X3.trans x4
 refine f0 x24 (iEq (iCndP (fun e1=>?_) (fun e1=>?_)))
 ·rw [if_pos e1]
  refine iJnB (decide (y.x.second = 0) && (decide (0 ≤ y.x.first) && (decide (y.x.first.toNat ∈ sysS (sysNo t)) && mtc y.x.first.toNat (fmN y.x.N)))) w4 (fun J hJ=>?_) (fun w6 x6=>fun _=>⟨rfl,X4.trans x6⟩)
  refine f2 x24 (iEq (iCndP (fun h2=>?_) (fun h2=>?_)))
  ·rw [decide_eq_true h2,Bool.true_and] at hJ
   refine f1 x24 ?_
   intro w7 x7
   refine iCall ((wI t w7).mono ?_)
   rintro u w8 ⟨x8,hu⟩
   refine ⟨x8,?_⟩
   refine iRetQ (fun w' x'=>BQ (c:=nats (sysT t)) (hu.ext x') y.x.first) ?_
   rw [VP ht]
   refine iCnd (fun h3=>?_) (fun h3=>?_)
   ·rw [Bool.and_eq_true] at h3
    rw [h3.1,h3.2,Bool.true_and,Bool.true_and,hN,KD] at hJ
    have h30:=of_decide_eq_true h3.1
    have hlt:=SV ht (of_decide_eq_true h3.2)
    have x48:=x7.trans x8
    refine f1 (x24.trans x48) (f3 (x24.trans x48) ?_)
    refine iRetQ (v:=.bool (mtc y.x.first.toNat a)) (fun w' x'=>?_) ?_
    ·have:=HK (k:=y.x.first.toNat) hlt (hfa ((X4.trans x48).trans x')) (by omega)
     rw [show ((y.x.first.toNat:Nat):Int) = y.x.first by omega] at this
     exact this
    ·intro w9 x9
     exact hJ _ (x48.trans x9)
   ·intro w10 x10
    rw [← Bool.and_assoc,h3,Bool.false_and] at hJ
    exact hJ _ ((x7.trans x8).trans x10)
  ·rw [decide_eq_false h2,Bool.false_and] at hJ
   intro w11 x11 w12 x12
   exact hJ _ (x11.trans x12)
 rw [if_neg e1]
 refine iEq (iCndP (fun e2=>?_) (fun e2=>?_))
 ·rw [if_pos e2]
  refine iJnB (decide (y.x.second = 0) && (decide (0 ≤ y.x.first ∧ y.x.first ≤ ((L.map Prod.snd).length:Int) - 1) && decide (gt (L.map Prod.snd) y.x.first.toNat = y.x.N))) w4 (fun J hJ=>?_) (fun w6 x6=>fun _=>⟨rfl,X4.trans x6⟩)
  refine f2 x24 (iEq (iCndP (fun h2=>?_) (fun h2=>?_)))
  ·rw [decide_eq_true h2,Bool.true_and] at hJ
   refine f1 x24 (iLenS (hH.ext X4).row (iSub (by rw [List.length_map];omega) ?_))
   refine iRetQ (fun w' x'=>iB _ _ _ w') ?_
   rw [List.length_map] at hJ
   rw [List.length_map]
   refine iCndP (fun h3=>?_) (fun h3=>?_)
   ·rw [decide_eq_true h3,Bool.true_and] at hJ
    have hlt:y.x.first.toNat < L.length:=by omega
    have hpm:gt L y.x.first.toNat ∈ L:=by rw [gt_eq hlt];exact List.getElem_mem _
    obtain ⟨c,-,sc,hc⟩:=dI (hL _ hpm)
    refine f1 x24 ?_
    refine iIa (j:=y.x.first) (hH.ext X4).row h3.1 (by rw [List.length_map];omega) fun p hp=>?_
    rw [List.getElem?_map,List.getElem?_eq_getElem hlt,Option.map_some,← gt_eq hlt] at hp
    refine iLd hp (f3 x24 ?_)
    have hraw:=(hH.ext X4).raw _ hpm
    rw [hc] at hraw
    refine iRetQ (fun w' x'=>cW (SlK.ext (eE hraw) x') (hfa (X4.trans x')) (by omega)) ?_
    intro w15 x15
    rw [show gt (L.map Prod.snd) y.x.first.toNat = (gt L y.x.first.toNat).2 by rw [gt_eq (by rw [List.length_map];exact hlt),gt_eq hlt,List.getElem_map],hc,hN,S4] at hJ
    exact hJ _ x15
   ·intro w16 x16
    rw [decide_eq_false h3,Bool.false_and] at hJ
    exact hJ _ x16
  ·rw [decide_eq_false h2,Bool.false_and] at hJ
   intro w17 x17
   exact hJ _ x17
 rw [if_neg e2]
 refine iEq (iCndP (fun e3=>?_) (fun e3=>?_))
 ·rw [if_pos e3]
  refine iJnX (fun xs w'=>xs = [.bool (!(decide (0 ≤ y.x.first ∧ y.x.first ≤ (k:Int) - 1) && decide (0 ≤ y.x.second ∧ y.x.second ≤ (k:Int) - 1)))] ∧ Ext w4 w') (fun J hJ=>?_) ?_
  ·refine iNot (iCnd (fun h=>?_) (fun h=>?_))
   ·have h:decide (0 ≤ y.x.first ∧ y.x.first ≤ (k:Int) - 1) = false:=by rwa [Bool.not_eq_true'] at h
    exact hJ _ _ ⟨by rw [h];rfl,Ext.refl _⟩
   ·have h:decide (0 ≤ y.x.first ∧ y.x.first ≤ (k:Int) - 1) = true:=by rwa [Bool.not_eq_false'] at h
    refine f2 x24 (iSub (by omega) (iRet (iB _ _ _ w4) fun w20 x20=>iNot (hJ _ _ ⟨by rw [h,Bool.true_and],x20⟩)))
  rintro _ w19 ⟨rfl,x19⟩
  intro _
  simp only [gx]
  rw [← Bool.and_assoc]
  have X19:=X4.trans x19
  refine iCnd (fun h=>?_) (fun h=>?_)
  ·have h:(decide (0 ≤ y.x.first ∧ y.x.first ≤ (k:Int) - 1) && decide (0 ≤ y.x.second ∧ y.x.second ≤ (k:Int) - 1)) = false:=by rwa [Bool.not_eq_true'] at h
   rw [h,Bool.false_and]
   exact ⟨rfl,X19⟩
  ·have h:(decide (0 ≤ y.x.first ∧ y.x.first ≤ (k:Int) - 1) && decide (0 ≤ y.x.second ∧ y.x.second ≤ (k:Int) - 1)) = true:=by rwa [Bool.not_eq_false'] at h
   rw [h,Bool.true_and]
   rw [Bool.and_eq_true,decide_eq_true_eq,decide_eq_true_eq] at h
   obtain ⟨⟨r1,r2⟩,r3,r4⟩:=h
   have hj1:y.x.first.toNat < R.length:=by omega
   have hj2:y.x.second.toNat < R.length:=by omega
   have m1:gt R y.x.first.toNat ∈ R:=by rw [gt_eq hj1];exact List.getElem_mem _
   have m2:gt R y.x.second.toNat ∈ R:=by rw [gt_eq hj2];exact List.getElem_mem _
   obtain ⟨c,-,sc,hc⟩:=dI (dZ (hgood y.x.first.toNat (by omega)))
   obtain ⟨d,-,sd,hd⟩:=dI (dZ (hgood y.x.second.toNat (by omega)))
   have hvc:∀ {w':World},Ext w w' → FmS w' (gt R y.x.first.toNat).v c:=fun x=>eE (hc ▸ (hR.ext x).fm _ m1)
   have hvd:∀ {w':World},Ext w w' → FmS w' (gt R y.x.second.toNat).v d:=fun x=>eE (hd ▸ (hR.ext x).fm _ m2)
   have x219:=x24.trans x19
   refine f2 x219 (iFdH (j:=y.x.second.toNat) (hR.ext X19) (by omega) hj2 (by decide) (u:=(gt R y.x.second.toNat).v) rfl ?_)
   refine f1 x219 (iFdH (j:=y.x.first.toNat) (hR.ext X19) (by omega) hj1 (by decide) (u:=(gt R y.x.first.toNat).v) rfl ?_)
   refine f3 x219 ?_
   intro w21 x21
   have X21:=X19.trans x21
   refine iCall ((cK (k:=4) (c:=.imp d a) rfl rfl (hvd X21) (hfa X21) (by show 1 + d.size + a.size ≤ _;omega)).mono ?_)
   rintro v96 w22 ⟨x22,h96⟩
   refine ⟨x22,?_⟩
   refine iRetQ (fun w' x'=>cW (hvc ((X21.trans x22).trans x')) (SlK.ext h96.sl x') (by omega)) ?_
   intro w23 x23
   refine ⟨?_,(X21.trans x22).trans x23⟩
   congr 1
   rw [bR hj1,bR hj2,hc,hd,hN]
   exact (S4 (a:=c) (b:=.imp d a)).symm
 rw [if_neg e3]
 refine iEq (iCndP (fun e4=>?_) (fun e4=>?_))
 ·rw [if_pos e4]
  have s2:=UY ht
  refine iJnX (fun xs w'=>∃ b:Bool,xs = [.bool b] ∧ Ext w4 w' ∧ (b = true → (decide (2 ≤ sysNo t) && (decide (y.x.second = 0) && (decide (0 ≤ y.x.first ∧ y.x.first ≤ (k:Int) - 1) && (!(gt (usesB ((R.map HV.x).take k)) y.x.first.toNat) && decide (y.x.N = (5,0) :: (gt (R.map HV.x) y.x.first.toNat).N))))) = false) ∧
   (b = false → 2 ≤ sysNo t ∧ y.x.second = 0 ∧ (0 ≤ y.x.first ∧ y.x.first ≤ (k:Int) - 1) ∧ y.x.N = (5,0) :: (gt (R.map HV.x) y.x.first.toNat).N)) (fun J hJ=>?_) ?_
  ·refine f2 x24 (iNe (iCndP (fun h=>?_) (fun h=>?_)))
   ·intro w26 x26 w27 x27
    exact hJ _ _ ⟨true,rfl,x26.trans x27,fun _=>by rw [decide_eq_false h];simp,fun e=>by cases e⟩
   have h2:y.x.second = 0:=Classical.not_not.1 h
   refine iNot (iCnd (fun h3=>?_) (fun h3=>?_))
   ·have h3:decide (0 ≤ y.x.first ∧ y.x.first ≤ (k:Int) - 1) = false:=by rwa [Bool.not_eq_true'] at h3
    intro w28 x28 w29 x29
    exact hJ _ _ ⟨true,rfl,x28.trans x29,fun _=>by rw [h3];simp,fun e=>by cases e⟩
   have h3:0 ≤ y.x.first ∧ y.x.first ≤ (k:Int) - 1:=of_decide_eq_true (by rwa [Bool.not_eq_false'] at h3)
   refine iEqT (b:=[73,110,116]) (iCndP (fun h4=>?_) (fun h4=>iEqT (b:=[67,76]) (iCndP (fun h5=>?_) (fun h5=>?_))))
   ·intro w30 x30 w31 x31
    exact hJ _ _ ⟨true,rfl,x30.trans x31,fun _=>by rw [s2,decide_eq_true h4];simp,fun e=>by cases e⟩
   ·intro w32 x32 w33 x33
    exact hJ _ _ ⟨true,rfl,x32.trans x33,fun _=>by rw [s2,decide_eq_true h5];simp,fun e=>by cases e⟩
   rw [decide_eq_false h4,decide_eq_false h5] at s2
   have s2:2 ≤ sysNo t:=of_decide_eq_true s2
   have hj1:y.x.first.toNat < R.length:=by omega
   have m1:gt R y.x.first.toNat ∈ R:=by rw [gt_eq hj1];exact List.getElem_mem _
   obtain ⟨c,-,sc,hc⟩:=dI (dZ (hgood y.x.first.toNat (by omega)))
   have hvc:∀ {w':World},Ext w w' → FmS w' (gt R y.x.first.toNat).v c:=fun x=>eE (hc ▸ (hR.ext x).fm _ m1)
   refine f3 x24 (f1 x24 (iFdH (j:=y.x.first.toNat) (hR.ext X4) (by omega) hj1 (by decide) (u:=(gt R y.x.first.toNat).v) rfl ?_))
   intro w34 x34
   have X34:=X4.trans x34
   refine iCall ((jK (k:=5) (c:=.box c) rfl rfl (hvc X34) (by show 1 + c.size ≤ _;omega)).mono ?_)
   rintro v124 w35 ⟨x35,h124⟩
   refine ⟨x35,?_⟩
   refine iRetQ (fun w' x'=>cW (hfa ((X34.trans x35).trans x')) (SlK.ext h124.sl x') (by omega)) (iNot ?_)
   intro w36 x36
   have eN:(y.x.N = (5,0) :: (gt (R.map HV.x) y.x.first.toNat).N) ↔ a = .box c:=by
    rw [bR hj1,hc,hN]
    exact ⟨fun h=>pT h,fun h=>by rw [h];rfl⟩
   refine hJ _ _ ⟨_,rfl,(x34.trans x35).trans x36,fun h=>?_,fun h=>⟨s2,h2,h3,eN.2 (of_decide_eq_true (by rwa [Bool.not_eq_false'] at h))⟩⟩
   have h:¬ a = .box c:=of_decide_eq_false (by rwa [Bool.not_eq_true'] at h)
   rw [decide_eq_false (fun h'=>h (eN.1 h'))]
   simp
  rintro _ w25 ⟨b,rfl,x25,hb1,hb0⟩
  intro _
  simp only [gx]
  have X25:=X4.trans x25
  refine iCnd (fun h=>?_) (fun h=>?_)
  ·rw [hb1 h];exact ⟨rfl,X25⟩
  obtain ⟨r1,r2,r3,r4⟩:=hb0 h
  rw [decide_eq_true r1,decide_eq_true r2,decide_eq_true r3,decide_eq_true r4,Bool.true_and,Bool.true_and,Bool.true_and,Bool.and_true]
  refine UQ (hR.ext X25).row (show k ≤ R.length by omega) fun r hr=>?_
  rw [T0] at hr
  refine f1 (x24.trans x25) ?_
  intro w37 x37
  have X37:=X25.trans x37
  have htl:(R.take k).length = k:=by rw [List.length_take];omega
  have hRt:RdH w37 r (R.take k):=⟨by rw [htl];exact SlK.ext hr x37,fun z hz=>(hR.ext X37).fm z (List.mem_of_mem_take hz)⟩
  have gtt:∀ {j:Nat},j < k → gt (R.take k) j = gt R j:=fun {j} hj=>by
   rw [gt_eq (by omega),gt_eq (by omega),List.getElem_take]
  refine iCall ((iM (h:=L.length) hRt (by omega) hLl (fun j hj=>?_)).mono ?_)
  ·have hj:j < k:=by omega
   have hg:=hgood j hj
   rw [gtt hj]
   refine ⟨fun e=>?_,fun e=>?_,fun e=>?_⟩
   ·have:=(wC hg e).2.1
    rw [List.length_map] at this
    omega
   ·have:=lK hg e
    omega
   ·have:=(kF hg e).2.2.1
    omega
  rintro v131 w38 ⟨x38,D,hDl,hD,hDk⟩
  refine ⟨x38,?_⟩
  have hlt:y.x.first.toNat < D.length:=by omega
  obtain ⟨d1,d2⟩:=hDk y.x.first.toNat (by omega)
  refine iIa (j:=y.x.first) hD.sl (by omega) (by rw [List.length_map];omega) fun p hp=>?_
  rw [List.getElem?_map,List.getElem?_eq_getElem hlt,Option.map_some,← gt_eq hlt] at hp
  refine iLd hp (iLenI d1.sl (iEq ?_))
  intro w39 x39
  refine ⟨?_,(X37.trans x38).trans x39⟩
  congr 1
  rw [List.map_take] at d2
  cases hu:gt (usesB ((R.map HV.x).take k)) y.x.first.toNat with
  | false=>
   rw [d2.2 hu];rfl
  | true=>
   have:¬ (gt D y.x.first.toNat).2 = []:=fun e=>by rw [d2.1 e] at hu;cases hu
   have hpos:=List.length_pos_iff.2 this
   rw [decide_eq_false (by omega)];rfl
 rw [if_neg e4]
 exact ⟨rfl,X4⟩
end Go.Proofs.YtbfpohbmgjcjmaaGreatDoor

namespace Go.Vc
noncomputable def g9 (s:Nat) (H:List (List RN)) (L:List HL):Nat → Nat → Int
 | 0,_=>-1
 | n + 1,i=>if goodH s H L i (gt L i) = true then g9 s H L n (i + 1) else (i:Int)
noncomputable def badH (s:Nat) (H:List (List RN)) (L:List HL):Int:=g9 s H L L.length 0
theorem LU {s:Nat} {H:List (List RN)} {L:List HL}:∀ {n i:Nat},g9 s H L n i < 0 → ∀ k,i ≤ k → k < i + n → goodH s H L k (gt L k) = true
 | 0,_,_,k,h1,h2=>by omega
 | n + 1,i,h,k,h1,h2=>by
  rw [g9] at h
  split at h
  ·rename_i hg
   by_cases e:k = i
   ·rw [e];exact hg
   ·exact LU h k (by omega) (by omega)
  ·omega
theorem oN {s:Nat} {H:List (List RN)} {L:List HL}:∀ {n i:Nat},(∀ k,i ≤ k → k < i + n → goodH s H L k (gt L k) = true) → g9 s H L n i = -1
 | 0,_,_=>rfl
 | n + 1,i,h=>by
  rw [g9,if_pos (h i (Nat.le_refl _) (by omega))]
  exact oN fun k h1 h2=>h k (by omega) (by omega)
noncomputable def codeH (t:Str) (H:List (List RN)) (L:List HL) (proof:Bool):Int:=
 if ¬ sysNo t < 10 then 2 else if H.all isN = false then 1 else if L.length = 0 ∨ 200 < L.length then 3 else if proof = true ∧ 0 ≤ badH (sysNo t) H L then 5 else 0
theorem MT {t:Str}:((sysT t).length = 0) ↔ ¬ sysNo t < 10:=by
 unfold sysT
 by_cases h:sysNo t < 10
 ·rw [if_pos h]
  have key:∀ s:Fin 10,¬ (sysS s.val).length = 0:=by decide
  exact ⟨fun e=>absurd e (key ⟨_,h⟩),fun e=>absurd h e⟩
 ·rw [if_neg h];exact ⟨fun _=>h,fun _=>rfl⟩
end Go.Vc
namespace Go.Proofs.YtbfpohbmgjcjmaaGreatDoor
open Go.Vc
theorem PK {t:Str} (ht:sysNo t < 10) {v1 v2:Value} {L:List VN} {R:List HV} {w:World} (hH:RwN w v1 L) (hL:∀ p ∈ L,isN p.2 = true) (hLl:L.length ≤ 1000) (hR:RdH w v2 R) (hRl:R.length ≤ 1000) (hRs:∀ y ∈ R,y.x.N.length ≤ 1000000):
  Ret Tryz.prog GU #[sv t,v1,v2] w (.int .i64 (badH (sysNo t) (L.map Prod.snd) (R.map HV.x))):=by
 apply RV;unfold GO
 refine iLp (fun i:Nat=>[.int .i64 (i:Int)]) (fun i w'=>i ≤ R.length ∧ Ext w w' ∧ (∀ j,j < i → goodH (sysNo t) (L.map Prod.snd) (R.map HV.x) j (gt R j).x = true) ∧ g9 (sysNo t) (L.map Prod.snd) (R.map HV.x) (R.length - i) i = badH (sysNo t) (L.map Prod.snd) (R.map HV.x)) (fun i=>R.length - i) 0 rfl ⟨Nat.zero_le _,Ext.refl _,fun j hj=>absurd hj (Nat.not_lt_zero j),by unfold badH;rw [List.length_map];rfl⟩ ?_
 rintro i w2 Kn ⟨hi,x2,hg,hb⟩ hKn
 intro _
 simp only [gx]
 refine iLenK (hR.ext x2).row (iLt (iCndP (fun hlt=>?_) (fun hlt=>?_)))
 ·have hil:i < R.length:=by omega
  refine iRet (OR ht (hH.ext x2) hL hLl (hR.ext x2) hRl hRs hil hg) fun w3 x3=>iNot (iCnd (fun h=>?_) (fun h=>?_))
  ·have h:¬ goodH (sysNo t) (L.map Prod.snd) (R.map HV.x) i (gt R i).x = true:=by rw [Bool.not_eq_true'] at h;rw [h];decide
   refine ⟨?_,x2.trans x3⟩
   rw [← hb,show R.length - i = (R.length - (i + 1)) + 1 by omega,g9,bR hil,if_neg h]
  ·have h:goodH (sysNo t) (L.map Prod.snd) (R.map HV.x) i (gt R i).x = true:=by rwa [Bool.not_eq_false'] at h
   refine iAdd (by omega) ?_
   refine hKn (i + 1) _ ⟨hil,x2.trans x3,fun j hj=>?_,?_⟩ (by omega)
   ·by_cases e:j = i
    ·rw [e];exact h
    ·exact hg j (by omega)
   ·rw [← hb,show R.length - i = (R.length - (i + 1)) + 1 by omega,g9,bR hil,if_pos h]
 ·have:i = R.length:=by omega
  subst this
  rw [Nat.sub_self] at hb
  rw [← hb]
  exact ⟨rfl,x2⟩
theorem rF {t:Str} {v1 v2:Value} {L:List VN} {R:List HV} {w:World} (hH:RwN w v1 L) (hLl:L.length ≤ 1000) (hLs:∀ p ∈ L,p.2.length ≤ 1000000) (hR:RdH w v2 R) (hRs:∀ y ∈ R,y.x.N.length ≤ 1000000) (proof:Bool):
  Ret Tryz.prog FD #[sv t,v1,v2,.bool proof] w (.int .i64 (codeH t (L.map Prod.snd) (R.map HV.x) proof)):=by
 have hRln:=hR.row.len
 apply QR;unfold FC
 unfold codeH
 refine iCall ((wI t w).mono ?_)
 rintro u w1 ⟨x1,hu⟩
 refine iLenN hu (iEq (iCndP (fun h=>?_) (fun h=>?_)))
 ·have:¬ sysNo t < 10:=MT.1 (by omega)
  rw [if_pos this]
  exact ⟨rfl,x1⟩
 have ht:sysNo t < 10:=Classical.byContradiction fun e=>h (by rw [MT.2 e];rfl)
 rw [if_neg (fun h=>h ht)]
 refine iLp (fun i:Nat=>[.int .i64 (i:Int)]) (fun i w'=>i ≤ L.length ∧ Ext w w' ∧ ∀ j,j < i → isN (gt L j).2 = true) (fun i=>L.length - i) 0 rfl ⟨Nat.zero_le _,x1,fun j hj=>absurd hj (Nat.not_lt_zero j)⟩ ?_
 rintro i w3 Kn ⟨hi,x3,hg⟩ hKn
 intro _
 simp only [gx]
 refine iLenS (hH.ext x3).row ?_
 rw [List.length_map]
 refine iLt (iCndP (fun hlt=>?_) (fun hlt=>?_))
 ·have hil:i < L.length:=by omega
  have hm:gt L i ∈ L:=by rw [gt_eq hil];exact List.getElem_mem _
  refine iIa (j:=(i:Int)) (hH.ext x3).row (by omega) (by rw [List.length_map];omega) fun p hp=>?_
  rw [Int.toNat_natCast,List.getElem?_map,List.getElem?_eq_getElem hil,Option.map_some,← gt_eq hil] at hp
  refine iLd hp (iRet (lG ((hH.ext x3).raw _ hm) (by have:=hLs _ hm;omega)) fun w4 x4=>iNot (iCnd (fun h=>?_) (fun h=>?_)))
  ·have h:isN (gt L i).2 = false:=by rwa [Bool.not_eq_true'] at h
   rw [if_pos (List.all_eq_false.2 ⟨(gt L i).2,List.mem_map.2 ⟨_,hm,rfl⟩,by rw [h];decide⟩)]
   exact ⟨rfl,x3.trans x4⟩
  ·have h:isN (gt L i).2 = true:=by rwa [Bool.not_eq_false'] at h
   refine iAdd (by omega) ?_
   refine hKn (i + 1) _ ⟨hil,x3.trans x4,fun j hj=>?_⟩ (by omega)
   by_cases e:j = i
   ·rw [e];exact h
   ·exact hg j (by omega)
 have hall:∀ p ∈ L,isN p.2 = true:=fun p hp=>by
  obtain ⟨j,hj,rfl⟩:=List.getElem_of_mem hp
  rw [← gt_eq hj];exact hg j (by omega)
 have ha:(L.map Prod.snd).all isN = true:=List.all_eq_true.2 fun N hN=>by
  obtain ⟨p,hp,rfl⟩:=List.mem_map.1 hN
  exact hall p hp
 rw [if_neg (by rw [ha];decide),List.length_map]
 refine iJnX (fun xs w'=>xs = [.bool (decide (R.length = 0 ∨ 200 < R.length))] ∧ w' = w3) (fun J hJ=>?_) ?_
 ·refine iLenK (hR.ext x3).row (iEq (iCndP (fun h=>?_) (fun h=>?_)))
  ·exact hJ _ _ ⟨by rw [decide_eq_true (.inl (by omega))],rfl⟩
  ·refine iLenK (hR.ext x3).row (iLt (hJ _ _ ⟨?_,rfl⟩))
   congr 2
   exact decide_eq_decide.2 ⟨fun h=>.inr (by omega),fun h=>by omega⟩
 rintro _ w6 ⟨rfl,rfl⟩
 intro _
 simp only [gx]
 refine iCndP (fun h=>?_) (fun h=>?_)
 ·rw [if_pos h];exact ⟨rfl,x3⟩
 rw [if_neg h]
 refine iJnX (fun xs w'=>xs = [.bool (proof && decide (0 ≤ badH (sysNo t) (L.map Prod.snd) (R.map HV.x)))] ∧ Ext w6 w') (fun J hJ=>?_) ?_
 ·refine iCnd (fun hp=>?_) (fun hp=>hJ _ _ ⟨by rw [hp];rfl,Ext.refl _⟩)
  refine iRet (PK ht (hH.ext x3) hall hLl (hR.ext x3) (by omega) hRs) fun w9 x9=>iLe (hJ _ _ ⟨by rw [hp,Bool.true_and],x9⟩)
 rintro _ w8 ⟨rfl,x8⟩
 intro _
 simp only [gx]
 refine iCnd (fun hb=>?_) (fun hb=>?_)
 ·rw [Bool.and_eq_true,decide_eq_true_eq] at hb
  rw [if_pos hb]
  exact ⟨rfl,x3.trans x8⟩
 ·rw [if_neg (fun h'=>by rw [h'.1,decide_eq_true h'.2] at hb;cases hb)]
  exact ⟨rfl,x3.trans x8⟩
end Go.Proofs.YtbfpohbmgjcjmaaGreatDoor

namespace Go.Proofs.YtbfpohbmgjcjmaaGreatDoor
open Go.Vc
structure OwH (lo:Nat) (w:World) (v:Value) (R:List HV):Prop where
 row:OwK 4 lo aC w v R.length (bD R)
 fm:∀ y ∈ R,RawW 0 aA w y.v y.x.N
theorem OwH.ext {lo:Nat} {w w':World} {v:Value} {R:List HV} (h:OwH lo w v R) (x:Ext w w'):OwH lo w' v R:=⟨OwK.ext h.row x,fun y hy=>OwK.ext (h.fm y hy) x⟩
theorem OwH.rd {lo:Nat} {w:World} {v:Value} {R:List HV} (h:OwH lo w v R):RdH w v R:=⟨h.row.sl,fun y hy=>OwK.sl (h.fm y hy)⟩
def TyL (lo:Nat) (w:World) (c:Nat):Prop:=lo ≤ c ∧ ∃ cs,Blk aC w c cs
def LCh (lo:Nat) (w w':World):Prop:=Ch (TyL lo w) w w'
theorem LCh.ext {lo:Nat} {w w':World} (x:Ext w w'):LCh lo w w':=x.ch
theorem LCh.trans {lo:Nat} {w w' w'':World} (h:LCh lo w w') (k:LCh lo w' w''):LCh lo w w'':=by
 refine Ch.trans h k fun c hc=>?_
 by_cases hlt:c < w.heap.size
 ·by_cases hs:TyL lo w c
  ·exact .inl hs
  ·refine .inl ?_
   have:=h.block c hlt hs
   obtain ⟨h1,cs,h2⟩:=hc
   refine ⟨h1,cs,?_⟩
   unfold Blk at *
   rw [← this];exact h2
 ·exact .inr (by omega)
theorem LCh.x {lo:Nat} {w w' w'':World} (h:LCh lo w w') (x:Ext w' w''):LCh lo w w'':=h.trans (LCh.ext x)
theorem OwK.lch {k lo lo' n:Nat} {e:TypeId} {w w':World} {v:Value} {xs:List Value} (h:OwK k lo e w v n xs) (x:LCh lo' w w') (h2:e ≠ aC):OwK k lo e w' v n xs:=OwK.ch h x fun c hc hS=>by
 obtain ⟨_,cs,hS⟩:=hS
 exact OwK.ne_blk h hS h2 hc
theorem aK {v0 v1:Value} {a b:Fm} {w:World} (h0:FmS w v0 a) (h1:FmS w v1 b) (hs:a.size ≤ 1000000 ∧ b.size ≤ 1000000):Cal Tryz.prog BG #[v0,v1] w fun r w'=>Ext w w' ∧ FmW w.heap.size w' r (.imp a b):=by
 apply PA;unfold BP
 refine iCall ((cK (k:=4) (c:=.imp a b) rfl rfl h0 h1 (by show 1 + a.size + b.size ≤ _;omega)).mono ?_)
 rintro r w1 h
 exact h
theorem FY {z0 z1 z2 z3 a b c d:Value} {K:Value → Prop} (ha:aF a = true) (hb:aF b = true) (hc:aF c = true) (hd:aF d = true) (h:K (.agg #[a,b,c,d])):aR #[z0,z1,z2,z3] #[(0,1),(1,1),(2,1),(3,1)] [(0,a),(1,b),(2,c),(3,d)] K:=
 f8 (cs:=#[a,b,c,d]) (by simp [Instr.fill,aH ha,aH hb,aH hc,aH hd]) h
theorem iBs14 {w:World} {e:TypeId} {a b c d z0 z1 z2 z3:Value} {K:Value → World → Prop} (h:∀ q w',q = w.heap.size → Ext w w' → Blk e w' q [a,b,c,d] → K (.slice (some ⟨q,0,none⟩) 1 1) w'):
  xBs e (Value.cells (.agg #[z0,z1,z2,z3])) 4 1 [(0,.agg #[a,b,c,d])] w K:=by
 refine ⟨#[a,b,c,d],?_,h _ _ rfl (Ext.alloc w _) (Blk.new w #[a,b,c,d] e)⟩
 simp [Instr.fill,Value.cells,show Array.range 4 = #[0,1,2,3] from rfl]
theorem rT {lo:Nat} {v0 v4:Value} {R:List HV} {N:List RN} {rule first second:Int} {w:World} (h:OwH lo w v0 R) (hf:RawS w v4 N) (hN:N.length ≤ 1000000) (hR:R.length ≤ 1000000) (hlo:lo ≤ w.heap.size):
  Cal Tryz.prog iA #[v0,.int .i64 rule,.int .i64 first,.int .i64 second,v4] w fun r w'=>LCh lo w w' ∧ Ch (fun c=>v0.ownBlock = some c) w w' ∧ ∃ u y,r = .tuple #[u,.int .i64 (R.length:Int)] ∧ (u.ownBlock = v0.ownBlock ∨ ∃ c,u.ownBlock = some c ∧ w.heap.size ≤ c) ∧ y.x = ⟨rule,first,second,N⟩ ∧ OwH lo w' u (R ++ [y]):=by
 apply R4;unfold G5
 refine iCall ((dQ hf hN).mono ?_)
 rintro v17 w1 ⟨x1,h17⟩
 refine FY rfl rfl rfl (OwK.cell h17) ?_
 refine iBs14 fun q w2 hq x2 hB=>?_
 have X2:=x1.trans x2
 have h2:=h.ext X2
 have hs:SlK 4 w2 (.slice (some ⟨q,0,none⟩) 1 1) 1 [.int .i64 rule,.int .i64 first,.int .i64 second,v17]:=SlK.ofBlk (n:=1) hB rfl (by decide)
 refine iAppK JY I5 rfl (by decide) h2.row hs (fun y hy=>?_) (by omega) (by omega) (Nat.le_trans hlo X2.size) fun v20 w3 ho hg hn=>?_
 ·simp only [List.mem_cons,List.not_mem_nil,or_false] at hy
  rcases hy with rfl | rfl | rfl | rfl
  ·rfl
  ·rfl
  ·rfl
  ·exact OwK.cell h17
 have hch:=bJ (S:=fun c=>v0.ownBlock = some c) hg fun c hc=>hc
 have hL:LCh lo w2 w3:=hch.mono fun c hc=>by
  obtain ⟨cur,hh⟩:=OwK.ty h2.row hc
  exact ⟨(OwK.blk h2.row c hc).1,cur.toList,by unfold Blk;rw [hh]⟩
 refine iLenK h.row.sl ?_
 refine ⟨(LCh.ext X2).trans hL,X2.ch.trans hch fun c hc=>.inl hc,v20,⟨⟨rule,first,second,N⟩,v17⟩,rfl,hn.imp id fun ⟨c,h1,h2⟩=>⟨c,h1,Nat.le_trans X2.size h2⟩,rfl,?_,fun y hy=>?_⟩
 ·rw [FT,List.length_append]
  exact ho
 ·rcases List.mem_append.1 hy with hy | hy
  ·exact OwK.lch (h2.fm y hy) hL (by decide)
  ·rw [List.mem_singleton.1 hy]
   exact OwK.lch (OwK.mono (OwK.ext h17 x2) (Nat.zero_le _)) hL (by decide)
theorem cI {lo:Nat} {v0 v4:Value} {R:List HV} {N:List RN} {rule first second:Int} {w:World} (h:OwH lo w v0 R) (hf:RawS w v4 N) (hN:N.length ≤ 1000000) (hR:R.length ≤ 1000000) (hlo:lo ≤ w.heap.size):
  Cal Tryz.prog iA #[v0,.int .i64 rule,.int .i64 first,.int .i64 second,v4] w fun r w'=>LCh lo w w' ∧ ∃ u y,r = .tuple #[u,.int .i64 (R.length:Int)] ∧ y.x = ⟨rule,first,second,N⟩ ∧ OwH lo w' u (R ++ [y]):=
 (rT h hf hN hR hlo).mono fun _ _ ⟨h1,_,u,y,h2,_,h3⟩=>⟨h1,u,y,h2,h3⟩
end Go.Proofs.YtbfpohbmgjcjmaaGreatDoor

namespace Go.Proofs.YtbfpohbmgjcjmaaGreatDoor
open Go.Vc
theorem N6 {lo:Nat} {v0 v2 v3:Value} {R:List HV} {at_:Int} {a c:Fm} {w:World} (h:OwH lo w v0 R) (ha:∀ w',LCh lo w w' → FmS w' v2 a) (hc:∀ w',LCh lo w w' → FmS w' v3 c) (hs:a.size ≤ 10000 ∧ c.size ≤ 10000) (hR:R.length ≤ 100000) (hlo:lo ≤ w.heap.size):
  Cal Tryz.prog FB #[v0,.int .i64 at_,v2,v3] w fun r w'=>LCh lo w w' ∧ ∃ u Y,r = .tuple #[u,.int .i64 ((R.length + 1:Nat):Int)] ∧ Y.map HV.x = [⟨1,0,0,impN (rawF c) (impN (rawF a) (rawF c))⟩,⟨3,(R.length:Int),at_,impN (rawF a) (rawF c)⟩] ∧ OwH lo w' u (R ++ Y):=by
 have l0:LCh lo w w:=LCh.ext (Ext.refl w)
 have two:(Fm.imp a c).size = 1 + a.size + c.size:=rfl
 have three:(Fm.imp c (.imp a c)).size = 1 + c.size + (1 + a.size + c.size):=rfl
 apply PM;unfold EZ
 refine iCall ((aK (ha w l0) (hc w l0) (by omega)).mono ?_)
 rintro v16 w1 ⟨x1,h16⟩
 refine iCall ((aK (hc w1 (LCh.ext x1)) h16.sl (by omega)).mono ?_)
 rintro v17 w2 ⟨x2,h17⟩
 have X2:=x1.trans x2
 refine iCall ((cI (h.ext X2) (N:=rawF (.imp c (.imp a c))) (FmS.rawS h17.sl) (by rw [aG];omega) (by omega) (Nat.le_trans hlo X2.size)).mono ?_)
 rintro _ w3 ⟨k3,u3,y1,rfl,hy1,o3⟩
 have L3:=(LCh.ext X2).trans k3
 refine iE20 (iE21 ?_)
 refine iCall ((aK (ha w3 L3) (hc w3 L3) (by omega)).mono ?_)
 rintro v26 w4 ⟨x4,h26⟩
 refine iCall ((cI (o3.ext x4) (N:=rawF (.imp a c)) (FmS.rawS h26.sl) (by rw [aG];omega) (by rw [List.length_append,List.length_singleton];omega) (Nat.le_trans hlo (L3.x x4).size)).mono ?_)
 rintro _ w5 ⟨k5,u5,y2,rfl,hy2,o5⟩
 refine iE20 (iE21 ⟨(L3.x x4).trans k5,u5,[y1,y2],by rw [List.length_append,List.length_singleton],?_,by rw [List.append_assoc] at o5;exact o5⟩)
 rw [List.map_cons,List.map_cons,List.map_nil,hy1,hy2]
 rfl
theorem NY {lo:Nat} {v0 v1:Value} {R:List HV} {A:Fm} {w:World} (h:OwH lo w v0 R) (ha:∀ w',LCh lo w w' → FmS w' v1 A) (hs:A.size ≤ 10000) (hR:R.length ≤ 100000) (hlo:lo ≤ w.heap.size):
  Cal Tryz.prog CX #[v0,v1] w fun r w'=>LCh lo w w' ∧ ∃ u Y,r = .tuple #[u,.int .i64 ((R.length + 4:Nat):Int)] ∧ Y.map HV.x = (let a:=rawF A;let n:=(R.length:Int);[⟨1,0,0,impN a (impN (impN a a) a)⟩,⟨1,1,0,impN (impN a (impN (impN a a) a)) (impN (impN a (impN a a)) (impN a a))⟩,⟨3,n + 1,n,impN (impN a (impN a a)) (impN a a)⟩,⟨1,0,0,impN a (impN a a)⟩,⟨3,n + 2,n + 3,impN a a⟩]) ∧ OwH lo w' u (R ++ Y):=by
 have l0:LCh lo w w:=LCh.ext (Ext.refl w)
 have s1:(Fm.imp A A).size = 1 + A.size + A.size:=rfl
 have s2:(Fm.imp (.imp A A) A).size = 1 + (Fm.imp A A).size + A.size:=rfl
 have s3:(Fm.imp A (.imp (.imp A A) A)).size = 1 + A.size + (Fm.imp (.imp A A) A).size:=rfl
 have s4:(Fm.imp A (.imp A A)).size = 1 + A.size + (Fm.imp A A).size:=rfl
 have s5:(Fm.imp (.imp A (.imp A A)) (.imp A A)).size = 1 + (Fm.imp A (.imp A A)).size + (Fm.imp A A).size:=rfl
 have s6:(Fm.imp (.imp A (.imp (.imp A A) A)) (.imp (.imp A (.imp A A)) (.imp A A))).size = 1 + (Fm.imp A (.imp (.imp A A) A)).size + (Fm.imp (.imp A (.imp A A)) (.imp A A)).size:=rfl
 have len:∀ (Q:List HV) (x:HV),(Q ++ [x]).length = Q.length + 1:=fun Q x=>by rw [List.length_append,List.length_singleton]
 have k2:∀ {k n lo':Nat} {w' w'':World} {v:Value} {xs:List Value},OwK k lo' aA w' v n xs → LCh lo w' w'' → OwK k lo' aA w'' v n xs:=fun h x=>OwK.lch h x (by decide)
 apply QB;unfold EE
 refine iCall ((aK (ha w l0) (ha w l0) (by omega)).mono ?_)
 rintro v15 w1 ⟨x1,h15⟩
 refine iCall ((aK h15.sl (ha w1 (LCh.ext x1)) (by omega)).mono ?_)
 rintro v19 w2 ⟨x2,h19⟩
 refine iCall ((aK (ha w2 (LCh.ext (x1.trans x2))) h19.sl (by omega)).mono ?_)
 rintro v20 w3 ⟨x3,h20⟩
 have X3:=(x1.trans x2).trans x3
 have h15:=OwK.ext h15 (x2.trans x3)
 refine iCall ((aK (ha w3 (LCh.ext X3)) h15.sl (by omega)).mono ?_)
 rintro v23 w4 ⟨x4,h23⟩
 have X4:=X3.trans x4
 have h15:=OwK.ext h15 x4
 have h20:=OwK.ext h20 x4
 refine iCall ((cI (h.ext X4) (N:=rawF (.imp A (.imp (.imp A A) A))) (FmS.rawS h20.sl) (by rw [aG];omega) (by omega) (Nat.le_trans hlo X4.size)).mono ?_)
 rintro _ w5 ⟨k5,u5,y1,rfl,hy1,o5⟩
 have L5:=(LCh.ext X4).trans k5
 have h15:=k2 h15 k5
 have h20:=k2 h20 k5
 have h23:=k2 h23 k5
 refine iE20 (iE21 ?_)
 refine iCall ((aK h23.sl h15.sl (by omega)).mono ?_)
 rintro v35 w6 ⟨x6,h35⟩
 have h20:=OwK.ext h20 x6
 refine iCall ((aK h20.sl h35.sl (by omega)).mono ?_)
 rintro v36 w7 ⟨x7,h36⟩
 have x67:=x6.trans x7
 have h15:=OwK.ext h15 x67
 have h23:=OwK.ext h23 x67
 have L7:=L5.x x67
 refine iCall ((cI (o5.ext x67) (N:=rawF (.imp (.imp A (.imp (.imp A A) A)) (.imp (.imp A (.imp A A)) (.imp A A)))) (FmS.rawS h36.sl) (by rw [aG];omega) (by rw [len];omega) (Nat.le_trans hlo L7.size)).mono ?_)
 rintro _ w8 ⟨k8,u8,y2,rfl,hy2,o8⟩
 have L8:=L7.trans k8
 have h15:=k2 h15 k8
 have h23:=k2 h23 k8
 refine iE20 (iE21 ?_)
 refine iCall ((aK h23.sl h15.sl (by omega)).mono ?_)
 rintro v46 w9 ⟨x9,h46⟩
 have h15:=OwK.ext h15 x9
 have h23:=OwK.ext h23 x9
 have L9:=L8.x x9
 refine iCall ((cI (o8.ext x9) (N:=rawF (.imp (.imp A (.imp A A)) (.imp A A))) (FmS.rawS h46.sl) (by rw [aG];omega) (by rw [len,len];omega) (Nat.le_trans hlo L9.size)).mono ?_)
 rintro _ w10 ⟨k10,u10,y3,rfl,hy3,o10⟩
 have L10:=L9.trans k10
 have h15:=k2 h15 k10
 have h23:=k2 h23 k10
 refine iE20 (iE21 ?_)
 refine iCall ((cI o10 (N:=rawF (.imp A (.imp A A))) (FmS.rawS h23.sl) (by rw [aG];omega) (by rw [len,len,len];omega) (Nat.le_trans hlo L10.size)).mono ?_)
 rintro _ w11 ⟨k11,u11,y4,rfl,hy4,o11⟩
 have L11:=L10.trans k11
 have h15:=k2 h15 k11
 refine iE20 (iE21 ?_)
 refine iCall ((cI o11 (N:=rawF (.imp A A)) (FmS.rawS h15.sl) (by rw [aG];omega) (by rw [len,len,len,len];omega) (Nat.le_trans hlo L11.size)).mono ?_)
 rintro _ w12 ⟨k12,u12,y5,rfl,hy5,o12⟩
 refine iE20 (iE21 ⟨L11.trans k12,u12,[y1,y2,y3,y4,y5],by rw [len,len,len,len],?_,by simpa using o12⟩)
 simp only [List.map_cons,List.map_nil,hy1,hy2,hy3,hy4,hy5,len]
 rfl
end Go.Proofs.YtbfpohbmgjcjmaaGreatDoor

namespace Go.Proofs.YtbfpohbmgjcjmaaGreatDoor
open Go.Vc
theorem BR {y:HV} {v1:Value} {own:List Int} {w:World} (hy:RawS w y.v y.x.N) (hN:y.x.N.length ≤ 1000000) (hown:SlI w v1 own) (h3:y.x.rule = 3 → (0 ≤ y.x.first ∧ y.x.first < (own.length:Int)) ∧ 0 ≤ y.x.second ∧ y.x.second < (own.length:Int)) (h4:y.x.rule = 4 → 0 ≤ y.x.first ∧ y.x.first < (own.length:Int)):
  Cal Tryz.prog E5 #[.agg y.cs.toArray,v1] w fun r w'=>Ext w w' ∧ ∃ v',r = .agg (HV.cs ⟨mvH y.x own,v'⟩).toArray ∧ RawW w.heap.size aA w' v' y.x.N:=by
 apply PN;unfold EQ
 refine iNew4 fun q2 w1 hq2 x1 hB1=>?_
 refine iNew4 fun q4 w2 hq4 x2 hB2=>?_
 have hA:Blk aC w2 q2 [.int .i64 y.x.rule,.int .i64 y.x.first,.int .i64 y.x.second,y.v]:=hB1.ext x2
 refine iFa (iLdB hA (i:=0) (v:=.int .i64 y.x.rule) rfl ?_)
 refine iFa (iLdB hA (i:=1) (v:=.int .i64 y.x.first) rfl ?_)
 refine iFa (iLdB hA (i:=2) (v:=.int .i64 y.x.second) rfl ?_)
 refine iFa (iLdB hA (i:=3) (v:=y.v) rfl ?_)
 have X2:=x1.trans x2
 intro w3 x3
 constructor
 ·refine iCall ((dQ (SlK.ext hy (X2.trans x3)) hN).mono ?_)
  rintro v14 w4 ⟨x4,h14⟩
  refine ⟨x4,FY rfl rfl rfl (OwK.cell h14) ?_⟩
  intro w5 x5
  refine iNew4 fun q5 w6 hq5 x6 hB6=>⟨x6,?_⟩
  intro w7 x7
  refine iStAB (hB6.ext x7) rfl rfl (fun z hz=>?_) fun w8 u8 hB8=>?_
  ·simp only [List.mem_cons,List.not_mem_nil,or_false] at hz
   rcases hz with rfl | rfl | rfl | rfl
   ·rfl
   ·rfl
   ·rfl
   ·exact OwK.cell h14
  intro W x9
  have x25:=(x3.trans x4).trans x5
  have s1:=x1.size
  have s2:=x2.size
  have s25:=x25.size
  have l2:=(hA.ext x25).lt
  have l4:=(hB2.ext x25).lt
  have hc8:=u8.ch (S:=fun c=>c = q5) rfl
  have XW:Ext w W:=(((X2.trans x25).trans (x6.trans x7)).thenCh hc8 fun c hc=>by omega).trans x9
  have hB5:Blk aC W q5 [.int .i64 y.x.rule,.int .i64 y.x.first,.int .i64 y.x.second,v14]:=hB8.ext x9
  have hB4:Blk aC W q4 [.int .i64 0,.int .i64 0,.int .i64 0,.slice none 0 0]:=((hB2.ext (x25.trans (x6.trans x7))).ch hc8 (by show ¬ q4 = q5;omega)).ext x9
  have hB2:Blk aC W q2 [.int .i64 y.x.rule,.int .i64 y.x.first,.int .i64 y.x.second,y.v]:=((hA.ext (x25.trans (x6.trans x7))).ch hc8 (by show ¬ q2 = q5;omega)).ext x9
  have h14:RawW w.heap.size aA W v14 y.x.N:=OwK.mono (OwK.ext (OwK.ch (OwK.ext h14 (x5.trans (x6.trans x7))) hc8 fun c hc hS=>by
   subst hS
   exact OwK.ne_blk (OwK.ext h14 (x5.trans (x6.trans x7))) (hB6.ext x7) (by decide) hc) x9) (X2.trans x3).size
  have f0:∀ {w':World} {K:Value → Prop},Blk aC w' q2 [.int .i64 y.x.rule,.int .i64 y.x.first,.int .i64 y.x.second,y.v] → K (.int .i64 y.x.rule) → xFa 0 (.pointer (some ⟨q2,0,none⟩)) fun p=>xLd w' p K:=fun hB h=>iFa (iLdB hB (i:=0) (v:=.int .i64 y.x.rule) rfl h)
  refine iJnX (fun xs w'=>xs = [.bool (decide (y.x.rule = 3 ∨ y.x.rule = 4))] ∧ w' = W) (fun J hJ=>?_) ?_
  ·refine f0 hB2 (iEq (iCndP (fun e=>?_) (fun e=>f0 hB2 (iEq ?_))))
   ·exact hJ _ _ ⟨by rw [decide_eq_true (.inl e)],rfl⟩
   ·refine hJ _ _ ⟨?_,rfl⟩
    congr 2
    exact decide_eq_decide.2 ⟨fun h=>.inr h,fun h=>h.resolve_left e⟩
  rintro _ W1 ⟨rfl,rfl⟩
  intro _
  simp only [gx]
  refine iJnX (fun xs w'=>xs = [] ∧ ∃ f:Int,f = (if y.x.rule = 3 ∨ y.x.rule = 4 then gt own y.x.first.toNat else y.x.first) ∧ Blk aC w' q5 [.int .i64 y.x.rule,.int .i64 f,.int .i64 y.x.second,v14] ∧ Ch (fun c=>c = q5) W1 w') (fun J hJ=>?_) ?_
  ·refine iCndP (fun e=>?_) (fun e=>hJ _ _ ⟨rfl,_,by rw [if_neg e],hB5,(Ext.refl _).ch⟩)
   have hr:0 ≤ y.x.first ∧ y.x.first < (own.length:Int):=e.elim (fun h=>(h3 h).1) h4
   refine iFa (iLdB hB2 (i:=1) (v:=.int .i64 y.x.first) rfl ?_)
   refine iIaI (hown.ext XW) hr.1 hr.2 fun p hp=>iLd hp ?_
   refine iFa (iStU hB5 (by simp) rfl fun w14 hB14 u14=>?_)
   refine hJ _ _ ⟨rfl,_,by rw [if_pos e],?_,u14.ch (S:=fun c=>c = q5) rfl⟩
   have:own.getD y.x.first.toNat 0 = gt own y.x.first.toNat:=rfl
   rw [← this]
   exact hB14
  rintro _ w13 ⟨rfl,f,hf,hB13,hc13⟩
  intro _
  have ne2:q2 ≠ q5:=by omega
  have ne4:q4 ≠ q5:=by omega
  have hB2':=hB2.ch hc13 ne2
  have hB4':=hB4.ch hc13 ne4
  have X13:Ext w w13:=XW.thenCh hc13 fun c hc=>by omega
  have fin:∀ {w':World} {g:Int},mvH y.x own = ⟨y.x.rule,f,g,y.x.N⟩ → Blk aC w' q5 [.int .i64 y.x.rule,.int .i64 f,.int .i64 g,v14] → Blk aC w' q4 [.int .i64 0,.int .i64 0,.int .i64 0,.slice none 0 0] → Ch (fun c=>c = q5) W1 w' → xLdA w' 4 (.pointer (some ⟨q5,0,none⟩)) fun v39=>xStA Tryz.prog w' 4 (.pointer (some ⟨q4,0,none⟩)) v39 fun w16=>xLdA w16 4 (.pointer (some ⟨q4,0,none⟩)) fun r=>(Ext w w16 ∧ ∃ v',r = .agg (HV.cs ⟨mvH y.x own,v'⟩).toArray ∧ RawW w.heap.size aA w16 v' y.x.N):=fun {w' g} hm b5 b4 hc=>by
   refine iLdA b5 rfl (iStAB b4 rfl rfl (fun z hz=>?_) fun w16 u16 hB16=>?_)
   ·simp only [List.mem_cons,List.not_mem_nil,or_false] at hz
    rcases hz with rfl | rfl | rfl | rfl
    ·rfl
    ·rfl
    ·rfl
    ·exact OwK.cell h14
   refine iLdA hB16 rfl ?_
   have hc16:=u16.ch (S:=fun c=>c = q4) rfl
   refine ⟨(XW.thenCh hc fun c hc=>by omega).thenCh hc16 fun c hc=>by omega,v14,by rw [hm];rfl,?_⟩
   have k1:RawW w.heap.size aA w' v14 y.x.N:=OwK.ch h14 hc fun c hc' hS=>by
    subst hS
    exact OwK.ne_blk h14 hB5 (by decide) hc'
   exact OwK.ch k1 hc16 fun c hc' hS=>by
    subst hS
    exact OwK.ne_blk k1 b4 (by decide) hc'
  refine f0 hB2' (iEq (iCndP (fun e=>?_) (fun e=>?_)))
  ·obtain ⟨-,r1,r2⟩:=h3 e
   refine iFa (iLdB hB2' (i:=2) (v:=.int .i64 y.x.second) rfl ?_)
   refine iIaI (hown.ext X13) r1 r2 fun p hp=>iLd hp ?_
   refine iFa (iStU hB13 (by simp) rfl fun w15 hB15 u15=>?_)
   have hc15:=u15.ch (S:=fun c=>c = q5) rfl
   refine fin (g:=gt own y.x.second.toNat) ?_ hB15 (hB4'.ch hc15 ne4) (hc13.trans hc15 fun c hc=>.inl hc)
   unfold mvH
   rw [if_pos e,hf,if_pos (.inl e)]
  ·refine fin (g:=y.x.second) ?_ hB13 hB4' hc13
   unfold mvH
   rw [if_neg e]
   by_cases e4:y.x.rule = 4
   ·rw [if_pos e4,hf,if_pos (.inr e4)]
   ·rw [if_neg e4,hf,if_neg (fun h=>h.elim e e4)]
 ·refine iNew4 fun q5 w20 hq5 x20 hB20=>⟨x20,?_⟩
  intro w21 x21
  refine iCall ((dQ (SlK.ext hy (((X2.trans x3).trans x20).trans x21)) hN).mono ?_)
  rintro v14 w22 ⟨x22,h14⟩
  refine ⟨x22,FY rfl rfl rfl (OwK.cell h14) ?_⟩
  intro w23 x23
  have x2023:=(x21.trans x22).trans x23
  refine iStAB (hB20.ext x2023) rfl rfl (fun z hz=>?_) fun w8 u8 hB8=>?_
  ·simp only [List.mem_cons,List.not_mem_nil,or_false] at hz
   rcases hz with rfl | rfl | rfl | rfl
   ·rfl
   ·rfl
   ·rfl
   ·exact OwK.cell h14
  intro W x9
  have s1:=x1.size
  have s2:=x2.size
  have s3:=x3.size
  have l2:=(hA.ext x3).lt
  have l4:=(hB2.ext x3).lt
  have hc8:=u8.ch (S:=fun c=>c = q5) rfl
  have x323:=x20.trans x2023
  have XW:Ext w W:=(((X2.trans x3).trans x323).thenCh hc8 fun c hc=>by omega).trans x9
  have hB5:Blk aC W q5 [.int .i64 y.x.rule,.int .i64 y.x.first,.int .i64 y.x.second,v14]:=hB8.ext x9
  have hB4:Blk aC W q4 [.int .i64 0,.int .i64 0,.int .i64 0,.slice none 0 0]:=((hB2.ext (x3.trans x323)).ch hc8 (by show ¬ q4 = q5;omega)).ext x9
  have hB2:Blk aC W q2 [.int .i64 y.x.rule,.int .i64 y.x.first,.int .i64 y.x.second,y.v]:=((hA.ext (x3.trans x323)).ch hc8 (by show ¬ q2 = q5;omega)).ext x9
  have h14:RawW w.heap.size aA W v14 y.x.N:=OwK.mono (OwK.ext (OwK.ch (OwK.ext h14 x23) hc8 fun c hc hS=>by
   subst hS
   exact OwK.ne_blk (OwK.ext h14 x23) (hB20.ext x2023) (by decide) hc) x9) (((X2.trans x3).trans x20).trans x21).size
  have f0:∀ {w':World} {K:Value → Prop},Blk aC w' q2 [.int .i64 y.x.rule,.int .i64 y.x.first,.int .i64 y.x.second,y.v] → K (.int .i64 y.x.rule) → xFa 0 (.pointer (some ⟨q2,0,none⟩)) fun p=>xLd w' p K:=fun hB h=>iFa (iLdB hB (i:=0) (v:=.int .i64 y.x.rule) rfl h)
  refine iJnX (fun xs w'=>xs = [.bool (decide (y.x.rule = 3 ∨ y.x.rule = 4))] ∧ w' = W) (fun J hJ=>?_) ?_
  ·refine f0 hB2 (iEq (iCndP (fun e=>?_) (fun e=>f0 hB2 (iEq ?_))))
   ·exact hJ _ _ ⟨by rw [decide_eq_true (.inl e)],rfl⟩
   ·refine hJ _ _ ⟨?_,rfl⟩
    congr 2
    exact decide_eq_decide.2 ⟨fun h=>.inr h,fun h=>h.resolve_left e⟩
  rintro _ W1 ⟨rfl,rfl⟩
  intro _
  simp only [gx]
  refine iJnX (fun xs w'=>xs = [] ∧ ∃ f:Int,f = (if y.x.rule = 3 ∨ y.x.rule = 4 then gt own y.x.first.toNat else y.x.first) ∧ Blk aC w' q5 [.int .i64 y.x.rule,.int .i64 f,.int .i64 y.x.second,v14] ∧ Ch (fun c=>c = q5) W1 w') (fun J hJ=>?_) ?_
  ·refine iCndP (fun e=>?_) (fun e=>hJ _ _ ⟨rfl,_,by rw [if_neg e],hB5,(Ext.refl _).ch⟩)
   have hr:0 ≤ y.x.first ∧ y.x.first < (own.length:Int):=e.elim (fun h=>(h3 h).1) h4
   refine iFa (iLdB hB2 (i:=1) (v:=.int .i64 y.x.first) rfl ?_)
   refine iIaI (hown.ext XW) hr.1 hr.2 fun p hp=>iLd hp ?_
   refine iFa (iStU hB5 (by simp) rfl fun w14 hB14 u14=>?_)
   refine hJ _ _ ⟨rfl,_,by rw [if_pos e],?_,u14.ch (S:=fun c=>c = q5) rfl⟩
   have:own.getD y.x.first.toNat 0 = gt own y.x.first.toNat:=rfl
   rw [← this]
   exact hB14
  rintro _ w13 ⟨rfl,f,hf,hB13,hc13⟩
  intro _
  have ne2:q2 ≠ q5:=by omega
  have ne4:q4 ≠ q5:=by omega
  have hB2':=hB2.ch hc13 ne2
  have hB4':=hB4.ch hc13 ne4
  have X13:Ext w w13:=XW.thenCh hc13 fun c hc=>by omega
  have fin:∀ {w':World} {g:Int},mvH y.x own = ⟨y.x.rule,f,g,y.x.N⟩ → Blk aC w' q5 [.int .i64 y.x.rule,.int .i64 f,.int .i64 g,v14] → Blk aC w' q4 [.int .i64 0,.int .i64 0,.int .i64 0,.slice none 0 0] → Ch (fun c=>c = q5) W1 w' → xLdA w' 4 (.pointer (some ⟨q5,0,none⟩)) fun v39=>xStA Tryz.prog w' 4 (.pointer (some ⟨q4,0,none⟩)) v39 fun w16=>xLdA w16 4 (.pointer (some ⟨q4,0,none⟩)) fun r=>(Ext w w16 ∧ ∃ v',r = .agg (HV.cs ⟨mvH y.x own,v'⟩).toArray ∧ RawW w.heap.size aA w16 v' y.x.N):=fun {w' g} hm b5 b4 hc=>by
   refine iLdA b5 rfl (iStAB b4 rfl rfl (fun z hz=>?_) fun w16 u16 hB16=>?_)
   ·simp only [List.mem_cons,List.not_mem_nil,or_false] at hz
    rcases hz with rfl | rfl | rfl | rfl
    ·rfl
    ·rfl
    ·rfl
    ·exact OwK.cell h14
   refine iLdA hB16 rfl ?_
   have hc16:=u16.ch (S:=fun c=>c = q4) rfl
   refine ⟨(XW.thenCh hc fun c hc=>by omega).thenCh hc16 fun c hc=>by omega,v14,by rw [hm];rfl,?_⟩
   have k1:RawW w.heap.size aA w' v14 y.x.N:=OwK.ch h14 hc fun c hc' hS=>by
    subst hS
    exact OwK.ne_blk h14 hB5 (by decide) hc'
   exact OwK.ch k1 hc16 fun c hc' hS=>by
    subst hS
    exact OwK.ne_blk k1 b4 (by decide) hc'
  refine f0 hB2' (iEq (iCndP (fun e=>?_) (fun e=>?_)))
  ·obtain ⟨-,r1,r2⟩:=h3 e
   refine iFa (iLdB hB2' (i:=2) (v:=.int .i64 y.x.second) rfl ?_)
   refine iIaI (hown.ext X13) r1 r2 fun p hp=>iLd hp ?_
   refine iFa (iStU hB13 (by simp) rfl fun w15 hB15 u15=>?_)
   have hc15:=u15.ch (S:=fun c=>c = q5) rfl
   refine fin (g:=gt own y.x.second.toNat) ?_ hB15 (hB4'.ch hc15 ne4) (hc13.trans hc15 fun c hc=>.inl hc)
   unfold mvH
   rw [if_pos e,hf,if_pos (.inl e)]
  ·refine fin (g:=y.x.second) ?_ hB13 hB4' hc13
   unfold mvH
   rw [if_neg e]
   by_cases e4:y.x.rule = 4
   ·rw [if_pos e4,hf,if_pos (.inr e4)]
   ·rw [if_neg e4,hf,if_neg (fun h=>h.elim e e4)]
end Go.Proofs.YtbfpohbmgjcjmaaGreatDoor

namespace Go.Vc
theorem kG {t:Str} {H:List (List RN)} {L:List HL} (h:codeH t H L true = 0):sysNo t < 10 ∧ (∀ N ∈ H,isN N = true) ∧ 0 < L.length ∧ L.length ≤ 200 ∧ ∀ k,k < L.length → goodH (sysNo t) H L k (gt L k) = true:=by
 unfold codeH at h
 split at h
 ·cases h
 rename_i h1
 split at h
 ·cases h
 rename_i h2
 split at h
 ·cases h
 rename_i h3
 split at h
 ·cases h
 rename_i h4
 have h2:H.all isN = true:=by cases e:H.all isN with | true=>rfl | false=>exact absurd e h2
 refine ⟨Classical.not_not.1 h1,List.all_eq_true.1 h2,by omega,by omega,fun k hk=>?_⟩
 have hb:badH (sysNo t) H L < 0:=by
  have:¬ 0 ≤ badH (sysNo t) H L:=fun h=>h4 ⟨rfl,h⟩
  omega
 exact LU hb k (Nat.zero_le _) (by omega)
end Go.Vc
namespace Go.Proofs.YtbfpohbmgjcjmaaGreatDoor
open Go.Vc
theorem yK {t:Str} {v1 v2:Value} {L:List VN} {R:List HV} {w:World} (hH:RwN w v1 L) (hLl:L.length ≤ 1000) (hLs:∀ p ∈ L,p.2.length ≤ 1000000) (hR:RdH w v2 R) (hRs:∀ y ∈ R,y.x.N.length ≤ 1000000) (h0:codeH t (L.map Prod.snd) (R.map HV.x) true = 0):
  Cal Tryz.prog mI #[sv t,v1,v2] w fun r w'=>Ext w w' ∧ ∃ u,r = .tuple #[u,.int .i64 0] ∧ RawW w.heap.size aA w' u (gt R (R.length - 1)).x.N:=by
 obtain ⟨-,-,l1,l2,-⟩:=kG h0
 rw [List.length_map] at l1 l2
 have hm:gt R (R.length - 1) ∈ R:=by rw [gt_eq (by omega)];exact List.getElem_mem _
 apply z4;unfold mC
 refine iRet (rF hH hLl hLs hR hRs true) fun w1 x1=>?_
 rw [h0]
 refine iNe (iCndF (by decide) (iLenK (hR.ext x1).row (iSub (by omega) ?_)))
 refine iFdH (j:=R.length - 1) (hR.ext x1) (by omega) (by omega) (by decide) (u:=(gt R (R.length - 1)).v) rfl ?_
 refine iCall ((dQ ((hR.ext x1).fm _ hm) (hRs _ hm)).mono ?_)
 rintro u w2 ⟨x2,hu⟩
 exact ⟨x1.trans x2,u,rfl,OwK.mono hu x1.size⟩
end Go.Proofs.YtbfpohbmgjcjmaaGreatDoor

namespace Go.Vc
instance:Inhabited Fm:=⟨.fls⟩
def gH:List Fm → Fm
 | []=>.fls
 | [x]=>x
 | x :: y :: l=>.imp x (gH (y :: l))
theorem T5 {fs:List Fm} {i:Nat} (h:i + 1 < fs.length):gH (fs.drop i) = .imp (gt fs i) (gH (fs.drop (i + 1))):=by
 rw [List.drop_eq_getElem_cons (show i < fs.length by omega),List.drop_eq_getElem_cons h,gt_eq (by omega)]
 rfl
theorem LT:∀ {fs:List Fm},0 < fs.length → (gH fs).size + 1 ≤ sizeL fs + fs.length
 | [x],_=>by simp [gH,sizeL]
 | x :: y :: l,_=>by
  have:=LT (fs:=y :: l) (by simp)
  have e1:sizeL (x :: y :: l) = x.size + sizeL (y :: l):=by simp [sizeL]
  have e2:(gH (x :: y :: l)).size = 1 + x.size + (gH (y :: l)).size:=rfl
  have e3:(x :: y :: l).length = (y :: l).length + 1:=rfl
  omega
theorem WA (fs:List Fm) (i:Nat):sizeL (fs.drop i) ≤ sizeL fs:=by
 have e:=congrArg sizeL (List.take_append_drop i fs)
 rw [bY] at e
 omega
end Go.Vc
namespace Go.Proofs.YtbfpohbmgjcjmaaGreatDoor
open Go.Vc
theorem iW {t:Str} {v1:Value} {L:List VN} {w:World} (hH:RwN w v1 L) (hLs:∀ p ∈ L,p.2.length ≤ 1000000):Ret Tryz.prog qN #[sv t,v1] w (.int .i64 (if ¬ sysNo t < 10 then 2 else if (L.map Prod.snd).all isN = false then 1 else 0)):=by
 apply E8;unfold qA
 refine iCall ((xU t w).mono ?_)
 rintro _ w1 ⟨x1,u,rfl,-⟩
 refine iE20 (iE21 (iNot (iCnd (fun h=>?_) (fun h=>?_))))
 ·have h:¬ sysNo t < 10:=of_decide_eq_false (by rwa [Bool.not_eq_true'] at h)
  rw [if_pos h];exact ⟨rfl,x1⟩
 have h:sysNo t < 10:=of_decide_eq_true (by rwa [Bool.not_eq_false'] at h)
 rw [if_neg (fun h'=>h' h)]
 refine iRet (rJ (hH.ext x1) (fun p hp=>by have:=hLs p hp;omega)) fun w2 x2=>?_
 have e:(L.map Prod.snd).all isN = L.all fun q=>isN q.2:=by rw [List.all_map];rfl
 rw [e]
 refine iNot (iCnd (fun h=>?_) (fun h=>?_))
 ·rw [Bool.not_eq_true'] at h
  rw [if_pos h];exact ⟨rfl,x1.trans x2⟩
 ·rw [Bool.not_eq_false'] at h
  rw [if_neg (by rw [h];decide)];exact ⟨rfl,x1.trans x2⟩
theorem sN {v:Value} {R:List HV} {w:World} (h:RdH w v R):Ret Tryz.prog vZ #[v] w (.bool (decide (1 ≤ R.length ∧ R.length ≤ 200))):=by
 apply JP;unfold vE
 refine iJnB (decide (1 ≤ R.length ∧ R.length ≤ 200)) w (fun J hJ=>?_) (fun w2 x2=>fun _=>⟨rfl,x2⟩)
 refine iLenK h.row (iLe (iCndP (fun h1=>iLenK h.row (iLe ?_)) (fun h1=>?_)))
 ·rw [show decide ((R.length:Int) ≤ 200) = decide (1 ≤ R.length ∧ R.length ≤ 200) from decide_eq_decide.2 (by omega)]
  exact hJ _ (Ext.refl _)
 ·rw [decide_eq_false (by omega)] at hJ
  exact hJ _ (Ext.refl _)
def premH (x:HL):List Int:=if x.rule = 3 then [x.first,x.second] else if x.rule = 4 then [x.first] else []
theorem o9 {y:HV} {w:World}:Cal Tryz.prog kK #[.agg y.cs.toArray] w fun r w'=>Ext w w' ∧ Ow w.heap.size t_i64 w' r (ints (premH y.x)):=by
 apply FR;unfold rK
 refine iNew4 fun q w1 hq x1 hB=>?_
 have hB:Blk aC w1 q [.int .i64 y.x.rule,.int .i64 y.x.first,.int .i64 y.x.second,y.v]:=hB
 unfold premH
 refine iFa (iLdB hB (i:=0) (v:=.int .i64 y.x.rule) rfl (iEq (iCndP (fun h=>?_) (fun h=>iEq (iCndP (fun h4=>?_) (fun h4=>?_))))))
 ·rw [if_pos h]
  refine iFa (iLdB hB (i:=1) (v:=.int .i64 y.x.first) rfl (iFa (iLdB hB (i:=2) (v:=.int .i64 y.x.second) rfl ?_)))
  exact iBs2 rfl rfl rfl fun c w2 hc x2 hB2=>⟨x1.trans x2,Ow.ofBlk (n:=2) hB2 (by have:=x1.size;omega) rfl (by decide)⟩
 ·rw [if_neg h,if_pos h4]
  refine iFa (iLdB hB (i:=1) (v:=.int .i64 y.x.first) rfl ?_)
  exact iBs1 rfl rfl fun c w2 hc x2 hB2=>⟨x1.trans x2,Ow.ofBlk (n:=1) hB2 (by have:=x1.size;omega) rfl (by decide)⟩
 ·rw [if_neg h,if_neg h4]
  exact ⟨x1,Ow.nil _ _ _⟩
theorem DE {y:HV} {w:World}:Cal Tryz.prog kK #[.agg y.cs.toArray] w fun r w'=>Ext w w' ∧ SlI w' r (premH y.x):=
 o9.mono fun _ _ ⟨h1,h2⟩=>⟨h1,h2.sl⟩
theorem pM {v:Value} {vs:List Value} {fs:List Fm} {w:World} (hs:Sl w v vs) (hl:vs.length = fs.length) (hf:∀ j,j < fs.length → ∃ u,vs[j]? = some u ∧ FmS w u (gt fs j)) (h2:2 ≤ fs.length) (hf9:fs.length ≤ 100) (hsz:sizeL fs ≤ 1000000):Cal Tryz.prog jX #[v] w fun r w'=>Ext w w' ∧ FmW 0 w' r (gH fs):=by
 apply zV;unfold qW
 obtain ⟨u0,k1,k2⟩:=hf (fs.length - 1) (by omega)
 refine iLenS hs (iSub (by omega) ?_)
 rw [hl]
 refine iIa (j:=(fs.length:Int) - 1) hs (by omega) (by omega) fun p hp=>?_
 rw [show ((fs.length:Int) - 1).toNat = fs.length - 1 by omega,k1] at hp
 refine iLd hp (iLenS hs (iSub (by omega) ?_))
 rw [hl]
 have e0:gH (fs.drop (fs.length - 1)) = gt fs (fs.length - 1):=by
  rw [List.drop_eq_getElem_cons (show fs.length - 1 < fs.length by omega),gt_eq (by omega),List.drop_of_length_le (by omega)];rfl
 refine iLp (fun s:Value × Nat=>[s.1,.int .i64 ((s.2:Int) - 1)]) (fun s w'=>s.2 + 1 ≤ fs.length ∧ Ext w w' ∧ FmS w' s.1 (gH (fs.drop s.2)) ∧ (s.2 + 1 < fs.length → FmW 0 w' s.1 (gH (fs.drop s.2)))) (fun s=>s.2) (u0,fs.length - 1) (by show [u0,Value.int .i64 (((fs.length - 1:Nat):Int) - 1)] = [u0,.int .i64 ((fs.length:Int) - 2)];congr 3;omega) ⟨by show fs.length - 1 + 1 ≤ _;omega,Ext.refl _,by rw [e0];exact k2,fun h=>by have h:fs.length - 1 + 1 < fs.length:=h;omega⟩ ?_
 rintro ⟨z,i⟩ w2 Kn ⟨hi,x2,hz,hz0⟩ hKn
 have hi:i + 1 ≤ fs.length:=hi
 have hz:FmS w2 z (gH (fs.drop i)):=hz
 intro _
 simp only [gx]
 refine iLe (iCndP (fun h=>?_) (fun h=>?_))
 ·have hi1:1 ≤ i:=by omega
  obtain ⟨u,c1,c2⟩:=hf (i - 1) (by omega)
  refine iIa (j:=(i:Int) - 1) (hs.ext x2) (by omega) (by omega) fun p hp=>?_
  rw [show ((i:Int) - 1).toNat = i - 1 by omega,c1] at hp
  refine iLd hp ?_
  have ed:=T5 (fs:=fs) (i:=i - 1) (by omega)
  rw [show i - 1 + 1 = i by omega] at ed
  have es:=LT (fs:=fs.drop (i - 1)) (by rw [List.length_drop];omega)
  have es2:=WA fs (i - 1)
  rw [ed,List.length_drop] at es
  refine iCall ((dP (k:=4) (c:=.imp (gt fs (i - 1)) (gH (fs.drop i))) rfl rfl (SlK.ext c2 x2) hz (by omega)).mono ?_)
  rintro r w3 ⟨x3,hr⟩
  refine iSub (by omega) ?_
  rw [show (i:Int) - 1 - 1 = ((i - 1:Nat):Int) - 1 by omega]
  refine hKn (r,i - 1) _ ⟨by show i - 1 + 1 ≤ fs.length;omega,x2.trans x3,by show FmS w3 r (gH (fs.drop (i - 1)));rw [ed];exact hr.sl,fun _=>by show FmW 0 w3 r (gH (fs.drop (i - 1)));rw [ed];exact OwK.mono hr (Nat.zero_le _)⟩ (by show i - 1 < i;omega)
 ·have:i = 0:=by omega
  subst this
  exact ⟨x2,hz0 (by show 0 + 1 < fs.length;omega)⟩
end Go.Proofs.YtbfpohbmgjcjmaaGreatDoor

namespace Go.Proofs.YtbfpohbmgjcjmaaGreatDoor
open Go.Vc
theorem KY {v0 v1:Value} {ps at_:List Int} {w:World} (h0:SlI w v0 ps) (h1:SlI w v1 at_) (hin:∀ q ∈ ps,0 ≤ q ∧ q < (at_.length:Int)) (hl:ps.length ≤ 1000000):Cal Tryz.prog B2 #[v0,v1] w fun r w'=>Ext w w' ∧ Ow w.heap.size t_i64 w' r (ints (ps.map fun j=>gt at_ j.toNat)):=by
 apply O1;unfold BT
 refine iLenI h0 ?_
 refine iLp (fun s:Value × Nat=>[s.1,.int .i64 (s.2:Int)]) (fun s w'=>s.2 ≤ ps.length ∧ Ext w w' ∧ Ow w.heap.size t_i64 w' s.1 (ints ((ps.take s.2).map fun j=>gt at_ j.toNat))) (fun s=>ps.length - s.2) (.slice none 0 0,0) rfl ⟨Nat.zero_le _,Ext.refl _,Ow.nil _ _ _⟩ ?_
 rintro ⟨r,i⟩ w2 Kn ⟨hi,x2,ho⟩ hKn
 have hi:i ≤ ps.length:=hi
 have ho:Ow w.heap.size t_i64 w2 r (ints ((ps.take i).map fun j=>gt at_ j.toNat)):=ho
 intro _
 simp only [gx]
 refine iLt (iCndP (fun h=>?_) (fun h=>?_))
 ·have hil:i < ps.length:=by omega
  refine iIaN (h0.ext x2) hil fun p hp=>?_
  have e:ps.getD i 0 = ps[i]:=by simp [hil]
  rw [e] at hp
  have etk:ps.take (i + 1) = ps.take i ++ [ps[i]]:=List.take_succ_eq_append_getElem hil
  obtain ⟨q0,q1⟩:=hin _ (List.getElem_mem hil)
  generalize ps[i] = q at *
  refine iLd hp ?_
  refine iIaI (h1.ext x2) q0 q1 fun p2 hp2=>?_
  have e2:at_.getD q.toNat 0 = gt at_ q.toNat:=rfl
  rw [e2] at hp2
  refine iLd hp2 ?_
  have hlen:(ints ((ps.take i).map fun j=>gt at_ j.toNat)).length = i:=by rw [aL,List.length_map,List.length_take];omega
  refine iP fL fQ rfl ho rfl (by rw [hlen];omega) (by rw [hlen];omega) x2.size fun r' w5 ho5 hg5 _=>?_
  refine iAdd (by omega) ?_
  refine hKn (r',i + 1) _ ⟨hil,x2.grown hg5 fun b hb=>(ho.blk b hb).1,?_⟩ (by show ps.length - (i + 1) < ps.length - i;omega)
  show Ow _ _ _ r' (ints ((ps.take (i + 1)).map fun j=>gt at_ j.toNat))
  rw [etk,List.map_append]
  rw [show ints ((ps.take i).map (fun j=>gt at_ j.toNat) ++ [q].map fun j=>gt at_ j.toNat) = ints ((ps.take i).map fun j=>gt at_ j.toNat) ++ [.int .i64 (gt at_ q.toNat)] by simp [ints]]
  exact ho5
 ·have:i = ps.length:=by omega
  subst this
  rw [List.take_length] at ho
  exact ⟨x2,ho⟩
theorem nU {y:HV} {v1:Value} {own:List Int} {w:World} (hy:RawS w y.v y.x.N) (hN:y.x.N.length ≤ 1000000) (hN0:0 < y.x.N.length) (hown:SlI w v1 own) (h3:y.x.rule = 3 → (0 ≤ y.x.first ∧ y.x.first < (own.length:Int)) ∧ 0 ≤ y.x.second ∧ y.x.second < (own.length:Int)) (h4:y.x.rule = 4 → 0 ≤ y.x.first ∧ y.x.first < (own.length:Int)):
  Cal Tryz.prog pH #[.agg y.cs.toArray,v1] w fun r w'=>Ext w w' ∧ ∃ v',r = .agg (HV.cs ⟨mvH y.x own,v'⟩).toArray ∧ RawW w.heap.size aA w' v' y.x.N:=by
 apply CE;unfold pG
 refine iNew4 fun q2 w1 hq2 x1 hB1=>?_
 refine iNew4 fun q4 w2 hq4 x2 hB2=>?_
 have hA:Blk aC w2 q2 [.int .i64 y.x.rule,.int .i64 y.x.first,.int .i64 y.x.second,y.v]:=hB1.ext x2
 have X2:=x1.trans x2
 refine iFa (iLdB hA (i:=3) (v:=y.v) rfl ?_)
 refine iCall ((mV (SlK.ext hy X2) hN0 hN).mono ?_)
 rintro v8 w3 ⟨x3,h8⟩
 refine iFa (iStU (hA.ext x3) (by simp) (OwK.cell h8) fun w4 hB4 u4=>?_)
 have hc4:=u4.ch (S:=fun c=>c = q2) rfl
 have hB4:Blk aC w4 q2 [.int .i64 y.x.rule,.int .i64 y.x.first,.int .i64 y.x.second,v8]:=hB4
 have l2:=hA.lt
 have s1:=x1.size
 have s2:=x2.size
 have X4:Ext w w4:=(X2.trans x3).thenCh hc4 fun c hc=>by omega
 have hZ4:Blk aC w4 q4 [.int .i64 0,.int .i64 0,.int .i64 0,.slice none 0 0]:=(hB2.ext x3).ch hc4 (by show ¬ q4 = q2;omega)
 have h84:RawW w2.heap.size aA w4 v8 y.x.N:=OwK.ch h8 hc4 fun c hc hS=>by
  subst hS
  exact OwK.ne_blk h8 (hA.ext x3) (by decide) hc
 refine iLdA hB4 rfl ?_
 refine iCall ((DE (y:=⟨y.x,v8⟩) (w:=w4)).mono ?_)
 rintro v11 w5 ⟨x5,h11⟩
 have h11:SlI w5 v11 (premH y.x):=h11
 refine iCall ((KY h11 (hown.ext (X4.trans x5)) (fun q hq=>?_) (by
  unfold premH
  repeat' split
  all_goals simp)).mono ?_)
 ·unfold premH at hq
  split at hq
  ·rename_i e
   have:=h3 e
   simp only [List.mem_cons,List.not_mem_nil,or_false] at hq
   rcases hq with rfl | rfl
   ·exact this.1
   ·exact this.2
  ·split at hq
   ·rename_i e
    rw [List.mem_singleton.1 hq];exact h4 e
   ·cases hq
 rintro v13 w6 ⟨x6,h13⟩
 have X6:=(X4.trans x5).trans x6
 have hB6:=hB4.ext (x5.trans x6)
 have hZ6:=hZ4.ext (x5.trans x6)
 have h86:RawW w2.heap.size aA w6 v8 y.x.N:=OwK.ext h84 (x5.trans x6)
 have fin:∀ {w':World} {f g:Int},mvH y.x own = ⟨y.x.rule,f,g,y.x.N⟩ → Blk aC w' q2 [.int .i64 y.x.rule,.int .i64 f,.int .i64 g,v8] → Ch (fun c=>c = q2) w6 w' → xLdA w' 4 (.pointer (some ⟨q2,0,none⟩)) fun v28=>xStA Tryz.prog w' 4 (.pointer (some ⟨q4,0,none⟩)) v28 fun w9=>xLdA w9 4 (.pointer (some ⟨q4,0,none⟩)) fun r=>(Ext w w9 ∧ ∃ v',r = .agg (HV.cs ⟨mvH y.x own,v'⟩).toArray ∧ RawW w.heap.size aA w9 v' y.x.N):=fun {w' f g} hm b2 hc=>by
  have b4:=hZ6.ch hc (by show ¬ q4 = q2;omega)
  refine iLdA b2 rfl (iStAB b4 rfl rfl (fun z hz=>?_) fun w9 u9 hB9=>?_)
  ·simp only [List.mem_cons,List.not_mem_nil,or_false] at hz
   rcases hz with rfl | rfl | rfl | rfl
   ·rfl
   ·rfl
   ·rfl
   ·exact OwK.cell h8
  refine iLdA hB9 rfl ?_
  have hc9:=u9.ch (S:=fun c=>c = q4) rfl
  refine ⟨(X6.thenCh hc fun c hc=>by omega).thenCh hc9 fun c hc=>by omega,v8,by rw [hm];rfl,OwK.mono ?_ X2.size⟩
  have k1:RawW w2.heap.size aA w' v8 y.x.N:=OwK.ch h86 hc fun c hc' hS=>by
   subst hS
   exact OwK.ne_blk h86 hB6 (by decide) hc'
  exact OwK.ch k1 hc9 fun c hc' hS=>by
   subst hS
   exact OwK.ne_blk k1 b4 (by decide) hc'
 have hlen:((premH y.x).map fun j=>gt own j.toNat).length = (premH y.x).length:=List.length_map _
 refine iLenI h13.sl ?_
 rw [hlen]
 by_cases e3:y.x.rule = 3
 ·have ep:premH y.x = [y.x.first,y.x.second]:=if_pos e3
  rw [ep] at h13 ⊢
  refine iLt (iCndT (by simp) ?_)
  refine iIaI (j:=0) h13.sl (by decide) (by simp) fun p hp=>iLd hp ?_
  refine iFa (iStU hB6 (by simp) rfl fun w7 hB7 u7=>?_)
  have hc7:=u7.ch (S:=fun c=>c = q2) rfl
  have h137:Ow w5.heap.size t_i64 w7 v13 _:=h13.ch hc7 fun c hc hS=>by
   subst hS
   exact h13.ne_blk hB6 (by decide) hc
  refine iLenI h137.sl (iLt (iCndT (by simp) ?_))
  refine iIaI (j:=1) h137.sl (by decide) (by simp) fun p hp=>iLd hp ?_
  refine iFa (iStU hB7 (by simp) rfl fun w8 hB8 u8=>?_)
  refine fin ?_ hB8 (hc7.trans (u8.ch (S:=fun c=>c = q2) rfl) fun c hc=>.inl hc)
  unfold mvH
  rw [if_pos e3];rfl
 by_cases e4:y.x.rule = 4
 ·have ep:premH y.x = [y.x.first]:=by unfold premH;rw [if_neg e3,if_pos e4]
  rw [ep] at h13 ⊢
  refine iLt (iCndT (by simp) ?_)
  refine iIaI (j:=0) h13.sl (by decide) (by simp) fun p hp=>iLd hp ?_
  refine iFa (iStU hB6 (by simp) rfl fun w7 hB7 u7=>?_)
  have hc7:=u7.ch (S:=fun c=>c = q2) rfl
  have h137:Ow w5.heap.size t_i64 w7 v13 _:=h13.ch hc7 fun c hc hS=>by
   subst hS
   exact h13.ne_blk hB6 (by decide) hc
  refine iLenI h137.sl (iLt (iCndF (by simp) ?_))
  refine fin ?_ hB7 hc7
  unfold mvH
  rw [if_neg e3,if_pos e4];rfl
 ·have ep:premH y.x = []:=by unfold premH;rw [if_neg e3,if_neg e4]
  rw [ep]
  refine iLt (iCndF (by simp) ?_)
  refine fin ?_ hB6 (Ext.refl _).ch
  unfold mvH
  rw [if_neg e3,if_neg e4]
end Go.Proofs.YtbfpohbmgjcjmaaGreatDoor

namespace Go.Vc
theorem RH {l:List Int} {n i:Nat} {t:Int} (hl:l.length = i) (hi:i < n):(l ++ List.replicate (n - i) 0).set i t = (l ++ [t]) ++ List.replicate (n - (i + 1)) 0:=by
 subst hl
 rw [List.set_append,if_neg (Nat.lt_irrefl _),Nat.sub_self,show n - l.length = (n - (l.length + 1)) + 1 by omega,List.replicate_succ,List.set_cons_zero,List.append_assoc]
 rfl
theorem VR {l:List Int} {n i:Nat} (hi:i < n):l ++ List.replicate (n - i) (0:Int) = (l ++ [0]) ++ List.replicate (n - (i + 1)) 0:=by
 rw [show n - i = (n - (i + 1)) + 1 by omega,List.replicate_succ,List.append_assoc]
 rfl
theorem MZ (a:List RN) (last:Int) (L:List HL):∀ k,(disK a last L k).own.length = k ∧ (disK a last L k).lift.length = k ∧ (disK a last L k).out.length ≤ 5 * k
 | 0=>⟨rfl,rfl,Nat.le_refl _⟩
 | k + 1=>by
  obtain ⟨h1,h2,h3⟩:=MZ a last L k
  rw [disK]
  unfold cN
  repeat' split
  all_goals
   simp only [List.length_append,List.length_cons,List.length_nil,weakL]
   refine ⟨?_,?_,?_⟩ <;> omega
end Go.Vc
namespace Go.Proofs.YtbfpohbmgjcjmaaGreatDoor
open Go.Vc
theorem ZP {x:HL} {own Z:List Int} {n:Nat} (h:inH n own.length x):mvH x (own ++ Z) = mvH x own:=by
 obtain ⟨-,h3,h4⟩:=h
 unfold mvH
 split
 ·rename_i e
  obtain ⟨⟨a1,a2⟩,a3,a4⟩:=h3 e
  rw [bK (by omega),bK (by omega)]
 ·split
  ·rename_i e
   have:=h4 e
   rw [bK (by omega)]
  ·rfl
theorem Q8 (l:List Int) (j:Nat) (t:Int):(ints l).set j (.int .i64 t) = ints (l.set j t):=by simp [ints,List.map_set]
theorem mvH_N (x:HL) (own:List Int):(mvH x own).N = x.N:=by
 unfold mvH
 split
 ·rfl
 ·split <;> rfl
theorem LCh.ext0 {w w1 w2:World} (X:Ext w w1) (h:LCh w.heap.size w1 w2):Ext w w2:=X.thenCh h fun _ hc=>hc.1
theorem VK {lo:Nat} {w:World} {z:Value} {z0 z1 z2 z3:Value} {R:List HV} {y:HV} {K:Value → World → Prop} (h:OwH lo w z R) (hy:RawW 0 aA w y.v y.x.N) (hR:R.length ≤ 1000000) (hlo:lo ≤ w.heap.size) (hK:∀ u w',LCh lo w w' → Ch (fun c=>z.ownBlock = some c) w w' → (u.ownBlock = z.ownBlock ∨ ∃ c,u.ownBlock = some c ∧ w.heap.size ≤ c) → OwH lo w' u (R ++ [y]) → K u w'):
  xBs aC (Value.cells (.agg #[z0,z1,z2,z3])) 4 1 [(0,.agg y.cs.toArray)] w fun v w1=>xOp Tryz.prog (Builtin.append_ #[gJ,gJ] gJ #[z,v]) w1 K:=by
 refine iBs14 fun q w2 hq x2 hB=>?_
 have h2:=h.ext x2
 have hs:SlK 4 w2 (.slice (some ⟨q,0,none⟩) 1 1) 1 y.cs:=SlK.ofBlk (n:=1) hB rfl (by decide)
 refine iAppK JY I5 rfl (by decide) h2.row hs (fun u hu=>?_) (by omega) (by omega) (Nat.le_trans hlo x2.size) fun v20 w3 ho hg hn=>?_
 ·simp only [HV.cs,List.mem_cons,List.not_mem_nil,or_false] at hu
  rcases hu with rfl | rfl | rfl | rfl
  ·rfl
  ·rfl
  ·rfl
  ·exact OwK.cell hy
 have hch:=bJ (S:=fun c=>z.ownBlock = some c) hg fun c hc=>hc
 have hL:LCh lo w2 w3:=hch.mono fun c hc=>by
  obtain ⟨cur,hh⟩:=OwK.ty h2.row hc
  exact ⟨(OwK.blk h2.row c hc).1,cur.toList,by unfold Blk;rw [hh]⟩
 refine hK v20 w3 ((LCh.ext x2).trans hL) (x2.ch.trans hch fun c hc=>.inl hc) (hn.imp id fun ⟨c,h1,h2⟩=>⟨c,h1,Nat.le_trans x2.size h2⟩) ⟨?_,fun u hu=>?_⟩
 ·rw [FT,List.length_append]
  have e:bD [y] = y.cs:=by simp [bD]
  rw [e]
  exact ho
 ·rcases List.mem_append.1 hu with hu | hu
  ·exact OwK.lch (h2.fm u hu) hL (by decide)
  ·rw [List.mem_singleton.1 hu]
   exact OwK.lch (OwK.ext hy x2) hL (by decide)
theorem XS {lo:Nat} {w:World} {z:Value} {z0 z1 z2 z3:Value} {R:List HV} {y:HV} {K:Value → World → Prop} (h:OwH lo w z R) (hy:RawW 0 aA w y.v y.x.N) (hR:R.length ≤ 1000000) (hlo:lo ≤ w.heap.size) (hK:∀ u w',LCh lo w w' → OwH lo w' u (R ++ [y]) → K u w'):
  xBs aC (Value.cells (.agg #[z0,z1,z2,z3])) 4 1 [(0,.agg y.cs.toArray)] w fun v w1=>xOp Tryz.prog (Builtin.append_ #[gJ,gJ] gJ #[z,v]) w1 K:=
 VK h hy hR hlo fun u w' k _ _ o=>hK u w' k o
structure DisW (lo m:Nat) (w:World) (D:List (Value × List Int)) (v29 v33 v36:Value) (own lift:List Int):Prop where
 row:Ow lo lF w v29 (D.map Prod.fst)
 mem:∀ p ∈ D,Ow lo t_i64 w p.1 (ints p.2) ∧ ∀ c,p.1.ownBlock = some c → c < m
 o:Ow m t_i64 w v33 (ints own)
 l:Ow m t_i64 w v36 (ints lift)
 ne:∀ c,v33.ownBlock = some c → v36.ownBlock = some c → False
theorem DisW.lch {lo lo' m:Nat} {w w':World} {D:List (Value × List Int)} {v29 v33 v36:Value} {own lift:List Int} (h:DisW lo m w D v29 v33 v36 own lift) (x:LCh lo' w w'):DisW lo m w' D v29 v33 v36 own lift:=
 ⟨OwK.lch h.row x (by decide),fun p hp=>⟨OwK.lch (h.mem p hp).1 x (by decide),(h.mem p hp).2⟩,OwK.lch h.o x (by decide),OwK.lch h.l x (by decide),h.ne⟩
theorem DisW.st1 {lo m:Nat} {w w':World} {D:List (Value × List Int)} {v29 v33 v36:Value} {own own' lift:List Int} (h:DisW lo m w D v29 v33 v36 own lift) (x:Ch (fun c=>v33.ownBlock = some c) w w') (ho:Ow m t_i64 w' v33 (ints own')):DisW lo m w' D v29 v33 v36 own' lift:=
 ⟨h.row.ch x fun c hc hS=>by
  obtain ⟨cur,hh⟩:=Ow.ty h.o hS
  exact h.row.ne_blk (show Blk t_i64 w c cur.toList by unfold Blk;rw [hh]) (by decide) hc,fun p hp=>⟨(h.mem p hp).1.ch x fun c hc hS=>by
   have h1:=(h.mem p hp).2 c hc
   have h2:=(h.o.blk c hS).1
   omega,(h.mem p hp).2⟩,ho,h.l.ch x fun c hc hS=>h.ne c hS hc,h.ne⟩
theorem DisW.st2 {lo m:Nat} {w w':World} {D:List (Value × List Int)} {v29 v33 v36:Value} {own lift lift':List Int} (h:DisW lo m w D v29 v33 v36 own lift) (x:Ch (fun c=>v36.ownBlock = some c) w w') (ho:Ow m t_i64 w' v36 (ints lift')):DisW lo m w' D v29 v33 v36 own lift':=
 ⟨h.row.ch x fun c hc hS=>by
  obtain ⟨cur,hh⟩:=Ow.ty h.l hS
  exact h.row.ne_blk (show Blk t_i64 w c cur.toList by unfold Blk;rw [hh]) (by decide) hc,fun p hp=>⟨(h.mem p hp).1.ch x fun c hc hS=>by
   have h1:=(h.mem p hp).2 c hc
   have h2:=(h.l.blk c hS).1
   omega,(h.mem p hp).2⟩,h.o.ch x fun c hc hS=>h.ne c hc hS,ho,h.ne⟩
theorem OwH.chO {lo m:Nat} {w w':World} {z v:Value} {Y:List HV} {xs:List Value} (h:OwH lo w z Y) (ho:Ow m t_i64 w v xs) (x:Ch (fun c=>v.ownBlock = some c) w w'):OwH lo w' z Y:=by
 have key:∀ {k lo' n:Nat} {e:TypeId} {u:Value} {ys:List Value},OwK k lo' e w u n ys → e ≠ t_i64 → OwK k lo' e w' u n ys:=fun hu hne=>OwK.ch hu x fun c hc hS=>by
  obtain ⟨cur,hh⟩:=Ow.ty ho hS
  exact OwK.ne_blk hu (show Blk t_i64 w c cur.toList by unfold Blk;rw [hh]) hne hc
 exact ⟨key h.row (by decide),fun y hy=>key (h.fm y hy) (by decide)⟩
theorem TU {w:World} {e:TypeId} {z0 z1 z2 z3:Value} {K:Value → World → Prop} (h:∀ v w',Ext w w' → OwK 4 w.heap.size e w' v 0 [] → K v w'):xBs e (Value.cells (.agg #[z0,z1,z2,z3])) 4 0 [] w K:=by
 refine ⟨#[],?_,h _ _ (Ext.alloc w _) (OwK.ofBlk (k:=4) (n:=0) (Blk.new w #[] e) (Nat.le_refl _) rfl (by omega))⟩
 simp [Instr.fill]
structure DisL (h:Nat) (R:List HV):Prop where
 len:R.length ≤ 1000
 fm:∀ k,k < R.length → ∃ C:Fm,C.size ≤ 10000 ∧ (gt R k).x.N = rawF C
 inh:∀ k,k < R.length → inH h k (gt R k).x
 rl:∀ k,k < R.length → gt (usesB (R.map HV.x)) k = true → (gt R k).x.rule = 2 ∨ (gt R k).x.rule = 3
 two:∀ k,k < R.length → (gt R k).x.rule = 2 → (gt R k).x.second = 0
def DisG (w0:World) (v1 v27 v29 v30 v33 v36:Value) (last:Int) (Q:Value → World → Prop):Prop:=
 lp (fun K11 xs11 w12=>∀ _:Nat → Value,xLenS v1 fun v39=>xLt .i64 (gx xs11 1) v39 fun v40=>cnd v40 (xIa 4 v1 (gx xs11 1) fun v45=>xLdA w12 4 v45 fun v46=>xNew (Value.cells (.agg #[(.int .i64 0),(.int .i64 0),(.int .i64 0),(.slice none 0 0)])) 45 w12 fun v12 w13=>xStA Tryz.prog w13 4 v12 v46 fun w14=>xFa 3 v12 fun v47=>xLd w14 v47 fun v48=>xIa 1 v29 (gx xs11 1) fun v105=>xLd w14 v105 fun v106=>xLenS v106 fun v107=>xEq .i64 v107 (.int .i64 0) fun v108=>jn (fun J15=>cnd v108 (xLenS (gx xs11 0) fun v110=>xLdA w14 4 v12 fun v112=>callV Tryz.prog (.func (.func 67) #[] #[]) [v112,v33] w14 fun v114 w17=>xBs 45 (Value.cells (.agg #[(.int .i64 0),(.int .i64 0),(.int .i64 0),(.slice none 0 0)])) 4 1 [(0,v114)] w17 fun v115 w18=>xOp Tryz.prog (Builtin.append_ #[25,25] 25 #[(gx xs11 0),v115]) w18 fun v116 w19=>xIa 1 v33 (gx xs11 1) fun v120=>xSt w19 v120 v110 fun w20=>callV Tryz.prog (.func (.func 68) #[] #[]) [v116,v110,v27,v48] w20 fun v126 w21=>xEx v126 0 fun v127=>xEx v126 1 fun v128=>J15 [v127,v128] w21) (jn (fun J22=>xFa 0 v12 fun v130=>xLd w14 v130 fun v131=>xEq .i64 v131 (.int .i64 2) fun v132=>cnd v132 (xFa 1 v12 fun v134=>xLd w14 v134 fun v135=>xEq .i64 v135 (.int .i64 last) fun v137=>J22 [v137] w14) (J22 [(.bool false)] w14)) (fun xs22 w23=>∀ _:Nat → Value,jn (fun J24=>cnd (gx xs22 0) (callV Tryz.prog (.func (.func 69) #[] #[]) [(gx xs11 0),v27] w23 fun v142 w26=>xEx v142 0 fun v143=>xEx v142 1 fun v144=>J24 [v143,v144] w26) (xFa 0 v12 fun v146=>xLd w23 v146 fun v147=>xEq .i64 v147 (.int .i64 2) fun v148=>jn (fun J27=>cnd v148 (xLenS (gx xs11 0) fun v150=>xLdA w23 4 v12 fun v152=>callV Tryz.prog (.func (.func 67) #[] #[]) [v152,v33] w23 fun v154 w29=>xBs 45 (Value.cells (.agg #[(.int .i64 0),(.int .i64 0),(.int .i64 0),(.slice none 0 0)])) 4 1 [(0,v154)] w29 fun v155 w30=>xOp Tryz.prog (Builtin.append_ #[25,25] 25 #[(gx xs11 0),v155]) w30 fun v156 w31=>callV Tryz.prog (.func (.func 68) #[] #[]) [v156,v150,v27,v48] w31 fun v162 w32=>xEx v162 0 fun v163=>xEx v162 1 fun v164=>J27 [v163,v164] w32) (xFa 2 v12 fun v50=>xLd w23 v50 fun v51=>xIa 4 v1 v51 fun v52=>xFa 3 v52 fun v53=>xLd w23 v53 fun v54=>callV Tryz.prog (.func (.func 43) #[] #[]) [v27,v54] w23 fun v57 w33=>callV Tryz.prog (.func (.func 43) #[] #[]) [v27,v48] w33 fun v60 w34=>callV Tryz.prog (.func (.func 43) #[] #[]) [v54,v48] w34 fun v64 w35=>callV Tryz.prog (.func (.func 43) #[] #[]) [v27,v64] w35 fun v65 w36=>callV Tryz.prog (.func (.func 43) #[] #[]) [v57,v60] w36 fun v71 w37=>callV Tryz.prog (.func (.func 43) #[] #[]) [v65,v71] w37 fun v72 w38=>callV Tryz.prog (.func (.func 45) #[] #[]) [(gx xs11 0),(.int .i64 1),(.int .i64 1),(.int .i64 0),v72] w38 fun v73 w39=>xEx v73 0 fun v74=>xEx v73 1 fun v75=>xFa 1 v12 fun v80=>xLd w39 v80 fun v81=>xIa 1 v36 v81 fun v82=>xLd w39 v82 fun v83=>∀ w40,Ext w39 w40 → callV Tryz.prog (.func (.func 43) #[] #[]) [v57,v60] w40 fun v86 w41=>Ext w40 w41 ∧ ∀ w42,Ext w41 w42 → callV Tryz.prog (.func (.func 45) #[] #[]) [v74,(.int .i64 3),v75,v83,v86] w42 fun v87 w43=>xEx v87 0 fun v88=>xEx v87 1 fun v89=>∀ w44,Ext w43 w44 → xFa 2 v12 fun v94=>xLd w44 v94 fun v95=>xIa 1 v36 v95 fun v96=>xLd w44 v96 fun v97=>callV Tryz.prog (.func (.func 45) #[] #[]) [v88,(.int .i64 3),v89,v97,v60] w44 fun v99 w45=>xEx v99 0 fun v100=>xEx v99 1 fun v101=>J27 [v100,v101] w45)) (fun xs27 w28=>∀ _:Nat → Value,J24 [(gx xs27 0),(gx xs27 1)] w28))) (fun xs24 w25=>∀ _:Nat → Value,J15 [(gx xs24 0),(gx xs24 1)] w25)))) (fun xs15 w16=>∀ _:Nat → Value,xIa 1 v36 (gx xs11 1) fun v168=>xSt w16 v168 (gx xs15 1) fun w46=>xAdd .i64 (gx xs11 1) (.int .i64 1) fun v42=>K11 [(gx xs15 0),v42] w46)) (Q (gx xs11 0) w12)) [v30,.int .i64 0] w0
def DisM (w5:World) (v1 v27 v29 v30:Value) (last:Int) (Q:Value → World → Prop):Prop:=
 xLenS v1 fun v32=>xLenS v1 fun v35=>∀ w6,Ext w5 w6 → (xMk 2 (Value.cells (.int .i64 0)) 1 8 v32 v32 w6 fun v33 w7=>Ext w6 w7 ∧ ∀ w8,Ext w7 w8 → xMk 2 (Value.cells (.int .i64 0)) 1 8 v35 v35 w8 fun v36 w9=>Ext w8 w9 ∧ ∀ w10,Ext w9 w10 → DisG w10 v1 v27 v29 v30 v33 v36 last Q) ∧
  (xMk 2 (Value.cells (.int .i64 0)) 1 8 v35 v35 w6 fun v36 w7=>Ext w6 w7 ∧ ∀ w8,Ext w7 w8 → xMk 2 (Value.cells (.int .i64 0)) 1 8 v32 v32 w8 fun v33 w9=>Ext w8 w9 ∧ ∀ w10,Ext w9 w10 → DisG w10 v1 v27 v29 v30 v33 v36 last Q)
theorem YG {h m:Nat} {w w0:World} {v1 v27 v29 v30 v33 v36:Value} {last:Int} {R:List HV} {A:Fm} {D:List (Value × List Int)} {Q:Value → World → Prop}
  (hR:RdH w v1 R) (hA:FmS w v27 A) (hsA:A.size ≤ 10000) (hL:DisL h R)
  (hD:D.length = R.length) (hDu:∀ k,k < R.length → ((gt D k).2 = [] ↔ gt (usesB (R.map HV.x)) k = false))
  (hm0:w.heap.size ≤ m) (X0:Ext w w0) (hz:OwH w.heap.size w0 v30 []) (hW:DisW w.heap.size m w0 D v29 v33 v36 (List.replicate R.length 0) (List.replicate R.length 0))
  (hQ:∀ u w' Y,Ext w w' → OwH w.heap.size w' u Y → Y.map HV.x = (disK (rawF A) last (R.map HV.x) R.length).out → Q u w'):
  DisG w0 v1 v27 v29 v30 v33 v36 last Q:=by
 unfold DisG
 have hRl:=hL.len
 refine iLp (fun s:Value × Nat=>[s.1,.int .i64 (s.2:Int)]) (fun s w'=>s.2 ≤ R.length ∧ Ext w w' ∧ ∃ Y,Y.map HV.x = (disK (rawF A) last (R.map HV.x) s.2).out ∧ OwH w.heap.size w' s.1 Y ∧ DisW w.heap.size m w' D v29 v33 v36 ((disK (rawF A) last (R.map HV.x) s.2).own ++ List.replicate (R.length - s.2) 0) ((disK (rawF A) last (R.map HV.x) s.2).lift ++ List.replicate (R.length - s.2) 0)) (fun s=>R.length - s.2) (v30,0) rfl ⟨Nat.zero_le _,X0,[],rfl,hz,hW⟩ ?_
 rintro ⟨z,i⟩ w2 Kn ⟨hi,x2,Y,hY,hz,hW⟩ hKn
 have hi:i ≤ R.length:=hi
 have hz:OwH w.heap.size w2 z Y:=hz
 have hW:DisW w.heap.size m w2 D v29 v33 v36 ((disK (rawF A) last (R.map HV.x) i).own ++ List.replicate (R.length - i) 0) ((disK (rawF A) last (R.map HV.x) i).lift ++ List.replicate (R.length - i) 0):=hW
 have hY:Y.map HV.x = (disK (rawF A) last (R.map HV.x) i).out:=hY
 intro _
 simp only [gx]
 refine iLenK (hR.ext x2).row (iLt (iCndP (fun hlt=>?_) (fun hlt=>?_)))
 rotate_left
 ·have:i = R.length:=by omega
  subst this
  exact hQ _ _ Y x2 hz hY
 have hil:i < R.length:=by omega
 obtain ⟨C,hC,hN⟩:=hL.fm i hil
 have hin:=hL.inh i hil
 have hrl:=hL.rl i hil
 have htw:=hL.two i hil
 have hu:=hDu i hil
 have hm:gt R i ∈ R:=by rw [gt_eq hil];exact List.getElem_mem _
 obtain ⟨d1,d2,d3⟩:=MZ (rawF A) last (R.map HV.x) i
 have hst:disK (rawF A) last (R.map HV.x) (i + 1) = cN (rawF A) last (R.map HV.x) (gt (usesB (R.map HV.x)) i) (disK (rawF A) last (R.map HV.x) i) (gt R i).x:=by rw [disK,bR hil]
 have hYl:Y.length = (disK (rawF A) last (R.map HV.x) i).out.length:=by rw [← hY,List.length_map]
 generalize disK (rawF A) last (R.map HV.x) i = S at *
 generalize gt (usesB (R.map HV.x)) i = u at *
 have h5:Y.length ≤ 5000:=by omega
 refine iAtH (hR.ext x2) rfl hil ?_
 refine iNew4 fun q w3 hq x3 hB3=>?_
 refine iStAB hB3 rfl rfl (fun y hy=>?_) fun w4 u4 hB4=>?_
 ·simp only [HV.cs,List.mem_cons,List.not_mem_nil,or_false] at hy
  rcases hy with rfl | rfl | rfl | rfl
  ·rfl
  ·rfl
  ·rfl
  ·obtain ⟨_,_,_,e,_⟩:=hR.fm _ hm
   rw [e];rfl
 have x24:Ext w2 w4:=x3.upd u4 (by omega)
 have X4:=x2.trans x24
 have hRy:∀ {w':World},Ext w w' → RawS w' (gt R i).v (gt R i).x.N:=fun x=>(hR.ext x).fm _ hm
 have hW4:=hW.lch (LCh.ext (lo:=0) x24)
 have hz4:=hz.ext x24
 have hsz:=X4.size
 generalize hy:gt R i = y at *
 have hB4:Blk aC w4 q [.int .i64 y.x.rule,.int .i64 y.x.first,.int .i64 y.x.second,y.v]:=hB4
 have hfC:∀ {w':World},Ext w w' → FmS w' y.v C:=fun x=>eE (hN ▸ hRy x)
 have hfA:∀ {w':World},Ext w w' → FmS w' v27 A:=fun x=>SlK.ext hA x
 have hNl:y.x.N.length ≤ 1000000:=by rw [hN,aG];omega
 refine iFa (iLdB hB4 (i:=3) (v:=y.v) rfl ?_)
 have hDl:i < D.length:=by omega
 refine iIa (j:=(i:Int)) hW4.row.sl (by omega) (by rw [List.length_map];omega) fun p hp=>?_
 rw [Int.toNat_natCast,List.getElem?_map,List.getElem?_eq_getElem hDl,Option.map_some,← gt_eq hDl] at hp
 refine iLd hp (iLenI (hW4.mem (gt D i) (by rw [gt_eq hDl];exact List.getElem_mem _)).1.sl (iEq ?_))
 obtain ⟨C15,hC15⟩:∃ C15:List Value → World → Prop,∀ xs w',C15 xs w' ↔ ∃ z' Y' own' at_,xs = [z',.int .i64 at_] ∧ cN (rawF A) last (R.map HV.x) u S y.x = ⟨Y'.map HV.x,own',S.lift ++ [at_]⟩ ∧ OwH w.heap.size w' z' Y' ∧ DisW w.heap.size m w' D v29 v33 v36 (own' ++ List.replicate (R.length - (i + 1)) 0) (S.lift ++ List.replicate (R.length - i) 0) ∧ Ext w w':=⟨_,fun _ _=>Iff.rfl⟩
 have mk:∀ {J:List Value → World → Prop} {z':Value} {Y':List HV} {own':List Int} {at_:Int} {w':World},(∀ xs w',C15 xs w' → J xs w') → OwH w.heap.size w' z' Y' → DisW w.heap.size m w' D v29 v33 v36 (own' ++ List.replicate (R.length - (i + 1)) 0) (S.lift ++ List.replicate (R.length - i) 0) → Ext w w' → cN (rawF A) last (R.map HV.x) u S y.x = ⟨Y'.map HV.x,own',S.lift ++ [at_]⟩ → J [z',.int .i64 at_] w':=fun hJ a b c d=>hJ _ _ ((hC15 _ _).2 ⟨_,_,_,_,rfl,d,a,b,c⟩)
 have wk:∀ {J:List Value → World → Prop} {v110:Value} {own':List Int} {x':HL} {u' v':Value} {w5 w6:World} {Y6:List HV},(∀ xs w',C15 xs w' → J xs w') → Ext w w5 → LCh w.heap.size w5 w6 → OwH w.heap.size w6 u' (Y ++ [⟨x',v'⟩]) → v110 = .int .i64 (Y.length:Int) → x'.N = y.x.N → DisW w.heap.size m w6 D v29 v33 v36 (own' ++ List.replicate (R.length - (i + 1)) 0) (S.lift ++ List.replicate (R.length - i) 0) →
   cN (rawF A) last (R.map HV.x) u S y.x = ⟨S.out ++ ([x'] ++ weakL (rawF A) y.x.N S.out.length),own',S.lift ++ [(S.out.length:Int) + 2]⟩ → callV Tryz.prog (.func (.func 68) #[] #[]) [u',v110,v27,y.v] w6 fun v126 w21=>xEx v126 0 fun v127=>xEx v126 1 fun v128=>J [v127,v128] w21:=fun {J v110 own' x' u' v' w5 w6 Y6} hJ X5 k6 o6 e110 eN hW6 hd=>by
  have X6:=LCh.ext0 X5 k6
  subst e110
  refine iCall ((N6 (a:=A) (c:=C) o6 (fun w' k'=>hfA (LCh.ext0 X6 k')) (fun w' k'=>hfC (LCh.ext0 X6 k')) ⟨hsA,hC⟩ (by rw [List.length_append,List.length_singleton];omega) X6.size).mono ?_)
  rintro _ w8 ⟨k8,u8,Y8,rfl,hY8,o8⟩
  refine iE20 (iE21 (mk hJ o8 (hW6.lch k8) (LCh.ext0 X6 k8) ?_))
  rw [hd,List.map_append,List.map_append,hY8,List.map_singleton,hY,hN,hYl]
  simp [weakL]
  omega
 refine iJnX C15 (fun J hJ=>?_) ?_
 ·refine iCndP (fun hu0=>?_) (fun hu0=>?_)
  ·have hu1:u = false:=hu.1 (List.length_eq_zero_iff.1 (by omega))
   refine iLenK hz4.row.sl (iLdA hB4 rfl ?_)
   refine iCall ((BR (y:=y) (hRy X4) hNl hW4.o.sl (fun e=>?_) (fun e=>?_)).mono ?_)
   ·have:=hin.2.1 e
    rw [List.length_append,d1];omega
   ·have:=hin.2.2 e
    rw [List.length_append,d1];omega
   rintro _ w5 ⟨x5,v',rfl,h5w⟩
   have X5:=X4.trans x5
   refine XS (y:=⟨mvH y.x (S.own ++ List.replicate (R.length - i) 0),v'⟩) (hz4.ext x5) ?_ (by omega) X5.size fun z6 w6 k6 o6=>?_
   ·show RawW 0 aA w5 v' (mvH y.x (S.own ++ List.replicate (R.length - i) 0)).N
    rw [mvH_N]
    exact OwK.mono h5w (Nat.zero_le _)
   have X6:=LCh.ext0 X5 k6
   have hW6:=(hW4.lch (LCh.ext (lo:=0) x5)).lch k6
   refine iWrO hW6.o rfl (by rw [aL,List.length_append,List.length_replicate];omega) rfl fun w7 ho7 hc7=>?_
   rw [Q8,RH d1 hil] at ho7
   have X7:Ext w w7:=X6.thenCh hc7 fun c hc=>by
    have h1:=(hW6.o.blk c hc).1
    omega
   refine wk (Y6:=Y) hJ X7 (LCh.ext (Ext.refl _)) (o6.chO hW6.o hc7) rfl (mvH_N _ _) (hW6.st1 hc7 ho7) ?_
   unfold cN
   rw [if_pos hu1,ZP (n:=h) (by rw [d1];exact hin),← hYl]
  ·have hu1:¬ u = false:=fun e=>hu0 (by rw [hu.2 e];rfl)
   have hW4':DisW w.heap.size m w4 D v29 v33 v36 ((S.own ++ [0]) ++ List.replicate (R.length - (i + 1)) 0) (S.lift ++ List.replicate (R.length - i) 0):=by rw [← VR hil];exact hW4
   have hr:=hrl (by cases u;exact absurd rfl hu1;rfl)
   refine iJnX (fun xs w'=>xs = [.bool (decide (y.x.rule = 2 ∧ y.x.first = last))] ∧ w' = w4) (fun J' hJ'=>?_) ?_
   ·refine iFa (iLdB hB4 (i:=0) (v:=.int .i64 y.x.rule) rfl (iEq (iCndP (fun e=>?_) (fun e=>?_))))
    ·refine iFa (iLdB hB4 (i:=1) (v:=.int .i64 y.x.first) rfl (iEq (hJ' _ _ ⟨?_,rfl⟩)))
     congr 2
     exact decide_eq_decide.2 ⟨fun h=>⟨e,h⟩,fun h=>h.2⟩
    ·exact hJ' _ _ ⟨by rw [decide_eq_false (fun h=>e h.1)],rfl⟩
   rintro _ _ ⟨rfl,rfl⟩
   intro _
   simp only [gx]
   refine iJnX C15 (fun J2 hJ2=>?_) ?_
   rotate_left
   ·intro xs w' hx
    obtain ⟨_,_,_,_,rfl,_⟩:=(hC15 xs w').1 hx
    intro _
    simp only [gx]
    exact hJ _ _ hx
   refine iCndP (fun e=>?_) (fun e=>?_)
   ·refine iCall ((NY (A:=A) hz4 (fun w' k'=>hfA (LCh.ext0 X4 k')) hsA (by omega) X4.size).mono ?_)
    rintro _ w8 ⟨k8,u8,Y8,rfl,hY8,o8⟩
    refine iE20 (iE21 (mk hJ2 o8 (hW4'.lch k8) (LCh.ext0 X4 k8) ?_))
    unfold cN
    rw [if_neg hu1,if_pos e,List.map_append,hY8,hY,hYl]
    rfl
   ·refine iFa (iLdB hB4 (i:=0) (v:=.int .i64 y.x.rule) rfl (iEq ?_))
    refine iJnX C15 (fun J3 hJ3=>?_) ?_
    rotate_left
    ·intro xs w' hx
     obtain ⟨_,_,_,_,rfl,_⟩:=(hC15 xs w').1 hx
     intro _
     simp only [gx]
     exact hJ2 _ _ hx
    refine iCndP (fun e2=>?_) (fun e2=>?_)
    ·refine iLenK hz4.row.sl (iLdA hB4 rfl ?_)
     refine iCall ((BR (y:=y) (hRy X4) hNl hW4.o.sl (fun e=>absurd e (by omega)) (fun e=>absurd e (by omega))).mono ?_)
     rintro _ w5 ⟨x5,v',rfl,h5w⟩
     have X5:=X4.trans x5
     refine XS (y:=⟨mvH y.x (S.own ++ List.replicate (R.length - i) 0),v'⟩) (hz4.ext x5) ?_ (by omega) X5.size fun z6 w6 k6 o6=>?_
     ·show RawW 0 aA w5 v' (mvH y.x (S.own ++ List.replicate (R.length - i) 0)).N
      rw [mvH_N]
      exact OwK.mono h5w (Nat.zero_le _)
     refine wk (Y6:=Y) hJ3 X5 k6 o6 rfl (mvH_N _ _) ((hW4'.lch (LCh.ext (lo:=0) x5)).lch k6) ?_
     unfold cN
     have em:mvH y.x (S.own ++ List.replicate (R.length - i) 0) = ⟨2,y.x.first,0,y.x.N⟩:=by
      unfold mvH
      rw [if_neg (by omega),if_neg (by omega),← e2,← htw e2]
     rw [if_neg hu1,if_neg e,if_pos e2,em]
    ·have e3:y.x.rule = 3:=hr.resolve_left e2
     obtain ⟨⟨a1,a2⟩,b1,b2⟩:=hin.2.1 e3
     have hj1:y.x.second.toNat < R.length:=by omega
     obtain ⟨E,hE,hEN⟩:=hL.fm _ hj1
     have m1:gt R y.x.second.toNat ∈ R:=by rw [gt_eq hj1];exact List.getElem_mem _
     have hfE:∀ {w':World},Ext w w' → FmS w' (gt R y.x.second.toNat).v E:=fun x=>eE (hEN ▸ (hR.ext x).fm _ m1)
     have s1:(Fm.imp A E).size = 1 + A.size + E.size:=rfl
     have s2:(Fm.imp A C).size = 1 + A.size + C.size:=rfl
     have s3:(Fm.imp E C).size = 1 + E.size + C.size:=rfl
     have s4:(Fm.imp A (.imp E C)).size = 1 + A.size + (Fm.imp E C).size:=rfl
     have s5:(Fm.imp (.imp A E) (.imp A C)).size = 1 + (Fm.imp A E).size + (Fm.imp A C).size:=rfl
     have s6:(Fm.imp (.imp A (.imp E C)) (.imp (.imp A E) (.imp A C))).size = 1 + (Fm.imp A (.imp E C)).size + (Fm.imp (.imp A E) (.imp A C)).size:=rfl
     refine iFa (iLdB hB4 (i:=2) (v:=.int .i64 y.x.second) rfl ?_)
     refine iFdH (j:=y.x.second.toNat) (hR.ext X4) (by omega) hj1 (by decide) (u:=(gt R y.x.second.toNat).v) rfl ?_
     refine iCall ((aK (hfA X4) (hfE X4) (by omega)).mono ?_)
     rintro v57 w5 ⟨x5,h57⟩
     have X5:=X4.trans x5
     refine iCall ((aK (hfA X5) (hfC X5) (by omega)).mono ?_)
     rintro v60 w6 ⟨x6,h60⟩
     have X6:=X5.trans x6
     refine iCall ((aK (hfE X6) (hfC X6) (by omega)).mono ?_)
     rintro v64 w7 ⟨x7,h64⟩
     have X7:=X6.trans x7
     refine iCall ((aK (hfA X7) h64.sl (by omega)).mono ?_)
     rintro v65 w8 ⟨x8,h65⟩
     have h60:=OwK.ext h60 (x7.trans x8)
     have h57:=OwK.ext h57 ((x6.trans x7).trans x8)
     refine iCall ((aK h57.sl h60.sl (by omega)).mono ?_)
     rintro v71 w9 ⟨x9,h71⟩
     refine iCall ((aK (OwK.ext h65 x9).sl h71.sl (by omega)).mono ?_)
     rintro v72 w10 ⟨x10,h72⟩
     have x410:=((((x5.trans x6).trans x7).trans x8).trans x9).trans x10
     have X10:=X4.trans x410
     have h60:=OwK.ext h60 (x9.trans x10)
     have h57:=OwK.ext h57 (x9.trans x10)
     have hq2:∀ c,z.ownBlock = some c → c < q:=fun c hc=>by have:=(OwK.blk hz.row c hc).2;omega
     have l4:=hB4.lt
     have l10:=x410.size
     refine iCall ((rT (hz4.ext x410) (N:=rawF (.imp (.imp A (.imp E C)) (.imp (.imp A E) (.imp A C)))) (FmS.rawS h72.sl) (by rw [aG];omega) (by omega) X10.size).mono ?_)
     rintro _ w11 ⟨k11,c11,u11,y11,rfl,n11,hy11,o11⟩
     have X11:=LCh.ext0 X10 k11
     have hB11:=(hB4.ext x410).ch c11 (fun hc=>by have:=hq2 q hc;omega)
     have hW11:=(hW4'.lch (LCh.ext (lo:=0) x410)).lch k11
     have h60:=OwK.lch h60 k11 (by decide)
     have h57:=OwK.lch h57 k11 (by decide)
     have hq11:¬ u11.ownBlock = some q:=fun hc=>by
      rcases n11 with n | ⟨c,n1,n2⟩
      ·rw [n] at hc;have:=hq2 q hc;omega
      ·rw [n1] at hc;cases hc;omega
     refine iE20 (iE21 ?_)
     refine iFa (iLdB hB11 (i:=1) (v:=.int .i64 y.x.first) rfl ?_)
     refine iIaI hW11.l.sl a1 (by rw [List.length_append,d2];omega) fun p hp=>iLd hp ?_
     intro w12 x12
     refine iCall ((aK (OwK.ext h57 x12).sl (OwK.ext h60 x12).sl (by omega)).mono ?_)
     rintro v86 w13 ⟨x13,h86⟩
     refine ⟨x13,fun w14 x14=>?_⟩
     have x114:=(x12.trans x13).trans x14
     have X14:=X11.trans x114
     refine iCall ((rT (o11.ext x114) (N:=rawF (.imp (.imp A E) (.imp A C))) (FmS.rawS (OwK.ext h86 x14).sl) (by rw [aG];omega) (by rw [List.length_append,List.length_singleton];omega) X14.size).mono ?_)
     rintro _ w15 ⟨k15,c15,u15,y15,rfl,n15,hy15,o15⟩
     have X15:=LCh.ext0 X14 k15
     have hB15:=(hB11.ext x114).ch c15 hq11
     have hW15:=(hW11.lch (LCh.ext (lo:=0) x114)).lch k15
     refine iE20 (iE21 ?_)
     intro w16 x16
     refine iFa (iLdB (hB15.ext x16) (i:=2) (v:=.int .i64 y.x.second) rfl ?_)
     refine iIaI (hW15.l.sl.ext x16) b1 (by rw [List.length_append,d2];omega) fun p hp=>iLd hp ?_
     have X16:=X15.trans x16
     refine iCall ((cI (o15.ext x16) (N:=rawF (.imp A C)) (FmS.rawS (OwK.ext (OwK.lch (OwK.ext h60 x114) k15 (by decide)) x16).sl) (by rw [aG];omega) (by rw [List.length_append,List.length_append,List.length_singleton,List.length_singleton];omega) X16.size).mono ?_)
     rintro _ w17 ⟨k17,u17,y17,rfl,hy17,o17⟩
     refine iE20 (iE21 (mk hJ3 o17 ((hW15.lch (LCh.ext (lo:=0) x16)).lch k17) (LCh.ext0 X16 k17) ?_))
     unfold cN
     rw [if_neg hu1,if_neg e,if_neg e2,List.map_append,List.map_append,List.map_append,List.map_singleton,List.map_singleton,List.map_singleton,hy11,hy15,hy17,hY,bR hj1,hEN,hN,List.length_append,List.length_append,List.length_singleton,List.length_singleton,hYl]
     have g1:(S.lift ++ List.replicate (R.length - i) 0).getD y.x.first.toNat 0 = gt S.lift y.x.first.toNat:=bK (by omega)
     have g2:(S.lift ++ List.replicate (R.length - i) 0).getD y.x.second.toNat 0 = gt S.lift y.x.second.toNat:=bK (by omega)
     rw [g1,g2]
     simp [rawF]
     omega
 intro xs w' hx
 obtain ⟨z',Y',own',at_,rfl,hd,o',W',X'⟩:=(hC15 xs w').1 hx
 intro _
 simp only [gx]
 refine iWrO W'.l rfl (by rw [aL,List.length_append,List.length_replicate];omega) rfl fun w7 ho7 hc7=>?_
 rw [Q8,RH d2 hil] at ho7
 refine iAdd (by omega) ?_
 have X7:Ext w w7:=X'.thenCh hc7 fun c hc=>by
  have h1:=(W'.l.blk c hc).1
  omega
 rw [hd] at hst
 refine hKn (z',i + 1) _ ⟨hil,X7,Y',by rw [hst],o'.chO W'.l hc7,by rw [hst];exact W'.st2 hc7 ho7⟩ (by show R.length - (i + 1) < R.length - i;omega)
theorem WC {h:Nat} {w w5:World} {v1 v27 v29 v30:Value} {last:Int} {R:List HV} {A:Fm} {D:List (Value × List Int)}
  (hR:RdH w v1 R) (hA:FmS w v27 A) (hsA:A.size ≤ 10000) (hL:DisL h R) (X5:Ext w w5) (h30:OwK 4 w.heap.size aC w5 v30 0 [])
  (hD:D.length = R.length) (hDw:Ow w.heap.size lF w5 v29 (D.map Prod.fst)) (hDk:∀ k,k < R.length → Ow w.heap.size t_i64 w5 (gt D k).1 (ints (gt D k).2) ∧ ((gt D k).2 = [] ↔ gt (usesB (R.map HV.x)) k = false)):
  DisM w5 v1 v27 v29 v30 last fun r w'=>Ext w w' ∧ ∃ Y,Y.map HV.x = (disK (rawF A) last (R.map HV.x) R.length).out ∧ OwH w.heap.size w' r Y:=by
 have hRl:=hL.len
 unfold DisM
 have fin:∀ {w':World} {v33 v36:Value},Ext w5 w' → Ow w5.heap.size t_i64 w' v33 (ints (List.replicate R.length 0)) → Ow w5.heap.size t_i64 w' v36 (ints (List.replicate R.length 0)) → (∀ c,v33.ownBlock = some c → v36.ownBlock = some c → False) → DisG w' v1 v27 v29 v30 v33 v36 last (fun r w'=>Ext w w' ∧ ∃ Y,Y.map HV.x = (disK (rawF A) last (R.map HV.x) R.length).out ∧ OwH w.heap.size w' r Y):=fun x h33 h36 hne=>
  YG (m:=w5.heap.size) hR hA hsA hL hD (fun k hk=>(hDk k hk).2) X5.size (X5.trans x) ⟨OwK.ext h30 x,fun y hy=>by cases hy⟩ ⟨hDw.ext x,fun p hp=>by
   obtain ⟨j,hj,rfl⟩:=List.getElem_of_mem hp
   have h1:=(hDk j (by omega)).1
   rw [gt_eq hj] at h1
   exact ⟨h1.ext x,fun c hc=>(h1.blk c hc).2⟩,h33,h36,hne⟩ fun u w' Y X hu hy=>⟨X,Y,hy,hu⟩
 have ofB:∀ {w' w'':World} {b:Nat},Blk t_i64 w' b (List.replicate R.length (.int .i64 0)) → Ext w' w'' → w5.heap.size ≤ b → Ow w5.heap.size t_i64 w'' (.slice (some ⟨b,0,none⟩) R.length R.length) (ints (List.replicate R.length 0)):=fun hB x hb=>by
  rw [show ints (List.replicate R.length 0) = List.replicate R.length (.int .i64 0) by simp [ints]]
  exact Ow.ofBlk (hB.ext x) hb (by simp) (by omega)
 refine iLenK (hR.ext X5).row (iLenK (hR.ext X5).row fun w6 x6=>⟨?_,?_⟩)
 ·refine iMk (n:=R.length) (by omega) (by omega) rfl fun b w7 hb x7 hB7=>⟨x7,fun w8 x8=>?_⟩
  refine iMk (n:=R.length) (by omega) (by omega) rfl fun b' w9 hb' x9 hB9=>⟨x9,fun w10 x10=>?_⟩
  have s1:=x6.size
  have s2:=x8.size
  refine fin ((((x6.trans x7).trans x8).trans x9).trans x10) (ofB hB7 ((x8.trans x9).trans x10) (by omega)) (ofB hB9 x10 (by omega)) fun c h1 h2=>?_
  cases h1;cases h2;omega
 ·refine iMk (n:=R.length) (by omega) (by omega) rfl fun b w7 hb x7 hB7=>⟨x7,fun w8 x8=>?_⟩
  refine iMk (n:=R.length) (by omega) (by omega) rfl fun b' w9 hb' x9 hB9=>⟨x9,fun w10 x10=>?_⟩
  have s1:=x6.size
  have s2:=x8.size
  refine fin ((((x6.trans x7).trans x8).trans x9).trans x10) (ofB hB9 x10 (by omega)) (ofB hB7 ((x8.trans x9).trans x10) (by omega)) fun c h1 h2=>?_
  cases h1;cases h2;omega
theorem FSz {v0 v1:Value} {L:List VN} {R:List HV} {A:Fm} {w:World} (hH:RwN w v0 L) (hL0:0 < L.length) (hLl:L.length ≤ 1000) (hA:(gt L (L.length - 1)).2 = rawF A) (hsA:A.size ≤ 10000) (hR:RdH w v1 R) (hL:DisL L.length R):
  Cal Tryz.prog s8 #[v0,v1] w fun r w'=>Ext w w' ∧ ∃ Y,Y.map HV.x = (disK (rawF A) ((L.length:Int) - 1) (R.map HV.x) R.length).out ∧ OwH w.heap.size w' r Y:=by
 have hRl:=hL.len
 have hm:gt L (L.length - 1) ∈ L:=by rw [gt_eq (by omega)];exact List.getElem_mem _
 have hfA:FmS w (gt L (L.length - 1)).1 A:=eE (hA ▸ hH.raw _ hm)
 apply HP;unfold sL
 refine iLenS hH.row (iSub (by rw [List.length_map];omega) ?_)
 rw [List.length_map]
 refine iIa (j:=(L.length:Int) - 1) hH.row (by omega) (by rw [List.length_map];omega) fun p hp=>?_
 rw [show ((L.length:Int) - 1).toNat = L.length - 1 by omega,List.getElem?_map,List.getElem?_eq_getElem (by omega),Option.map_some,← gt_eq (by omega)] at hp
 refine iLd hp ?_
 intro w1 x1
 constructor
 ·refine iCall ((iM (hR.ext x1) (by omega) hLl hL.inh).mono ?_)
  rintro v29 w2 ⟨x2,D,hDl,hD,hDk⟩
  refine ⟨x2,fun w3 x3=>?_⟩
  refine TU fun v30 w4 x4 h30=>⟨x4,fun w5 x5=>?_⟩
  have x25:=(x3.trans x4).trans x5
  exact WC hR hfA hsA hL ((x1.trans x2).trans x25) (OwK.mono (OwK.ext h30 x5) ((x1.trans x2).trans x3).size) hDl ((hD.ext x25).mono x1.size) fun k hk=>⟨((hDk k hk).1.ext x25).mono x1.size,(hDk k hk).2⟩
 ·refine TU fun v30 w2 x2 h30=>⟨x2,fun w3 x3=>?_⟩
  have X3:=(x1.trans x2).trans x3
  refine iCall ((iM (hR.ext X3) (by omega) hLl hL.inh).mono ?_)
  rintro v29 w4 ⟨x4,D,hDl,hD,hDk⟩
  refine ⟨x4,fun w5 x5=>?_⟩
  exact WC hR hfA hsA hL ((X3.trans x4).trans x5) (OwK.mono (OwK.ext h30 ((x3.trans x4).trans x5)) x1.size) hDl ((hD.ext x5).mono X3.size) fun k hk=>⟨((hDk k hk).1.ext x5).mono X3.size,(hDk k hk).2⟩
end Go.Proofs.YtbfpohbmgjcjmaaGreatDoor

namespace Go.Vc
noncomputable def outH (H:List (List RN)) (L:List HL):List HL:=(disK (gt H (H.length - 1)) ((H.length:Int) - 1) L L.length).out
noncomputable def m5 (t:Str) (H:List (List RN)) (L:List HL):Int:=
 if codeH t H L false = 2 ∨ codeH t H L false = 1 then codeH t H L false else if H.length = 0 then 4 else if codeH t H L true ≠ 0 then codeH t H L true
 else if 200 < (outH H L).length ∨ (outH H L).any (fun x=>decide (40 < x.N.length)) = true then 3 else 0
theorem MC {t:Str} {H:List (List RN)} {L:List HL} (h:¬ codeH t H L false = 0):codeH t H L true = codeH t H L false:=by
 unfold codeH at h ⊢
 by_cases h1:¬ sysNo t < 10
 ·rw [if_pos h1,if_pos h1]
 rw [if_neg h1] at h ⊢
 rw [if_neg h1]
 by_cases h2:H.all isN = false
 ·rw [if_pos h2,if_pos h2]
 rw [if_neg h2] at h ⊢
 rw [if_neg h2]
 by_cases h3:L.length = 0 ∨ 200 < L.length
 ·rw [if_pos h3,if_pos h3]
 rw [if_neg h3,if_neg (fun h=>by cases h.1)] at h
 exact absurd rfl h
end Go.Vc
namespace Go.Proofs.YtbfpohbmgjcjmaaGreatDoor
open Go.Vc
theorem VL {s:Nat} {H:List (List RN)} {R:List HV} (hl:R.length ≤ 1000) (hg:∀ k,k < R.length → goodH s H (R.map HV.x) k (gt R k).x = true):DisL H.length R:=by
 refine ⟨hl,fun k hk=>?_,fun k hk=>⟨fun e=>?_,fun e=>?_,fun e=>?_⟩,fun k hk hu=>?_,fun k hk e=>(wC (hg k hk) e).1⟩
 ·obtain ⟨C,-,h1,h2⟩:=dI (dZ (hg k hk))
  exact ⟨C,by omega,h2⟩
 ·have:=(wC (hg k hk) e).2.1;omega
 ·obtain ⟨h1,h2,-⟩:=lK (hg k hk) e;omega
 ·have:=(kF (hg k hk) e).2.2.1;omega
 ·rw [yT (by rw [List.length_map];exact hk),bR hk] at hu
  unfold bE at hu
  rcases yL (hg k hk) with e | e | e | e
  ·rw [if_neg (by omega),if_neg (by omega),if_neg (by omega)] at hu;cases hu
  ·exact .inl e
  ·exact .inr e
  ·rw [if_neg (by omega),if_neg (by omega),if_pos e,(kF (hg k hk) e).2.2.2.1] at hu;cases hu
theorem OwH.mono {lo lo':Nat} {w:World} {v:Value} {R:List HV} (h:OwH lo w v R) (hl:lo' ≤ lo):OwH lo' w v R:=⟨OwK.mono h.row hl,h.fm⟩
theorem OwH.none (lo:Nat) (w:World):OwH lo w (.slice none 0 0) []:=⟨OwK.nil 4 lo _ w,fun y hy=>by cases hy⟩
theorem vQ {t:Str} {v1 v2:Value} {L:List VN} {R:List HV} {w:World} (hH:RwN w v1 L) (hLl:L.length ≤ 1000) (hLs:∀ p ∈ L,p.2.length ≤ 1000000) (hR:RdH w v2 R) (hRs:∀ y ∈ R,y.x.N.length ≤ 1000000):
  Cal Tryz.prog kR #[sv t,v1,v2] w fun r w'=>Ext w w' ∧ ∃ u Y,r = .tuple #[u,.int .i64 (m5 t (L.map Prod.snd) (R.map HV.x))] ∧ OwH w.heap.size w' u Y ∧ Y.map HV.x = if m5 t (L.map Prod.snd) (R.map HV.x) = 0 then outH (L.map Prod.snd) (R.map HV.x) else []:=by
 apply wS;unfold kN
 unfold m5
 refine iRet (rF hH hLl hLs hR hRs false) fun w1 x1=>?_
 generalize hc0:codeH t (L.map Prod.snd) (R.map HV.x) false = c0
 refine iJnX (fun xs w'=>xs = [.bool (decide (c0 = 2 ∨ c0 = 1))] ∧ w' = w1) (fun J hJ=>?_) ?_
 ·refine iEq (iCndP (fun h=>?_) (fun h=>iEq (hJ _ _ ⟨?_,rfl⟩)))
  ·exact hJ _ _ ⟨by rw [decide_eq_true (.inl h)],rfl⟩
  ·congr 2
   exact decide_eq_decide.2 ⟨fun e=>.inr e,fun e=>e.resolve_left h⟩
 rintro _ _ ⟨rfl,rfl⟩
 intro _
 simp only [gx]
 refine iCndP (fun h=>?_) (fun h=>?_)
 ·rw [if_pos h]
  exact ⟨x1,_,[],rfl,OwH.none _ _,by rw [if_neg (by omega)];rfl⟩
 rw [if_neg h]
 refine iLenS (hH.ext x1).row (iEq ?_)
 rw [List.length_map,List.length_map]
 refine iCndP (fun h0=>?_) (fun h0=>?_)
 ·have h0:L.length = 0:=by omega
  rw [if_pos h0]
  exact ⟨x1,_,[],rfl,OwH.none _ _,by rw [if_neg (by decide)];rfl⟩
 have h0:¬ L.length = 0:=by omega
 rw [if_neg h0]
 generalize hc1:codeH t (L.map Prod.snd) (R.map HV.x) true = c1
 refine iEq (iJnX (fun xs w'=>xs = [.int .i64 c1] ∧ Ext w w') (fun J hJ=>?_) ?_)
 ·refine iCndP (fun e=>?_) (fun e=>?_)
  ·refine iRet (rF (hH.ext x1) hLl hLs (hR.ext x1) hRs true) fun w2 x2=>?_
   rw [hc1]
   exact hJ _ _ ⟨rfl,x1.trans x2⟩
  ·refine hJ _ _ ⟨?_,x1⟩
   rw [← hc1,MC (by rw [hc0];exact e),hc0]
 rintro _ w2 ⟨rfl,x2⟩
 intro _
 simp only [gx]
 refine iNe (iCndP (fun e=>?_) (fun e=>?_))
 ·rw [if_pos e]
  exact ⟨x2,_,[],rfl,OwH.none _ _,by rw [if_neg e];rfl⟩
 rw [if_neg e]
 have e:c1 = 0:=Classical.not_not.1 e
 rw [e] at hc1
 obtain ⟨ht,hHn,l1,l2,hg⟩:=kG hc1
 rw [List.length_map] at l1 l2
 have hm:gt L (L.length - 1) ∈ L:=by rw [gt_eq (by omega)];exact List.getElem_mem _
 obtain ⟨A,-,sA,hA⟩:=dI (hHn _ (List.mem_map.2 ⟨_,hm,rfl⟩))
 have hg':∀ k,k < R.length → goodH (sysNo t) (L.map Prod.snd) (R.map HV.x) k (gt R k).x = true:=fun k hk=>by rw [← bR hk];exact hg k (by rw [List.length_map];exact hk)
 have hL:=VL (R:=R) (by omega) hg'
 rw [List.length_map] at hL
 refine iCall ((FSz (hH.ext x2) (by omega) hLl hA (by omega) (hR.ext x2) hL).mono ?_)
 rintro u w3 ⟨x3,Y,hY,hu⟩
 have X3:=x2.trans x3
 have hu:=OwH.mono hu x2.size
 have hout:outH (L.map Prod.snd) (R.map HV.x) = Y.map HV.x:=by
  rw [hY]
  unfold outH
  rw [List.length_map,List.length_map,← hA]
  congr 3
  rw [gt_eq (by rw [List.length_map];omega),List.getElem_map,← gt_eq (by omega)]
 rw [hout,List.length_map]
 refine iLenK hu.row.sl (iLt (iCndP (fun h2=>?_) (fun h2=>?_)))
 ·rw [if_pos (.inl (by omega))]
  exact ⟨X3,_,[],rfl,OwH.none _ _,by rw [if_neg (by decide)];rfl⟩
 refine iLp (fun i:Nat=>[.int .i64 (i:Int)]) (fun i w'=>i ≤ Y.length ∧ w' = w3 ∧ ∀ j,j < i → ¬ 40 < (gt Y j).x.N.length) (fun i=>Y.length - i) 0 rfl ⟨Nat.zero_le _,rfl,fun j hj=>absurd hj (Nat.not_lt_zero j)⟩ ?_
 rintro i w4 Kn ⟨hi,rfl,hall⟩ hKn
 intro _
 simp only [gx]
 refine iLenK hu.row.sl (iLt (iCndP (fun hlt=>?_) (fun hlt=>?_)))
 ·have hil:i < Y.length:=by omega
  have hm:gt Y i ∈ Y:=by rw [gt_eq hil];exact List.getElem_mem _
  refine iFdH (j:=i) hu.rd rfl hil (by decide) (u:=(gt Y i).v) rfl ?_
  refine iLenK (OwK.sl (hu.fm _ hm)) (iLt (iCndP (fun h4=>?_) (fun h4=>?_)))
  ·rw [if_pos (.inr (List.any_eq_true.2 ⟨(gt Y i).x,List.mem_map.2 ⟨_,hm,rfl⟩,decide_eq_true (by omega)⟩))]
   exact ⟨X3,_,[],rfl,OwH.none _ _,by rw [if_neg (by decide)];rfl⟩
  ·refine iAdd (by omega) ?_
   refine hKn (i + 1) _ ⟨hil,rfl,fun j hj=>?_⟩ (by omega)
   by_cases hji:j = i
   ·rw [hji];omega
   ·exact hall j (by omega)
 ·have:i = Y.length:=by omega
  subst this
  rw [if_neg,if_pos rfl]
  ·exact ⟨X3,u,Y,rfl,hu,rfl⟩
  ·rintro (h | h)
   ·omega
   ·obtain ⟨x,hx,h⟩:=List.any_eq_true.1 h
    obtain ⟨y,hy,rfl⟩:=List.mem_map.1 hx
    obtain ⟨j,hj,rfl⟩:=List.getElem_of_mem hy
    rw [← gt_eq hj] at h
    exact hall j hj (of_decide_eq_true h)
theorem EV {v1 v2:Value} {a b:Fm} {w:World} (h1:FmS w v1 a) (h2:FmS w v2 b) (ga:a.good) (gb:b.good) (hs:(Fm.imp a b).size ≤ 40):
  Cal Tryz.prog tL #[.int .i64 4,v1,v2] w fun r w'=>Ext w w' ∧ ∃ u,r = .tuple #[u,.int .i64 0] ∧ FmW w.heap.size w' u (.imp a b):=by
 have hs':1 + a.size + b.size ≤ 40:=hs
 apply H2;unfold tK
 refine iJnX (fun xs w'=>xs = [.bool false] ∧ Ext w w') (fun J hJ=>?_) ?_
 ·refine iRet (lG (FmS.rawS h1) (by rw [aG];omega)) fun w1 x1=>?_
  rw [yS.2 ⟨a,ga,by omega,rfl⟩]
  refine iNot (iCndF rfl ?_)
  refine iRet (lG (FmS.rawS (SlK.ext h2 x1)) (by rw [aG];omega)) fun w2 x2=>?_
  rw [yS.2 ⟨b,gb,by omega,rfl⟩]
  exact iNot (hJ _ _ ⟨rfl,x1.trans x2⟩)
 rintro _ w2 ⟨rfl,x2⟩
 intro _
 simp only [gx]
 refine iCndF rfl ?_
 refine iRet (iB 4 2 4 w2) fun w3 x3=>iNot (iCndF (by decide) ?_)
 have X3:=x2.trans x3
 refine iCall ((cK (k:=4) (c:=.imp a b) rfl rfl (SlK.ext h1 X3) (SlK.ext h2 X3) (by omega)).mono ?_)
 rintro u w4 ⟨x4,hu⟩
 have hl:Cal Tryz.prog EC #[u] w4 fun r w'=>w' = w4 ∧ r = .tuple #[u,.int .i64 0]:=by
  apply PR;unfold EH
  refine iLenK hu.sl (iLt (iCndF (decide_eq_false (by omega)) ?_))
  exact ⟨rfl,rfl⟩
 refine iCall (hl.mono ?_)
 rintro _ _ ⟨rfl,rfl⟩
 exact iE20 (iE21 ⟨X3.trans x4,u,rfl,OwK.mono hu X3.size⟩)
end Go.Proofs.YtbfpohbmgjcjmaaGreatDoor

namespace Go.Vc

/-! ### Counting -/

/-! ### The frames and what is asked of a map -/



/-! ### The search -/
end Go.Vc

















namespace Go.Vc
section
variable {α:Type} {lt:α → α → Bool}
structure OrdA (lt:α → α → Bool):Prop where
 o:Ordr lt
 anti:∀ {a b},lt a b = false → lt b a = false → a = b
abbrev IncA (lt:α → α → Bool) (L:List α):Prop:=L.Pairwise fun x y=>lt x y = true
variable {β:Type} {key:β → α}
def ddA (lt:α → α → Bool) (key:β → α):List β → List β
 | []=>[]
 | x :: l=>go x l [x]
 where go (x:β):List β → List β → List β
 | [],acc=>acc
 | y :: l,acc=>if lt (key x) (key y) || lt (key y) (key x) then go y l (acc ++ [y]) else go y l acc
theorem LK (x:β):∀ (l acc:List β) (y:β),ddA.go lt key x (l ++ [y]) acc = if lt (key ((x :: l).getLastD x)) (key y) || lt (key y) (key ((x :: l).getLastD x)) then ddA.go lt key x l acc ++ [y] else ddA.go lt key x l acc
 | [],acc,y=>by simp [ddA.go]
 | z :: l,acc,y=>by
  simp only [List.cons_append,ddA.go]
  have e:(x :: z :: l).getLastD x = (z :: l).getLastD z:=by simp [List.getLastD]
  rw [e]
  split <;> exact LK z l _ y
theorem S3 [Inhabited β] {l:List β} {i:Nat} (h0:1 ≤ i) (hi:i < l.length):ddA lt key (l.take (i + 1)) = if lt (key (gt l (i - 1))) (key (gt l i)) || lt (key (gt l i)) (key (gt l (i - 1))) then ddA lt key (l.take i) ++ [gt l i] else ddA lt key (l.take i):=by
 match l,hi with
 | x :: l,hi=>
  obtain ⟨k,rfl⟩:∃ k,i = k + 1:=⟨i - 1,by omega⟩
  have hk:k < l.length:=by simpa using hi
  have e2:(x :: l).take (k + 1 + 1) = x :: (l.take k ++ [gt l k]):=by rw [List.take_succ_cons,List.take_succ_eq_append_getElem hk,gt_eq hk]
  have e3:gt (x :: l) (k + 1) = gt l k:=rfl
  have e4:(x :: l.take k).getLastD x = gt (x :: l) (k + 1 - 1):=by
   cases k with
   | zero=>simp [gt]
   | succ k=>
    rw [List.take_succ_eq_append_getElem (by omega),← List.cons_append,List.getLastD_concat]
    show l[k] = gt l k
    rw [gt_eq (by omega)]
  rw [e2,List.take_succ_cons]
  show ddA.go lt key x (l.take k ++ [gt l k]) [x] = _
  rw [LK,e4,e3]
  rfl
theorem UR [Inhabited β] {l:List β} (h:0 < l.length):ddA lt key (l.take 1) = [gt l 0]:=by
 cases l with
 | nil=>simp at h
 | cons x l=>rfl
theorem YV [Inhabited β] (O:OrdA lt) {l:List β} (hs:l.Pairwise fun x y=>lt (key y) (key x) = false):∀ k,k ≤ l.length → List.Sublist (ddA lt key (l.take k)) (l.take k) ∧ IncA lt ((ddA lt key (l.take k)).map key) ∧ (∀ a,a ∈ (l.take k).map key → a ∈ (ddA lt key (l.take k)).map key):=by
 intro k
 induction k with
 | zero=>intro _;simp [ddA]
 | succ k ih=>
  intro hk
  obtain ⟨h1,h2,h3⟩:=ih (by omega)
  rcases Nat.eq_zero_or_pos k with h0 | h0
  ·subst h0
   rw [UR (by omega)]
   cases l with
   | nil=>simp at hk
   | cons x l=>simp [gt,IncA]
  have et:l.take (k + 1) = l.take k ++ [gt l k]:=by rw [List.take_succ_eq_append_getElem hk,gt_eq hk]
  have hpre:gt l (k - 1) ∈ l.take k:=by
   rw [gt_eq (by omega),List.mem_take_iff_getElem]
   exact ⟨k - 1,by omega,rfl⟩
  rw [S3 h0 hk]
  have hall:∀ b ∈ l.take k,lt (key (gt l k)) (key b) = false:=by
   have:=List.Pairwise.sublist (List.take_sublist (k + 1) l) hs
   rw [et,List.pairwise_append] at this
   exact fun b hb=>this.2.2 b hb _ (by simp)
  split
  ·rename_i hlt
   rw [hall _ hpre,Bool.or_false] at hlt
   refine ⟨?_,?_,?_⟩
   ·rw [et];exact h1.append (List.Sublist.refl _)
   ·rw [List.map_append]
    refine List.pairwise_append.2 ⟨h2,by simp,fun a ha b hb=>?_⟩
    simp only [List.map_cons,List.map_nil,List.mem_singleton] at hb
    subst hb
    obtain ⟨c,hc,rfl⟩:=List.mem_map.1 ha
    have hc':=h1.subset hc
    -- c stands at or before k - 1
    have hle:lt (key (gt l (k - 1))) (key c) = false:=by
     rw [List.mem_take_iff_getElem] at hc'
     obtain ⟨i,hi,rfl⟩:=hc'
     rcases Nat.lt_or_ge i (k - 1) with h | h
     ·rw [gt_eq (by omega)]
      exact (List.pairwise_iff_getElem.1 hs) i (k - 1) (by omega) (by omega) h
     ·have:i = k - 1:=by omega
      subst this
      rw [gt_eq (by omega)]
      exact O.o.rfl _
    exact O.o.le_lt hle hlt
   ·intro a ha
    rw [et,List.map_append,List.mem_append] at ha
    rw [List.map_append,List.mem_append]
    rcases ha with ha | ha
    ·exact .inl (h3 a ha)
    ·exact .inr ha
  ·rename_i hlt
   rw [Bool.or_eq_true,not_or] at hlt
   have e:key (gt l (k - 1)) = key (gt l k):=O.anti (by simpa using hlt.1) (by simpa using hlt.2)
   refine ⟨?_,h2,?_⟩
   ·rw [et];exact h1.trans (List.sublist_append_left _ _)
   ·intro a ha
    rw [et,List.map_append,List.mem_append] at ha
    rcases ha with ha | ha
    ·exact h3 a ha
    ·simp only [List.map_cons,List.map_nil,List.mem_singleton] at ha
     subst ha
     rw [← e]
     exact h3 _ (List.mem_map_of_mem hpre)
end
end Go.Vc

namespace Go.Vc
def len8:Str:=[0,1,2,2,3,3,3,3,4,4,4,4,4,4,4,4,5,5,5,5,5,5,5,5,5,5,5,5,5,5,5,5,6,6,6,6,6,6,6,6,6,6,6,6,6,6,6,6,6,6,6,6,6,6,6,6,6,6,6,6,6,6,6,6,
 7,7,7,7,7,7,7,7,7,7,7,7,7,7,7,7,7,7,7,7,7,7,7,7,7,7,7,7,7,7,7,7,7,7,7,7,7,7,7,7,7,7,7,7,7,7,7,7,7,7,7,7,7,7,7,7,7,7,7,7,7,7,7,7,
 8,8,8,8,8,8,8,8,8,8,8,8,8,8,8,8,8,8,8,8,8,8,8,8,8,8,8,8,8,8,8,8,8,8,8,8,8,8,8,8,8,8,8,8,8,8,8,8,8,8,8,8,8,8,8,8,8,8,8,8,8,8,8,8,
 8,8,8,8,8,8,8,8,8,8,8,8,8,8,8,8,8,8,8,8,8,8,8,8,8,8,8,8,8,8,8,8,8,8,8,8,8,8,8,8,8,8,8,8,8,8,8,8,8,8,8,8,8,8,8,8,8,8,8,8,8,8,8,8]
theorem ZX:∀ x:Fin 256,x.val < 2 ^ (len8.getD x.val 0).toNat ∧ (1 ≤ x.val → 2 ^ (len8.getD x.val 0).toNat ≤ 2 * x.val) ∧ (len8.getD x.val 0).toNat ≤ 8:=by decide +kernel
theorem iShrV {a j:Nat} {K:Value → Prop} (hj:j ≤ 64) (h:K (.int .u64 ((a / 2 ^ j:Nat):Int))):xSh iShr .u64 (.int .u64 (a:Int)) (.int .u64 (j:Int)) K:=by
 refine ⟨_,_,_,rfl,rfl,by omega,?_⟩
 rw [show iShr .u64 (a:Int) (j:Int) = ((a / 2 ^ j:Nat):Int) by
  unfold iShr
  rw [Int.toNat_natCast,show IntKind.u64.bits = 64 from rfl,Nat.min_eq_left hj,Int.fdiv_eq_ediv_of_nonneg _ (Int.le_of_lt (Int.pow_pos (by omega)))]
  push_cast
  rfl]
 exact h
end Go.Vc
namespace Go.Proofs.YtbfpohbmgjcjmaaGreatDoor
open Go.Vc
set_option maxRecDepth 20000 in
theorem JW {n:Nat} (hn:n < 2 ^ 63) (w:World):Cal Tryz.prog oB #[.int .u64 (n:Int)] w fun r w'=>Ext w w' ∧ ∃ k:Nat,r = .int .i64 (k:Int) ∧ n < 2 ^ k ∧ (1 ≤ n → 2 ^ k ≤ 2 * n) ∧ k ≤ 64:=by
 apply xS;unfold nX
 -- at each join: what is left of n, and by how many bits it was shifted
 have stage:∀ {x m s:Nat},x = n / 2 ^ m → x / 2 ^ s = n / 2 ^ (m + s):=fun {x m s} h=>by rw [h,Nat.div_div_eq_div_mul,← Nat.pow_add]
 ((with_reducible refine iLe ?_))
 refine iJnX (fun xs w'=>Ext w w' ∧ ∃ x m:Nat,xs = [.int .u64 (x:Int),.int .i64 (m:Int)] ∧ x = n / 2 ^ m ∧ x < 2 ^ 32 ∧ (1 ≤ m → 1 ≤ x) ∧ m ≤ 32) (fun J hJ=>?_) ?_
 ·refine iCndP (fun h=>?_) (fun h=>?_)
  ·refine iShrV (j:=32) (by omega) ?_
   exact hJ _ _ ⟨Ext.refl _,_,32,rfl,rfl,by omega,by omega,by omega⟩
  ·exact hJ _ _ ⟨Ext.refl _,n,0,rfl,by simp,by omega,by omega,by omega⟩
 rintro xs w2 ⟨h2,x,m,rfl,hx,hx32,hm1,hm⟩
 intro _
 simp only [gx]
 ((with_reducible refine iLe ?_))
 refine iJnX (fun xs w'=>Ext w w' ∧ ∃ x m:Nat,xs = [.int .u64 (x:Int),.int .i64 (m:Int)] ∧ x = n / 2 ^ m ∧ x < 2 ^ 16 ∧ (1 ≤ m → 1 ≤ x) ∧ m ≤ 48) (fun J hJ=>?_) ?_
 ·refine iCndP (fun h=>?_) (fun h=>?_)
  ·refine iShrV (j:=16) (by omega) ?_
   (refine iAdd (by omega) ?_)
   exact hJ _ _ ⟨h2,_,m + 16,rfl,stage hx,by omega,by omega,by omega⟩
  ·exact hJ _ _ ⟨h2,x,m,rfl,hx,by omega,hm1,by omega⟩
 rintro xs w4 ⟨h4,x,m,rfl,hx,hx16,hm1,hm⟩
 intro _
 simp only [gx]
 ((with_reducible refine iLe ?_))
 refine iJnX (fun xs w'=>Ext w w' ∧ ∃ x m:Nat,xs = [.int .u64 (x:Int),.int .i64 (m:Int)] ∧ x = n / 2 ^ m ∧ x < 2 ^ 8 ∧ (1 ≤ m → 1 ≤ x) ∧ m ≤ 56) (fun J hJ=>?_) ?_
 ·refine iCndP (fun h=>?_) (fun h=>?_)
  ·refine iShrV (j:=8) (by omega) ?_
   (refine iAdd (by omega) ?_)
   exact hJ _ _ ⟨h4,_,m + 8,rfl,stage hx,by omega,by omega,by omega⟩
  ·exact hJ _ _ ⟨h4,x,m,rfl,hx,by omega,hm1,by omega⟩
 rintro xs w6 ⟨h6,x,m,rfl,hx,hx8,hm1,hm⟩
 intro _
 simp only [gx]
 obtain ⟨t1,t2,t3⟩:x < 2 ^ (len8.getD x 0).toNat ∧ (1 ≤ x → 2 ^ (len8.getD x 0).toNat ≤ 2 * x) ∧ (len8.getD x 0).toNat ≤ 8:=ZX ⟨x,hx8⟩
 refine ⟨_,_,rfl,?_⟩
 rw [IntWalk.u8_in _ (by omega)]
 refine iIs (l:=len8) (j:=x) (by show x < 256;omega) ?_
 refine D1 (by omega) ?_
 refine iAdd (by omega) ?_
 refine ⟨h6,m + (len8.getD x 0).toNat,by first | rfl | (push_cast;rfl),?_,fun h1=>?_,by omega⟩
 ·have:=Nat.lt_div_mul_add (a:=n) (b:=2 ^ m) (Nat.two_pow_pos m)
  rw [← hx] at this
  have h3:(x + 1) * 2 ^ m ≤ 2 ^ (len8.getD x 0).toNat * 2 ^ m:=Nat.mul_le_mul_right _ t1
  rw [Nat.pow_add,Nat.mul_comm (2 ^ m)]
  rw [Nat.add_mul] at h3
  omega
 ·rcases Nat.eq_zero_or_pos x with h0 | h0
  ·have hm0:m = 0:=by omega
   subst hm0
   simp at hx
   omega
  ·have h3:=Nat.mul_le_mul_left (2 ^ m) (t2 h0)
   have h4:2 ^ m * x ≤ n:=by rw [hx];exact Nat.mul_div_le n (2 ^ m)
   rw [Nat.pow_add]
   rw [Nat.mul_left_comm] at h3
   omega
theorem NL {n:Nat} (hn:n < 2 ^ 63) (w:World):Cal Tryz.prog rA #[.int .u64 (n:Int)] w fun r w'=>Ext w w' ∧ ∃ k:Nat,r = .int .i64 (k:Int) ∧ n < 2 ^ k ∧ (1 ≤ n → 2 ^ k ≤ 2 * n) ∧ k ≤ 64:=by
 apply BF;unfold qY
 exact iCall (JW hn w)
end Go.Proofs.YtbfpohbmgjcjmaaGreatDoor

namespace Go.Vc
section
variable {P:Program} {w:World} {lo:Nat} {e:TypeId}
theorem Ow.openV {v:Value} {xs:List Value} (hs:Ow lo e w v xs) (hne:xs ≠ []):∃ g cap,v = .slice (some ⟨g,0,none⟩) xs.length cap ∧ xs.length ≤ cap ∧ cap ≤ 9223372036854775807:=by
 obtain ⟨_,⟨_,h0⟩ | ⟨g,cap,cur,hv,_,_,h1,h2,_⟩⟩:=hs
 ·exact absurd (List.length_eq_zero_iff.1 h0) hne
 ·exact ⟨g,cap,hv,h1,h2⟩
theorem Ow.atV {g n cap:Nat} {xs:List Value} (hs:Ow lo e w (.slice (some ⟨g,0,none⟩) n cap) xs) (hn:xs.length = n) {j:Nat} (hj:j < n):w.cell? ⟨g,j,none⟩ = xs[j]?:=by
 have h:w.ownsRow lo e 1 (.slice (some ⟨g,0,none⟩) n cap) n xs:=by unfold Ow at hs;rw [hn] at hs;exact hs
 exact h.cellAt j (by omega)
theorem TO {g n cap k:Nat} {ki:IntKind} {K:Value → Prop} (hk:k < n) (hc:n ≤ cap) (h:K (.slice (some ⟨g,k,none⟩) (n - k) (cap - k))):xSl 1 (.slice (some ⟨g,0,none⟩) n cap) (some (.int ki (k:Int))) none K:=by
 refine ⟨_,_,_,k,n,rfl,rfl,⟨ki,rfl⟩,by omega,hc,?_⟩
 rw [if_neg (by omega),Option.map_some,bF,Nat.zero_add,Nat.mul_one]
 exact h
theorem Y0 {g n cap k:Nat} {ki:IntKind} {K:Value → Prop} (hk:k ≤ n) (hc:n ≤ cap) (h:K (.slice (some ⟨g,0,none⟩) k cap)):xSl 1 (.slice (some ⟨g,0,none⟩) n cap) none (some (.int ki (k:Int))) K:=by
 refine ⟨_,_,_,0,k,rfl,⟨ki,rfl⟩,rfl,Nat.zero_le _,by omega,?_⟩
 have e:(if cap = 0 then some (⟨g,0,none⟩:Addr) else (some (⟨g,0,none⟩:Addr)).map (·.add (0 * 1))) = some ⟨g,0,none⟩:=by
  split
  ·rfl
  ·simp [Addr.add]
 rw [e,Nat.sub_zero,Nat.sub_zero]
 exact h
theorem iClrV {t ty:TypeId} {z:Value} {bytes g n cap k:Nat} {xs:List Value} {K:Value → World → Prop} (ht:P.underlying t = some (.slice e)) (hi:(P.info? e).map (fun i=>(i.zero,i.size,i.bytes)) = some (some z,1,bytes)) (hz:aF z = true)
  (hs:Ow lo e w (.slice (some ⟨g,0,none⟩) n cap) xs) (hn:xs.length = n) (hk:k < n) (h:∀ w',Ow lo e w' (.slice (some ⟨g,0,none⟩) k cap) (xs.take k) → Ch (fun c=>c = g) w w' → K (.tuple #[]) w'):
  xOp P (Builtin.clear_ #[t] ty #[.slice (some ⟨g,k,none⟩) (n - k) (cap - k)]) w K:=by
 obtain ⟨i,hi,h3⟩:=Option.map_eq_some_iff.1 hi
 simp only [Prod.mk.injEq] at h3
 obtain ⟨hz0,-,-⟩:=h3
 obtain ⟨-,⟨hv,-⟩ | ⟨g',cap',cur,hv,hg,hh,h1,h2,h3,h4⟩⟩:=hs
 ·cases hv
 ·injection hv with e1 e2 e3
  injection e1 with e1
  injection e1 with e1
  subst e1
  subst e3
  rw [hn] at h1 h4
  rw [Nat.mul_one] at h3 h4
  have hzc:(Builtin.zeroCells z.cells (n - k)).toList = List.replicate (n - k) z:=by
   rw [aH hz]
   simp [Builtin.zeroCells]
   apply List.ext_getElem
   ·simp
   ·intro i h1 h2
    simp [Nat.mod_one]
  have hrun:=run_storeCells_at P g k e (List.replicate (n - k) z) 0 cur w hh (by rw [List.length_replicate];omega) (fun v hv=>kJ (by rw [List.eq_of_mem_replicate hv];exact hz))
  refine ⟨_,_,?_,h (w.setRow g (cur.toList.take (k + 0) ++ List.replicate (n - k) z ++ cur.toList.drop (k + 0 + (List.replicate (n - k) z).length)).toArray) ?_ ?_⟩
  ·obtain ⟨m,hm⟩:∃ m,n - k = m + 1:=⟨n - k - 1,by omega⟩
   rw [hm] at hrun hzc ⊢
   simp [Builtin.clear_,run_underlying ht,zeroValue,kE hi,hz0,hzc,hrun]
  ·refine ⟨by simp,.inr ⟨g,cap,_,?_,hg,setRow_heap w g cur _ e (0,0) hh,by rw [List.length_take];omega,h2,?_,?_⟩⟩
   ·rw [List.length_take,hn,Nat.min_eq_left (by omega)]
   ·simp;omega
   ·rw [List.length_take,hn,Nat.min_eq_left (by omega),Nat.mul_one,Nat.add_zero,List.take_append_of_le_length (by simp;omega),List.take_append_of_le_length (by simp;omega),List.take_take,Nat.min_self,← h4,List.take_take,Nat.min_eq_left (by omega)]
  ·exact ⟨rfl,rfl,rfl,by rw [setRow_size];exact Nat.le_refl _,fun c _ hc=>setRow_other w g c _ hc⟩
end
def encI (x:Int):Value:=.int .i64 x
def ltI (a b:Int):Bool:=decide (a < b)
theorem ordrI:Ordr ltI:=⟨fun {a b} h=>by unfold ltI at *;simp at h ⊢;omega,fun {a b c} h k=>by unfold ltI at *;simp at h k ⊢;omega⟩
end Go.Vc
namespace Go.Proofs.YtbfpohbmgjcjmaaGreatDoor
open Go.Vc
theorem MQ (x:Int) (w:World):Ret Tryz.prog AZ #[.int .i64 x] w (.bool false):=by
 apply O5;unfold A2
 refine iNe ?_
 rw [decide_eq_false (fun h=>h rfl)]
 exact ⟨rfl,Ext.refl _⟩
theorem O0 (a b:Int) (w:World):Ret Tryz.prog DD #[encI a,encI b] w (.bool (ltI a b)):=by
 apply PL;unfold D2
 refine iJnB (ltI a b) w (fun J hJ=>?_) (fun w4 h4=>?_)
 ·refine iRet (MQ a w) fun w3 h3=>?_
  refine iCndF rfl ?_
  refine iLt ?_
  exact hJ w3 h3
 ·intro _
  simp only [gx]
  exact ⟨by first | trivial | rfl,h4⟩
theorem nY {lo:Nat} {w:World} {v:Value} {L:List Int} {a b:Nat} (hs:Ow lo t_i64 w v (L.map encI)) (hab:a ≤ b) (hb:b ≤ L.length) (hL:L.length ≤ 1152921504606846976):
  Cal Tryz.prog fX #[v,.int .i64 (a:Int),.int .i64 (b:Int)] w fun _ w'=>∃ L',Turn lo t_i64 encI v w w' L' ∧ SwR a b L L' ∧ Srt ltI a b L':=by
 apply oK;unfold fZ
 (refine iAdd (by omega) ?_)
 refine iLp (fun i:Nat=>[.int .i64 (i:Int)]) (fun i w'=>a + 1 ≤ i ∧ i ≤ b + 1 ∧ ∃ L',Turn lo t_i64 encI v w w' L' ∧ SwR a b L L' ∧ Srt ltI a i L') (fun i=>b + 1 - i) (a + 1) (by simp) ⟨Nat.le_refl _,by omega,L,Turn.refl hs,.refl,Srt.short (Nat.le_refl _)⟩ ?_
 rintro i w2 Kn ⟨hi,hib,L1,ht1,hw1,hs1⟩ hKn
 intro _
 simp only [gx]
 refine iLt ?_
 refine iCndP (fun h=>?_) (fun h=>?_)
 ·have hl1:=hw1.len
  refine iLp (fun j:Nat=>[.int .i64 (j:Int)]) (fun j w'=>a ≤ j ∧ j ≤ i ∧ ∃ L',Turn lo t_i64 encI v w w' L' ∧ SwR a b L L' ∧ Ins ltI a i j L') (fun j=>j) i rfl ⟨by omega,Nat.le_refl _,L1,ht1,hw1,Ins.init hs1⟩ ?_
  rintro j w4 Kn2 ⟨haj,hji,L2,ht2,hw2,hin⟩ hKn2
  have hl2:=hw2.len
  intro _
  simp only [gx]
  refine iJnB (decide (a < j) && ltI (gt L2 j) (gt L2 (j - 1))) w4 (fun J hJ=>?_) (fun w6 h6=>?_)
  ·refine iLt ?_
   refine iCndP (fun h5=>?_) (fun h5=>?_)
   ·rw [decide_eq_true (show a < j by omega),Bool.true_and] at hJ
    refine iRdO (j:=j) ht2.ow rfl (by omega) ?_
    (refine iSub (by omega) ?_)
    refine iRdO (j:=j - 1) ht2.ow (by omega) (by omega) ?_
    exact iRetQ (fun w' _=>O0 _ _ w') hJ
   ·rw [decide_eq_false (show ¬ a < j by omega),Bool.false_and] at hJ
    exact hJ
  ·intro _
   simp only [gx]
   have ht6:=ht2.ext h6
   cases hc:decide (a < j) && ltI (gt L2 j) (gt L2 (j - 1))
   ·refine iCndF rfl ?_
    (refine iAdd (by omega) ?_)
    refine hKn (i + 1) _ ⟨by omega,by omega,L2,ht6,hw2,hin.done ordrI ?_ hji⟩ (by omega)
    rw [Bool.and_eq_false_iff,decide_eq_false_iff_not] at hc
    rcases hc with hc | hc
    ·exact .inl (by omega)
    ·rcases Nat.lt_or_ge a j with h' | h'
     ·exact .inr ⟨h',hc⟩
     ·exact .inl h'
   ·rw [Bool.and_eq_true,decide_eq_true_eq] at hc
    refine iCndT rfl ?_
    (refine iSub (by omega) ?_;refine iSub (by omega) ?_)
    refine iRdO (j:=j - 1) ht6.ow (by omega) (by omega) ?_
    refine iRdO (j:=j) ht6.ow rfl (by omega) ?_
    refine iWr2 (i:=j) (j:=j - 1) (fun _=>rfl) ht6.ow rfl (by omega) (by omega) (by omega) fun w13 h13=>?_
    (refine iSub (by omega) ?_)
    rw [show (j:Int) - 1 = ((j - 1:Nat):Int) by omega]
    exact hKn2 (j - 1) _ ⟨by omega,by omega,sw L2 j (j - 1),ht6.trans h13,.step hw2 (by omega) (by omega) (by omega) (by omega) hb,hin.swap ordrI hc.1 hji (by omega) hc.2⟩ (by omega)
 ·exact ⟨L1,ht1,hw1,hs1.mono (Nat.le_refl _) (by omega)⟩
theorem OW {lo:Nat} {w:World} {v:Value} {L:List Int} (hs:Ow lo t_i64 w v (L.map encI)) (hL:L.length ≤ 12):
  Cal Tryz.prog pI #[v] w fun _ w'=>∃ L',Turn lo t_i64 encI v w w' L' ∧ List.Perm L' L ∧ L'.Pairwise fun x y=>ltI y x = false:=by
 apply CO;unfold pD
 refine iLenS hs.sl ?_
 rw [List.length_map]
 refine C8 (by omega) ?_
 refine iCall ((NL (n:=L.length) (by omega) w).mono ?_)
 rintro _ w1 ⟨x1,k,rfl,_,_,_⟩
 have hsort:Cal Tryz.prog j8 #[v,.int .i64 0,.int .i64 (L.length:Int),.int .i64 (k:Int)] w1 fun _ w'=>∃ L',Turn lo t_i64 encI v w1 w' L' ∧ SwR 0 L.length L L' ∧ Srt ltI 0 L.length L':=by
  apply vX;unfold j9
  refine iLp (fun _:Unit=>[.int .i64 0,.int .i64 (L.length:Int),.int .i64 (k:Int),.bool true,.bool true]) (fun _ w'=>w' = w1) (fun _=>0) () rfl rfl ?_
  rintro _ w2 Kn rfl _
  intro _
  simp only [gx]
  refine iSub (by omega) ?_
  refine iLe (iCndT (by simp;omega) ?_)
  exact iCall ((nY (a:=0) (hs.ext x1) (Nat.zero_le _) (Nat.le_refl _) (by omega)).mono fun _ w' h=>h)
 refine iCall (hsort.mono ?_)
 rintro _ w2 ⟨L',ht,hw,hst⟩
 refine ⟨L',⟨ht.ow,(x1.ch (S:=fun c=>v.ownBlock = some c)).trans ht.ch fun _ e=>.inl e⟩,hw.perm,?_⟩
 have hl:=hw.len
 rw [← hl] at hst
 exact hst.pairwise
end Go.Proofs.YtbfpohbmgjcjmaaGreatDoor
namespace Go.Vc
theorem MR (L:List Int) {j:Nat} (hj:j < L.length):(L.map encI)[j]? = some (encI (gt L j)):=by rw [gt_eq hj];simp [hj]
def ddI (L:List Int):List Int:=ddA ltI id L
theorem Z5 (a b:Int):(ltI a b || ltI b a) = decide (¬ a = b):=by
 unfold ltI
 rw [Bool.eq_iff_iff,Bool.or_eq_true,decide_eq_true_eq,decide_eq_true_eq,decide_eq_true_eq]
 omega
theorem NH {L:List Int} {i:Nat} (h0:1 ≤ i) (hi:i < L.length):ddI (L.take (i + 1)) = if gt L i = gt L (i - 1) then ddI (L.take i) else ddI (L.take i) ++ [gt L i]:=by
 rw [ddI,S3 h0 hi,id,id,Z5]
 by_cases h:gt L i = gt L (i - 1)
 ·rw [if_pos h,if_neg (by simp [h])];rfl
 ·rw [if_neg h,if_pos (by simpa using fun e=>h e.symm)];rfl
theorem VC {L:List Int}:∀ k,k ≤ L.length → (∀ i,1 ≤ i → i < k → ¬ gt L i = gt L (i - 1)) → ddI (L.take k) = L.take k:=by
 intro k
 induction k with
 | zero=>intro _ _;rfl
 | succ k ih=>
  intro hk h
  rcases Nat.eq_zero_or_pos k with h0 | h0
  ·subst h0
   rw [ddI,UR (by omega),List.take_succ_eq_append_getElem (by omega),gt_eq (by omega)];rfl
  ·rw [NH h0 (by omega),if_neg (h k h0 (by omega)),ih (by omega) fun i h1 h2=>h i h1 (by omega),List.take_succ_eq_append_getElem (by omega),gt_eq (by omega)]
theorem XP {L:List Int} (h:∀ i,1 ≤ i → i < L.length → ¬ gt L i = gt L (i - 1)):ddI L = L:=by
 have:=VC L.length (Nat.le_refl _) h
 rwa [List.take_length] at this
theorem YI {L:List Int} (h:L.Pairwise fun x y=>ltI y x = false):(ddI L).Pairwise (fun a b=>a < b) ∧ ∀ a,a ∈ ddI L ↔ a ∈ L:=by
 have O:OrdA ltI:=⟨ordrI,fun {a b} h k=>by unfold ltI at h k;simp at h k;omega⟩
 obtain ⟨h1,h2,h3⟩:=YV (key:=id) O h L.length (Nat.le_refl _)
 rw [List.take_length] at h1 h2 h3
 rw [List.map_id] at h2
 refine ⟨h2.imp fun h=>by unfold ltI at h;exact of_decide_eq_true h,fun a=>⟨fun ha=>h1.subset ha,fun ha=>?_⟩⟩
 have:=h3 a (by rw [List.map_id];exact ha)
 rwa [List.map_id] at this
end Go.Vc
namespace Go.Proofs.YtbfpohbmgjcjmaaGreatDoor
open Go.Vc
theorem wQ {lo:Nat} {w:World} {v:Value} {L:List Int} (hs:Ow lo t_i64 w v (L.map encI)) (hL:L.length ≤ 1152921504606846976):
  Cal Tryz.prog lN #[v] w fun r w'=>Ow lo t_i64 w' r ((ddI L).map encI) ∧ Ch (fun c=>v.ownBlock = some c) w w' ∧ r.ownBlock = v.ownBlock:=by
 apply yQ;unfold lR
 refine iLenS hs.sl ?_
 rw [List.length_map]
 refine iLt ?_
 refine iCndP (fun h=>?_) (fun h=>?_)
 ·rw [XP (fun i h1 h2=>by omega)]
  exact ⟨hs,(Ext.refl w).ch,by first | trivial | rfl⟩
 obtain ⟨g,cap,hv,hcap,hcm⟩:=hs.openV (by intro e;have:=congrArg List.length e;rw [List.length_map,List.length_nil] at this;omega)
 rw [List.length_map] at hv hcap
 refine iLp (fun k:Nat=>[.int .i64 (k:Int)]) (fun k w'=>1 ≤ k ∧ k ≤ L.length ∧ Ext w w' ∧ ∀ i,1 ≤ i → i < k → ¬ gt L i = gt L (i - 1)) (fun k=>L.length - k) 1 rfl ⟨Nat.le_refl _,by omega,Ext.refl _,fun i h1 h2=>by omega⟩ ?_
 rintro k w2 Kn ⟨hk1,hkn,h2,hne⟩ hKn
 have hs2:=hs.ext h2
 intro _
 simp only [gx]
 refine iLenS hs2.sl ?_
 rw [List.length_map]
 refine iLt ?_
 refine iCndP (fun h3=>?_) (fun h3=>?_)
 rotate_left
 ·rw [XP (fun i h1 h2=>hne i h1 (by omega))]
  exact ⟨hs2,h2.ch,by first | trivial | rfl⟩
 refine iRdO (j:=k) hs2 rfl (by omega) ?_
 refine iSub (by omega) ?_
 refine iRdO (j:=k - 1) hs2 (by omega) (by omega) ?_
 refine iEq ?_
 intro w3 h23
 have hs3:=hs2.ext h23
 refine iCndP (fun h4=>?_) (fun h4=>?_)
 rotate_left
 ·refine iAdd (by omega) ?_
  refine hKn (k + 1) _ ⟨by omega,by omega,h2.trans h23,fun i h1 h5=>?_⟩ (by omega)
  by_cases hi:i = k
  ·subst hi;exact h4
  ·exact hne i h1 (by omega)
 subst hv
 refine TO (k:=k) (by omega) hcap ?_
 refine iLp (fun s:Nat × Nat=>[.int .i64 (s.1:Int),.int .i64 (s.2:Int)]) (fun s w'=>k ≤ s.1 ∧ s.1 + 1 ≤ k + s.2 ∧ k + s.2 ≤ L.length ∧ ∃ M,Turn lo t_i64 encI (.slice (some ⟨g,0,none⟩) L.length cap) w w' M ∧ M.length = L.length ∧ M.take s.1 = ddI (L.take (k + s.2)) ∧ ∀ j,k + s.2 ≤ j + 1 → gt M j = gt L j) (fun s=>L.length - s.2) (k,1) rfl
  ⟨Nat.le_refl _,Nat.le_refl _,by show k + 1 ≤ L.length;omega,L,⟨hs3,(h2.trans h23).ch⟩,rfl,by show L.take k = ddI (L.take (k + 1));rw [NH hk1 (by omega),if_pos h4,VC k (by omega) hne],fun _ _=>rfl⟩ ?_
 rintro ⟨kk,k2⟩ w5 Kn5 ⟨hkk,hkk2,hk2,M,ht,hM,hMt,hMe⟩ hKn5
 have hkk:k ≤ kk:=hkk
 have hkk2:kk + 1 ≤ k + k2:=hkk2
 have hk2:k + k2 ≤ L.length:=hk2
 have hMt:M.take kk = ddI (L.take (k + k2)):=hMt
 have hMe:∀ j,k + k2 ≤ j + 1 → gt M j = gt L j:=hMe
 intro _
 simp only [gx]
 refine iLenL ?_
 refine iLt ?_
 refine iCndP (fun h5=>?_) (fun h5=>?_)
 ·refine iIaL (j:=k2) (by omega) ?_
  refine iLd (ht.ow.atV (by rw [List.length_map];exact hM) (j:=k + k2) (by omega) |>.trans (MR M (by omega))) ?_
  refine iSub (by omega) ?_
  rw [show (k2:Int) - 1 = ((k2 - 1:Nat):Int) by omega]
  refine iIaL (j:=k2 - 1) (by omega) ?_
  refine iLd (ht.ow.atV (by rw [List.length_map];exact hM) (j:=k + (k2 - 1)) (by omega) |>.trans (MR M (by omega))) ?_
  refine iNe ?_
  intro w6 h56
  have ht6:=ht.ext h56
  have e1:=hMe (k + k2) (by omega)
  have e2:=hMe (k + (k2 - 1)) (by omega)
  have edd:=NH (L:=L) (i:=k + k2) (by omega) (by omega)
  rw [← e1,show k + k2 - 1 = k + (k2 - 1) by omega,← e2] at edd
  refine iCndP (fun h6=>?_) (fun h6=>?_)
  ·rw [if_neg h6,← hMt] at edd
   refine iIaL (j:=k2) (by omega) ?_
   refine iLd (ht6.ow.atV (by rw [List.length_map];exact hM) (j:=k + k2) (by omega) |>.trans (MR M (by omega))) ?_
   refine iIaOw ht6.ow (by omega) (by rw [List.length_map];omega) fun b o hb _ _ hc hf hset=>?_
   refine iSt (hc.trans (List.getElem?_eq_getElem (by rw [List.length_map];omega))) hf rfl ?_
   have hset:=hset (encI (gt M (k + k2)))
   rw [Int.toNat_natCast,← List.map_set] at hset
   refine iAdd (by omega) ?_
   refine iAdd (by omega) ?_
   refine hKn5 (kk + 1,k2 + 1) _ ⟨by show k ≤ kk + 1;omega,by show kk + 1 + 1 ≤ k + (k2 + 1);omega,by show k + (k2 + 1) ≤ L.length;omega,M.set kk (gt M (k + k2)),⟨hset,ht6.ch.trans ((Upd.setCell w6 b o _).ch (S:=fun c=>Value.ownBlock (.slice (some ⟨g,0,none⟩) L.length cap) = some c) hb) fun _ e=>.inl e⟩,by rw [List.length_set];exact hM,?_,fun j hj=>?_⟩ (by show L.length - (k2 + 1) < L.length - k2;omega)
   ·show (M.set kk (gt M (k + k2))).take (kk + 1) = ddI (L.take (k + (k2 + 1)))
    rw [show k + (k2 + 1) = k + k2 + 1 by omega,edd,List.take_succ_eq_append_getElem (by rw [List.length_set];omega),List.getElem_set_self,List.take_set_of_le (Nat.le_refl _)]
   ·have hj:k + (k2 + 1) ≤ j + 1:=hj
    rw [I4 _ (by omega),if_neg (by omega)]
    exact hMe j (by omega)
  ·rw [if_pos (Classical.not_not.1 h6),← hMt] at edd
   refine iAdd (by omega) ?_
   exact hKn5 (kk,k2 + 1) _ ⟨hkk,by show kk + 1 ≤ k + (k2 + 1);omega,by show k + (k2 + 1) ≤ L.length;omega,M,ht6,hM,edd.symm,fun j hj=>hMe j (by have hj:k + (k2 + 1) ≤ j + 1:=hj;omega)⟩ (by show L.length - (k2 + 1) < L.length - k2;omega)
 ·have hend:k + k2 = L.length:=by omega
  rw [hend,List.take_length] at hMt
  refine TO (k:=kk) (by omega) hcap ?_
  refine iClrV fL fQ rfl ht.ow (by rw [List.length_map];exact hM) (by omega) fun w8 h8 hc8=>?_
  refine Y0 (k:=kk) (by omega) hcap ?_
  rw [show (List.map encI M).take kk = (M.take kk).map encI from (List.map_take ..).symm,hMt] at h8
  exact ⟨h8,ht.ch.trans hc8 fun c hc=>.inl (by rw [hc];rfl),rfl⟩
end Go.Proofs.YtbfpohbmgjcjmaaGreatDoor

namespace Go.Vc
theorem vP {w:World} {e:TypeId} {k:IntKind} {a:Int} {K:Value → World → Prop} (h:∀ q w',q = w.heap.size ∧ w'.heap.size = q + 1 → Ext w w' → Blk e w' q [.int k a] → K (.pointer (some ⟨q,0,none⟩)) w'):xNew (Value.cells (.int k a)) e w K:=
 iNew fun q w' h1 h2 h3=>h q w' h1 h2 (by simpa [Value.cells] using h3)
theorem S8 {P:Program} {w:World} {f:FuncId} {args:List Value} {c:Value} {K:Value → World → Prop} (hc:Cal P f (args.toArray ++ #[c]) w K):callV P (.func (.func f) #[] #[c]) args w K:=⟨K,.inl ⟨f,#[],#[c],rfl,by simpa using hc⟩,fun _ _ h=>h⟩
end Go.Vc
namespace Go.Proofs.YtbfpohbmgjcjmaaGreatDoor
open Go.Vc
theorem U9 {L:List VN} {j:Nat} (hj:j < L.length):gt (L.map Prod.snd) j = (gt L j).2:=by
 rw [gt_eq (by rw [List.length_map];exact hj),gt_eq hj,List.getElem_map]
theorem zP {v:Value} {w:World} {l:List Int} (hs:SlI w v l) (x:Int):Ret Tryz.prog kP #[v,.int .i64 x] w (.bool (decide (x ∈ l))):=by
 have hl:=hs.len
 have hi:Cal Tryz.prog nM #[v,.int .i64 x] w fun r w'=>Ext w w' ∧ ∃ z:Int,r = .int .i64 z ∧ (0 ≤ z ↔ x ∈ l):=by
  apply AP;unfold nJ
  refine iLenI hs ?_
  refine iLp (fun i:Nat=>[.int .i64 (i:Int)]) (fun i w'=>w' = w ∧ i ≤ l.length ∧ ∀ j,j < i → l[j]? ≠ some x) (fun i=>l.length - i) 0 rfl ⟨rfl,Nat.zero_le _,fun j hj=>absurd hj (Nat.not_lt_zero j)⟩ ?_
  rintro i _ Kn ⟨rfl,hi,hall⟩ hKn
  intro _
  simp only [gx]
  refine iLt (iCndP (fun h=>?_) (fun h=>?_))
  ·have hil:i < l.length:=by omega
   refine iIaN hs hil fun p hp=>iLd hp (iEq ?_)
   have e:l.getD i 0 = l[i]:=by simp [hil]
   rw [e]
   refine iCndP (fun h2=>?_) (fun h2=>?_)
   ·exact ⟨Ext.refl _,_,rfl,by rw [h2];exact ⟨fun _=>List.getElem_mem _,fun _=>by omega⟩⟩
   ·refine iAdd (by omega) ?_
    refine hKn (i + 1) _ ⟨rfl,hil,fun j hj=>?_⟩ (by omega)
    by_cases hji:j = i
    ·rw [hji,List.getElem?_eq_getElem hil]
     intro h;cases h;exact h2 rfl
    ·exact hall j (by omega)
  ·refine ⟨Ext.refl _,_,rfl,⟨fun h=>by omega,fun hx=>?_⟩⟩
   obtain ⟨j,hj,e⟩:=List.getElem_of_mem hx
   exact absurd (by rw [List.getElem?_eq_getElem hj,e]) (hall j (by omega))
 apply xA;unfold kQ
 refine iCall (hi.mono ?_)
 rintro _ w1 ⟨x1,z,rfl,hz⟩
 refine iLe ⟨?_,x1⟩
 congr 1
 exact decide_eq_decide.2 hz
theorem mO {v:Value} {xs:List Value} {w:World} (h:Sl w v xs):Ret Tryz.prog pC #[v] w (.int .i64 (xs.length:Int)):=by
 apply CR;unfold oX
 exact iLenS h ⟨rfl,Ext.refl _⟩
theorem HY {t:Str} (ht:sysNo t < 10) {b k:Nat} {v1 v2 vu:Value} {L:List VN} {Lh:List HL} {y:HV} {w:World} (hT:SchOk w) (hb:Blk 63 w b [sv t,v1,v2,vu]) (hH:RwN w v1 L) (hLl:L.length ≤ 1000) (hy:RawS w y.v y.x.N) (hn:isN y.x.N = true) (hr:y.x.rule = 1 ∨ y.x.rule = 2):
  Ret Tryz.prog i9 #[.pointer (some ⟨b,0,none⟩),.agg y.cs.toArray] w (.bool (goodH (sysNo t) (L.map Prod.snd) Lh k y.x)):=by
 obtain ⟨a,ga,sa,hN⟩:=dI hn
 apply sE;unfold jD
 refine iNew4 fun q w1 hq x1 hB=>?_
 have hB:Blk aC w1 q [.int .i64 y.x.rule,.int .i64 y.x.first,.int .i64 y.x.second,y.v]:=hB
 have hb1:=hb.ext x1
 have hfa:∀ {w':World},Ext w w' → FmS w' y.v a:=fun x=>eE (hN ▸ SlK.ext hy x)
 unfold goodH
 rw [hn,Bool.true_and]
 refine iFa (iLdB hB (i:=2) (v:=.int .i64 y.x.second) rfl (iNe (iCndP (fun h2=>?_) (fun h2=>?_))))
 ·rw [decide_eq_false h2,Bool.false_and,Bool.false_and]
  refine ⟨?_,x1⟩
  rcases hr with h | h
  ·rw [if_pos h]
  ·rw [if_neg (by omega),if_pos h]
 have h2:y.x.second = 0:=Classical.not_not.1 h2
 rw [decide_eq_true h2,Bool.true_and,Bool.true_and]
 refine iFa (iLdB hB (i:=0) (v:=.int .i64 y.x.rule) rfl (iEq (iCndP (fun e2=>?_) (fun e2=>?_))))
 ·rw [if_neg (by omega),if_pos e2]
  refine iJnB (decide (0 ≤ y.x.first ∧ y.x.first ≤ ((L.map Prod.snd).length:Int) - 1) && decide (gt (L.map Prod.snd) y.x.first.toNat = y.x.N)) w1 (fun J hJ=>?_) (fun w6 x6=>fun _=>⟨rfl,x1.trans x6⟩)
  refine iFa (iLdB hB (i:=1) (v:=.int .i64 y.x.first) rfl (iNil (iFa (iLdB hb1 (i:=1) (v:=v1) rfl ?_))))
  refine iRetQ (fun w' x'=>mO (hH.ext (x1.trans x')).row) (iSub (by rw [List.length_map];omega) ?_)
  refine iRetQ (fun w' x'=>lP _ _ _ w') ?_
  rw [List.length_map] at hJ ⊢
  refine iCndP (fun h3=>?_) (fun h3=>?_)
  ·rw [decide_eq_true h3,Bool.true_and] at hJ
   have hlt:y.x.first.toNat < L.length:=by omega
   have hpm:gt L y.x.first.toNat ∈ L:=by rw [gt_eq hlt];exact List.getElem_mem _
   refine iNil (iFa (iLdB hb1 (i:=1) (v:=v1) rfl (iFa (iLdB hB (i:=1) (v:=.int .i64 y.x.first) rfl ?_))))
   refine iIa (j:=y.x.first) (hH.ext x1).row h3.1 (by rw [List.length_map];omega) fun p hp=>?_
   rw [List.getElem?_map,List.getElem?_eq_getElem hlt,Option.map_some,← gt_eq hlt] at hp
   refine iLd hp (iFa (iLdB hB (i:=3) (v:=y.v) rfl ?_))
   refine iRetQ (fun w' x'=>kY ((hH.ext (x1.trans x')).raw _ hpm) (SlK.ext hy (x1.trans x'))) ?_
   intro w4 x4
   rw [U9 hlt] at hJ
   exact hJ _ x4
  ·intro w5 x5
   rw [decide_eq_false h3,Bool.false_and] at hJ
   exact hJ _ x5
 ·have e1:y.x.rule = 1:=hr.resolve_right e2
  rw [if_pos e1]
  refine iNil (iFa (iLdB hb1 (i:=0) (v:=sv t) rfl ?_))
  refine iCall ((xU t w1).mono ?_)
  rintro _ w6 ⟨x6,u,rfl,hu⟩
  refine iE20 (iE21 ?_)
  have hB6:=hB.ext x6
  have X6:=x1.trans x6
  refine iJnB (decide (0 ≤ y.x.first) && (decide (y.x.first.toNat ∈ sysS (sysNo t)) && mtc y.x.first.toNat (fmN y.x.N))) w6 (fun J hJ=>?_) (fun w8 x8=>fun _=>⟨rfl,X6.trans x8⟩)
  refine iFa (iLdB hB6 (i:=1) (v:=.int .i64 y.x.first) rfl ?_)
  refine iRet (zP (l:=nats (sysT t)) hu y.x.first) fun w9 x9=>?_
  rw [VP ht]
  have hB9:=hB6.ext x9
  refine iCnd (fun h3=>?_) (fun h3=>?_)
  ·rw [Bool.and_eq_true] at h3
   rw [h3.1,h3.2,Bool.true_and,Bool.true_and,hN,KD] at hJ
   have h30:=of_decide_eq_true h3.1
   have hlt:=SV ht (of_decide_eq_true h3.2)
   refine iFa (iLdB hB9 (i:=1) (v:=.int .i64 y.x.first) rfl (iFa (iLdB hB9 (i:=3) (v:=y.v) rfl ?_)))
   have X9:=X6.trans x9
   have:=IV (k:=y.x.first.toNat) (w:=w9) hlt (hT.ext X9) (hfa X9) (by omega)
   rw [show ((y.x.first.toNat:Nat):Int) = y.x.first by omega] at this
   exact iRet this fun w10 x10=>hJ _ (x9.trans x10)
  ·rw [← Bool.and_assoc,h3,Bool.false_and] at hJ
   exact hJ _ x9
theorem PJ {t:Str} (ht:sysNo t < 10) {b k:Nat} {v1 v2 vu:Value} {L:List VN} {R:List HV} {D:List (Value × List Int)} {w:World} (hT:SchOk w) (hb:Blk 63 w b [sv t,v1,v2,vu]) (hH:RwN w v1 L) (hLl:L.length ≤ 1000) (hR:RdH w v2 R) (hRl:R.length ≤ 1000) (hRs:∀ y ∈ R,y.x.N.length ≤ 1000000) (hk:k < R.length)
  (hgood:∀ j,j < k → goodH (sysNo t) (L.map Prod.snd) (R.map HV.x) j (gt R j).x = true) (hD:D.length = k) (hu:Sl w vu (D.map Prod.fst)) (hDs:∀ p ∈ D,SlI w p.1 p.2) (hDu:∀ j,j < k → ((gt D j).2 = [] ↔ gt (usesB (R.map HV.x)) j = false)):
  Ret Tryz.prog mB #[.pointer (some ⟨b,0,none⟩),.int .i64 (k:Int)] w (.bool (goodH (sysNo t) (L.map Prod.snd) (R.map HV.x) k (gt R k).x)):=by
 have hm:gt R k ∈ R:=by rw [gt_eq hk];exact List.getElem_mem _
 have hRk:=hR.fm _ hm
 have hNl:=hRs _ hm
 apply zK;unfold lZ
 refine vP fun q0 w1 hq0 x1 hB1=>?_
 refine iNil (iFa (iLdB (hb.ext x1) (i:=2) (v:=v2) rfl (iLdB hB1 (i:=0) (v:=.int .i64 (k:Int)) rfl ?_)))
 refine iAtH (hR.ext x1) rfl hk ?_
 intro w2 x2
 refine iNew4 fun q w3 hq x3 hB3=>⟨x3,fun w4 x4=>?_⟩
 refine iStAB (hB3.ext x4) rfl rfl (fun y hy=>?_) fun w5 u5 hB5=>?_
 ·simp only [HV.cs,List.mem_cons,List.not_mem_nil,or_false] at hy
  rcases hy with rfl | rfl | rfl | rfl
  ·rfl
  ·rfl
  ·rfl
  ·obtain ⟨_,_,_,e,_⟩:=hRk
   rw [e];rfl
 intro w6 x6
 have s1:=x1.size
 have s2:=x2.size
 have s4:=x4.size
 have x16:Ext w1 w6:=(((x2.trans x3).trans x4).upd u5 (by omega)).trans x6
 have X6:=x1.trans x16
 have hI6:=hB1.ext x16
 have hb6:=hb.ext X6
 generalize hy:gt R k = y at *
 have hB6:Blk aC w6 q [.int .i64 y.x.rule,.int .i64 y.x.first,.int .i64 y.x.second,y.v]:=hB5.ext x6
 have f0:∀ {w':World} {K:Value → Prop},Ext w6 w' → K (.int .i64 y.x.rule) → xFa 0 (.pointer (some ⟨q,0,none⟩)) fun p=>xLd w' p K:=fun x h=>iFa (iLdB (hB6.ext x) (i:=0) (v:=.int .i64 y.x.rule) rfl h)
 have f1:∀ {w':World} {K:Value → Prop},Ext w6 w' → K (.int .i64 y.x.first) → xFa 1 (.pointer (some ⟨q,0,none⟩)) fun p=>xLd w' p K:=fun x h=>iFa (iLdB (hB6.ext x) (i:=1) (v:=.int .i64 y.x.first) rfl h)
 have f2:∀ {w':World} {K:Value → Prop},Ext w6 w' → K (.int .i64 y.x.second) → xFa 2 (.pointer (some ⟨q,0,none⟩)) fun p=>xLd w' p K:=fun x h=>iFa (iLdB (hB6.ext x) (i:=2) (v:=.int .i64 y.x.second) rfl h)
 have f3:∀ {w':World} {K:Value → Prop},Ext w6 w' → K y.v → xFa 3 (.pointer (some ⟨q,0,none⟩)) fun p=>xLd w' p K:=fun x h=>iFa (iLdB (hB6.ext x) (i:=3) (v:=y.v) rfl h)
 refine f3 (Ext.refl _) (iRet (uW (SlK.ext hRk X6) (by omega)) fun w7 x7=>?_)
 have X7:=X6.trans x7
 refine iNot (iCnd (fun hn=>?_) (fun hn=>?_))
 ·have hn:isN y.x.N = false:=by rwa [Bool.not_eq_true'] at hn
  unfold goodH
  rw [hn,Bool.false_and]
  exact ⟨rfl,X7⟩
 have hn:isN y.x.N = true:=by rwa [Bool.not_eq_false'] at hn
 obtain ⟨a,ga,sa,hN⟩:=dI hn
 have hfa:∀ {w':World},Ext w w' → FmS w' y.v a:=fun x=>eE (hN ▸ SlK.ext hRk x)
 have early:∀ {z:Int} {w':World} {K:Value → World → Prop},Ext w6 w' → (∀ w'',Ext w' w'' → K (.bool (decide (0 ≤ z ∧ z ≤ (k:Int) - 1))) w'') → callV Tryz.prog (.func (.func lE) #[] #[.pointer (some ⟨q0,0,none⟩)]) [.int .i64 z] w' K:=fun {z w' K} x h=>by
  refine S8 ?_
  apply wW;unfold lC
  refine iLdB (hI6.ext x) (i:=0) (v:=.int .i64 (k:Int)) rfl (iSub (by omega) ?_)
  exact iRet (lP z 0 _ w') fun w'' x''=>h w'' x''
 refine f0 x7 (iEq (iJnX (fun xs w'=>xs = [.bool (decide (y.x.rule = 1 ∨ y.x.rule = 2))] ∧ w' = w7) (fun J hJ=>?_) ?_))
 ·refine iCndP (fun e=>hJ _ _ ⟨by rw [decide_eq_true (.inl e)],rfl⟩) (fun e=>iEq (hJ _ _ ⟨?_,rfl⟩))
  congr 2
  exact decide_eq_decide.2 ⟨fun h=>.inr h,fun h=>h.resolve_left e⟩
 rintro _ w7 ⟨rfl,rfl⟩
 intro _
 simp only [gx]
 refine iCndP (fun e=>?_) (fun e=>?_)
 ·refine iLdA (hB6.ext x7) rfl ?_
  refine iRet (HY (k:=k) (Lh:=R.map HV.x) (y:=y) ht (hT.ext X7) (hb6.ext x7) (hH.ext X7) hLl (SlK.ext hRk X7) hn e) fun w10 x10=>⟨rfl,X7.trans x10⟩
 have e1:¬ y.x.rule = 1:=fun h=>e (.inl h)
 have e2:¬ y.x.rule = 2:=fun h=>e (.inr h)
 unfold goodH
 rw [hn,Bool.true_and,if_neg e1,if_neg e2]
 refine iEq (iCndP (fun e3=>?_) (fun e3=>?_))
 ·rw [if_pos e3]
  refine iJnB (decide (0 ≤ y.x.first ∧ y.x.first ≤ (k:Int) - 1) && (decide (0 ≤ y.x.second ∧ y.x.second ≤ (k:Int) - 1) && decide ((gt (R.map HV.x) y.x.first.toNat).N = (4,0) :: ((gt (R.map HV.x) y.x.second.toNat).N ++ y.x.N)))) w7 (fun J hJ=>?_) (fun w6 x6=>fun _=>⟨rfl,X7.trans x6⟩)
  refine f1 x7 ?_
  intro w13 x13
  refine early (x7.trans x13) fun w14 x14=>iCndP (fun r1=>?_) (fun r1=>?_)
  rotate_left
  ·rw [decide_eq_false r1,Bool.false_and] at hJ
   exact fun w22 x22 w23 x23 w24 x24=>hJ _ ((((x13.trans x14).trans x22).trans x23).trans x24)
  rw [decide_eq_true r1,Bool.true_and] at hJ
  have x714:=x13.trans x14
  refine f2 (x7.trans x714) ?_
  intro w15 x15
  refine early ((x7.trans x714).trans x15) fun w16 x16=>iCndP (fun r3=>?_) (fun r3=>?_)
  rotate_left
  ·rw [decide_eq_false r3,Bool.false_and] at hJ
   exact fun w22 x22 w23 x23=>hJ _ ((((x714.trans x15).trans x16).trans x22).trans x23)
  rw [decide_eq_true r3,Bool.true_and] at hJ
  have x716:=(x714.trans x15).trans x16
  have x616:=x7.trans x716
  have X16:=X7.trans x716
  have hj1:y.x.first.toNat < R.length:=by omega
  have hj2:y.x.second.toNat < R.length:=by omega
  have m1:gt R y.x.first.toNat ∈ R:=by rw [gt_eq hj1];exact List.getElem_mem _
  have m2:gt R y.x.second.toNat ∈ R:=by rw [gt_eq hj2];exact List.getElem_mem _
  obtain ⟨d,-,sd,hd⟩:=dI (dZ (hgood y.x.second.toNat (by omega)))
  have hvd:∀ {w':World},Ext w w' → FmS w' (gt R y.x.second.toNat).v d:=fun x=>eE (hd ▸ (hR.ext x).fm _ m2)
  refine iNil (iFa (iLdB (hb6.ext x616) (i:=2) (v:=v2) rfl ?_))
  refine f1 x616 (iFdH (j:=y.x.first.toNat) (hR.ext X16) (by omega) hj1 (by decide) (u:=(gt R y.x.first.toNat).v) rfl ?_)
  refine iNil (iFa (iLdB (hb6.ext x616) (i:=2) (v:=v2) rfl ?_))
  refine f2 x616 (iFdH (j:=y.x.second.toNat) (hR.ext X16) (by omega) hj2 (by decide) (u:=(gt R y.x.second.toNat).v) rfl ?_)
  refine f3 x616 ?_
  intro w17 x17
  have X17:=X16.trans x17
  refine iCall ((dP (k:=4) (c:=.imp d a) rfl rfl (hvd X17) (hfa X17) (by show 1 + d.size + a.size ≤ _;omega)).mono ?_)
  rintro v60 w18 ⟨x18,h60⟩
  refine ⟨x18,?_⟩
  have X18:=X17.trans x18
  refine iRetQ (fun w' x'=>kY (M:=rawF (.imp d a)) ((hR.ext (X18.trans x')).fm _ m1) (FmS.rawS (SlK.ext h60.sl x'))) ?_
  intro w19 x19
  rw [bR hj1,bR hj2,hd,hN] at hJ
  exact hJ _ (((x716.trans x17).trans x18).trans x19)
 rw [if_neg e3]
 refine iEq (iCndP (fun e4=>?_) (fun e4=>?_))
 rotate_left
 ·rw [if_neg e4]
  exact ⟨rfl,X7⟩
 rw [if_pos e4]
 have s2:=UY ht
 refine iJnB (decide (2 ≤ sysNo t) && (decide (y.x.second = 0) && (decide (0 ≤ y.x.first ∧ y.x.first ≤ (k:Int) - 1) && (!(gt (usesB ((R.map HV.x).take k)) y.x.first.toNat) && decide (y.x.N = (5,0) :: (gt (R.map HV.x) y.x.first.toNat).N))))) w7 (fun J hJ=>?_) (fun w6 x6=>fun _=>⟨rfl,X7.trans x6⟩)
 refine iNil (iFa (iLdB (hb6.ext x7) (i:=0) (v:=sv t) rfl ?_))
 refine iNeT (b:=[73,110,116]) (iCndP (fun h4=>?_) (fun h4=>?_))
 rotate_left
 ·rw [s2,decide_eq_true (Classical.not_not.1 h4),Bool.not_true,Bool.false_and,Bool.false_and] at hJ
  exact fun w41 x41 w42 x42 w43 x43=>hJ _ ((x41.trans x42).trans x43)
 refine iNil (iFa (iLdB (hb6.ext x7) (i:=0) (v:=sv t) rfl ?_))
 refine iNeT (b:=[67,76]) (iCndP (fun h5=>?_) (fun h5=>?_))
 rotate_left
 ·rw [s2,decide_eq_true (Classical.not_not.1 h5),Bool.not_true,Bool.and_false,Bool.false_and] at hJ
  exact fun w41 x41 w42 x42 w43 x43=>hJ _ ((x41.trans x42).trans x43)
 rw [decide_eq_false h4,decide_eq_false h5] at s2
 rw [s2,Bool.not_false,Bool.true_and,Bool.true_and] at hJ
 refine f1 x7 ?_
 intro w27 x27
 refine early (x7.trans x27) fun w28 x28=>iCndP (fun r1=>?_) (fun r1=>?_)
 rotate_left
 ·rw [decide_eq_false r1,Bool.false_and,Bool.and_false] at hJ
  exact fun w36 x36 w37 x37=>hJ _ (((x27.trans x28).trans x36).trans x37)
 rw [decide_eq_true r1,Bool.true_and] at hJ
 have x728:=x27.trans x28
 have x628:=x7.trans x728
 have X28:=X7.trans x728
 refine f2 x628 (iEq (iCndP (fun h2=>?_) (fun h2=>?_)))
 rotate_left
 ·rw [decide_eq_false h2,Bool.false_and] at hJ
  exact fun w36 x36 w37 x37=>hJ _ ((x728.trans x36).trans x37)
 rw [decide_eq_true h2,Bool.true_and] at hJ
 have hj1:y.x.first.toNat < R.length:=by omega
 have hjD:y.x.first.toNat < D.length:=by omega
 have mD:gt D y.x.first.toNat ∈ D:=by rw [gt_eq hjD];exact List.getElem_mem _
 refine iNil (iFa (iLdB (hb6.ext x628) (i:=3) (v:=vu) rfl ?_))
 refine f1 x628 (iIa (j:=y.x.first) (hu.ext X28) (by omega) (by rw [List.length_map];omega) fun p hp=>?_)
 rw [List.getElem?_map,List.getElem?_eq_getElem hjD,Option.map_some,← gt_eq hjD] at hp
 refine iLd hp (iLenI ((hDs _ mD).ext X28) (iEq ?_))
 have hd:=hDu y.x.first.toNat (by omega)
 rw [kB (by omega) (by rw [List.length_map];omega)] at hJ
 refine iCndP (fun h6=>?_) (fun h6=>?_)
 rotate_left
 ·have hf:gt (usesB (R.map HV.x)) y.x.first.toNat = true:=by
   cases e:gt (usesB (R.map HV.x)) y.x.first.toNat with
   | true=>rfl
   | false=>exact absurd (by rw [hd.2 e];rfl) h6
  rw [hf,Bool.not_true,Bool.false_and] at hJ
  exact fun w32 x32 w33 x33=>hJ _ ((x728.trans x32).trans x33)
 rw [hd.1 (List.length_eq_zero_iff.1 (by omega)),Bool.not_false,Bool.true_and] at hJ
 have m1:gt R y.x.first.toNat ∈ R:=by rw [gt_eq hj1];exact List.getElem_mem _
 obtain ⟨c,-,sc,hc⟩:=dI (dZ (hgood y.x.first.toNat (by omega)))
 have hvc:∀ {w':World},Ext w w' → FmS w' (gt R y.x.first.toNat).v c:=fun x=>eE (hc ▸ (hR.ext x).fm _ m1)
 refine f3 x628 (iNil (iFa (iLdB (hb6.ext x628) (i:=2) (v:=v2) rfl ?_)))
 refine f1 x628 (iFdH (j:=y.x.first.toNat) (hR.ext X28) (by omega) hj1 (by decide) (u:=(gt R y.x.first.toNat).v) rfl ?_)
 intro w29 x29
 have X29:=X28.trans x29
 refine iCall ((t8 (k:=5) (c:=.box c) rfl rfl (hvc X29) (by show 1 + c.size ≤ _;omega)).mono ?_)
 rintro v112 w30 ⟨x30,h112⟩
 refine ⟨x30,?_⟩
 have X30:=X29.trans x30
 refine iRetQ (fun w' x'=>kY (M:=rawF (.box c)) (SlK.ext hRk (X30.trans x')) (FmS.rawS (SlK.ext h112.sl x'))) ?_
 intro w31 x31
 rw [bR hj1,hc] at hJ
 exact hJ _ (((x728.trans x29).trans x30).trans x31)
end Go.Proofs.YtbfpohbmgjcjmaaGreatDoor

namespace Go.Proofs.YtbfpohbmgjcjmaaGreatDoor
open Go.Vc
theorem XT (x:HL):(premH x).length ≤ 2 ∧ (x.rule = 2 → premH x = []):=by
 unfold premH
 refine ⟨?_,fun h=>by rw [if_neg (by omega),if_neg (by omega)]⟩
 split
 ·exact Nat.le_refl _
 ·split <;> simp
def takeA (D:List (Value × List Int)) (x:HL) (j:Nat):List Int:=(if x.rule = 2 then [x.first] else []) ++ ((premH x).take j).flatMap fun p=>(gt D p.toNat).2
theorem V9 {D:List (Value × List Int)} {x:HL} {j:Nat} (h:j < (premH x).length):takeA D x (j + 1) = takeA D x j ++ (gt D ((premH x)[j]).toNat).2:=by
 unfold takeA
 rw [List.take_succ_eq_append_getElem h,List.flatMap_append,List.append_assoc]
 simp
structure UsW (lo:Nat) (w:World) (b:Nat) (t:Str) (v1 v2:Value) (L:List HL) (h:Nat) (D:List (Value × List Int)):Prop where
 lob:lo ≤ b
 ex:∃ vu,Blk 63 w b [sv t,v1,v2,vu] ∧ Ow lo lF w vu (D.map Prod.fst)
 mem:∀ p ∈ D,Ow lo t_i64 w p.1 (ints p.2) ∧ p.2.Nodup ∧ ∀ z ∈ p.2,0 ≤ z ∧ z < (h:Int)
 us:∀ j,j < D.length → ((gt D j).2 = [] ↔ gt (usesB L) j = false)
theorem UsW.ext {lo:Nat} {w w':World} {b:Nat} {t:Str} {v1 v2:Value} {L:List HL} {h:Nat} {D:List (Value × List Int)} (u:UsW lo w b t v1 v2 L h D) (x:Ext w w'):UsW lo w' b t v1 v2 L h D:=
 let ⟨vu,h1,h2⟩:=u.ex
 ⟨u.lob,⟨vu,h1.ext x,h2.ext x⟩,fun p hp=>⟨(u.mem p hp).1.ext x,(u.mem p hp).2⟩,u.us⟩
theorem TW {lo b h k:Nat} {t:Str} {v1 v2:Value} {R:List HV} {D:List (Value × List Int)} {w:World} (hU:UsW lo w b t v1 v2 (R.map HV.x) h D) (hh:h ≤ 6) (hD:D.length = k) (hk:k < R.length) (hRl:R.length ≤ 1000) (hin:inH h k (gt R k).x) (hlo:lo ≤ w.heap.size):
  Cal Tryz.prog pB #[.pointer (some ⟨b,0,none⟩),.agg (gt R k).cs.toArray] w fun _ w'=>Ch (fun c=>lo ≤ c) w w' ∧ ∃ p,UsW lo w' b t v1 v2 (R.map HV.x) h (D ++ [p]):=by
 have hu:=yT (L:=R.map HV.x) (k:=k) (by rw [List.length_map];exact hk)
 rw [bR hk] at hu
 have ut:∀ {j:Nat},j < k → gt (usesB ((R.map HV.x).take k)) j = gt (usesB (R.map HV.x)) j:=fun hj=>kB hj (by rw [List.length_map];omega)
 obtain ⟨vu,hb0,hvu0⟩:=hU.ex
 apply CF;unfold oF
 generalize hy:gt R k = y at *
 obtain ⟨pl,p2⟩:=XT y.x
 have hpin:∀ p ∈ premH y.x,0 ≤ p ∧ p < (k:Int):=fun p hp=>by
  unfold premH at hp
  split at hp
  ·rename_i e
   have:=hin.2.1 e
   simp only [List.mem_cons,List.not_mem_nil,or_false] at hp
   rcases hp with rfl | rfl
   ·exact this.1
   ·exact this.2
  ·split at hp
   ·rename_i e
    rw [List.mem_singleton.1 hp];exact hin.2.2 e
   ·cases hp
 have mD:∀ {j:Nat},j < k → gt D j ∈ D:=fun {j} hj=>by rw [gt_eq (by omega)];exact List.getElem_mem _
 have lD:∀ {j:Nat},j < k → (gt D j).2.length ≤ 6:=fun hj=>Nat.le_trans (GA (hU.mem _ (mD hj)).2.1 (hU.mem _ (mD hj)).2.2) hh
 refine iNew4 fun q w1 hq x1 hB=>?_
 have hB:Blk aC w1 q [.int .i64 y.x.rule,.int .i64 y.x.first,.int .i64 y.x.second,y.v]:=hB
 refine iFa (iLdB hB (i:=0) (v:=.int .i64 y.x.rule) rfl (iEq ?_))
 refine iJnX (fun xs w'=>∃ u,xs = [u] ∧ Ext w1 w' ∧ Ow w.heap.size t_i64 w' u (ints (takeA D y.x 0))) (fun J hJ=>?_) ?_
 ·refine iCndP (fun e=>?_) (fun e=>?_)
  ·refine iFa (iLdB hB (i:=1) (v:=.int .i64 y.x.first) rfl ?_)
   refine iP fL fQ rfl (Ow.nil w1.heap.size _ _) rfl (by simp) (by simp) (Nat.le_refl _) fun v14 w5 ho hg _=>?_
   refine hJ _ _ ⟨v14,rfl,(Ext.refl _).grown hg (fun c hc=>by cases hc),?_⟩
   unfold takeA
   rw [if_pos e]
   exact ho.mono x1.size
  ·refine hJ _ _ ⟨_,rfl,Ext.refl _,?_⟩
   unfold takeA
   rw [if_neg e]
   exact Ow.nil _ _ _
 rintro _ w3 ⟨u0,rfl,x3,h0⟩
 intro _
 simp only [gx]
 have X3:=x1.trans x3
 refine iLdA (hB.ext x3) rfl ?_
 refine iCall ((o9 (y:=y) (w:=w3)).mono ?_)
 rintro v16 w6 ⟨x6,h16⟩
 have X6:=X3.trans x6
 refine iLenI h16.sl ?_
 refine iLp (fun s:Value × Nat=>[s.1,.int .i64 (s.2:Int)]) (fun s w'=>s.2 ≤ (premH y.x).length ∧ Ext w w' ∧ (w6.heap.size ≤ w'.heap.size ∧ Ow w3.heap.size t_i64 w' v16 (ints (premH y.x)) ∧ ∀ c,s.1.ownBlock = some c → c < w3.heap.size ∨ w6.heap.size ≤ c) ∧ Ow w.heap.size t_i64 w' s.1 (ints (takeA D y.x s.2)) ∧ (takeA D y.x s.2).length ≤ 1 + 6 * s.2 ∧ (¬ y.x.rule = 2 → (takeA D y.x s.2).length ≤ 6 * s.2) ∧ ∀ z ∈ takeA D y.x s.2,0 ≤ z ∧ z < (h:Int)) (fun s=>(premH y.x).length - s.2) (u0,0) rfl ⟨Nat.zero_le _,X6,⟨Nat.le_refl _,h16,fun c hc=>.inl (h0.blk c hc).2⟩,h0.ext x6,?_,fun e=>?_,fun z hz=>?_⟩ ?_
 ·unfold takeA;split <;> simp
 ·unfold takeA;rw [if_neg e];simp
 ·have hz:z ∈ takeA D y.x 0:=hz
  unfold takeA at hz
  split at hz
  ·rename_i e
   simp only [List.take_zero,List.flatMap_nil,List.append_nil,List.mem_singleton] at hz
   rw [hz];exact hin.1 e
  ·simp at hz
 rintro ⟨z,j⟩ w8 Kn ⟨hj,X8,⟨s86,h168,hzb⟩,hz,hl1,hl2,hr⟩ hKn
 have hzb:∀ c,z.ownBlock = some c → c < w3.heap.size ∨ w6.heap.size ≤ c:=hzb
 have hj:j ≤ (premH y.x).length:=hj
 have hz:Ow w.heap.size t_i64 w8 z (ints (takeA D y.x j)):=hz
 have hl1:(takeA D y.x j).length ≤ 1 + 6 * j:=hl1
 have hl2:¬ y.x.rule = 2 → (takeA D y.x j).length ≤ 6 * j:=hl2
 have hr:∀ z ∈ takeA D y.x j,0 ≤ z ∧ z < (h:Int):=hr
 intro _
 simp only [gx]
 have hb8:=hb0.ext X8
 have hv8:=hvu0.ext X8
 have hlt16:∀ c,v16.ownBlock = some c → w3.heap.size ≤ c ∧ c < w6.heap.size:=fun c hc=>⟨(h16.blk c hc).1,(h16.blk c hc).2⟩
 refine iLt (iCndP (fun hlt=>?_) (fun hlt=>?_))
 ·have hjl:j < (premH y.x).length:=by omega
  have ts:=V9 (D:=D) hjl
  have hq:=hpin _ (List.getElem_mem hjl)
  refine iIaN h168.sl hjl fun p hp=>?_
  have e:(premH y.x).getD j 0 = (premH y.x)[j]:=by simp [hjl]
  rw [e] at hp
  generalize (premH y.x)[j] = p0 at *
  refine iLd hp (iNil (iFa (iLdB hb8 (i:=3) (v:=vu) rfl ?_)))
  have hlt:p0.toNat < D.length:=by omega
  refine iIa (j:=p0) hv8.sl (by omega) (by rw [List.length_map];omega) fun p hp=>?_
  rw [List.getElem?_map,List.getElem?_eq_getElem hlt,Option.map_some,← gt_eq hlt] at hp
  obtain ⟨m1,m2,m3⟩:=(hU.ext X8).mem _ (mD (j:=p0.toNat) (by omega))
  have ml:=lD (j:=p0.toNat) (by omega)
  refine iLd hp (iAppA fL fQ rfl hz m1.sl (fun u hu=>?_) (by rw [aL,aL];omega) (by rw [aL,aL];omega) X8.size fun o w9 ho hg hn=>?_)
  ·obtain ⟨i,_,rfl⟩:=List.mem_map.1 hu;rfl
  refine iAdd (by omega) ?_
  have X9:=X8.grown hg fun c hc=>(hz.blk c hc).1
  have s9:=hg.size
  refine hKn (o,j + 1) _ ⟨hjl,?_,?_,?_,?_,fun e=>?_,fun u hu=>?_⟩ (by show (premH y.x).length - (j + 1) < (premH y.x).length - j;omega)
  ·exact X9
  ·refine ⟨Nat.le_trans s86 s9,OwK.grown h168 hg ?_,fun c hc=>?_⟩
   ·cases e:v16.ownBlock with
    | none=>exact .inl rfl
    | some c=>
     refine .inr fun h=>?_
     have h1:=hlt16 c e
     rcases hzb c h.symm with h2 | h2 <;> omega
   ·have hc:o.ownBlock = some c:=hc
    rcases hn with h1 | ⟨c',h1,h2⟩
    ·exact hzb c (h1 ▸ hc)
    ·rw [h1] at hc;cases hc
     exact .inr (by omega)
  ·show Ow w.heap.size t_i64 w9 o (ints (takeA D y.x (j + 1)))
   rw [ts]
   rw [show ints (takeA D y.x j ++ (gt D p0.toNat).2) = ints (takeA D y.x j) ++ ints (gt D p0.toNat).2 by simp [ints]]
   exact ho
  ·show (takeA D y.x (j + 1)).length ≤ 1 + 6 * (j + 1)
   rw [ts,List.length_append];omega
  ·show (takeA D y.x (j + 1)).length ≤ 6 * (j + 1)
   have:=hl2 e
   rw [ts,List.length_append];omega
  ·have hu:u ∈ takeA D y.x (j + 1):=hu
   rw [ts] at hu
   rcases List.mem_append.1 hu with hu | hu
   ·exact hr u hu
   ·exact m3 u hu
 have hje:j = (premH y.x).length:=by omega
 have hA12:(takeA D y.x j).length ≤ 12:=by
  by_cases e:y.x.rule = 2
  ·have:j = 0:=by rw [hje,p2 e];rfl
   omega
  ·have:=hl2 e;omega
 have hA0:takeA D y.x j = [] ↔ gt (usesB (R.map HV.x)) k = false:=by
  rw [hje,hu]
  unfold takeA bE premH
  by_cases e2:y.x.rule = 2
  ·rw [if_pos e2,if_pos e2];simp
  rw [if_neg e2,if_neg e2]
  by_cases e3:y.x.rule = 3
  ·obtain ⟨⟨a1,a2⟩,b1,b2⟩:=hin.2.1 e3
   rw [if_pos e3,if_pos e3,ut (by omega),ut (by omega),Bool.or_eq_false_iff,← hU.us _ (by omega),← hU.us _ (by omega)]
   simp
  rw [if_neg e3,if_neg e3]
  by_cases e4:y.x.rule = 4
  ·have:=hin.2.2 e4
   rw [if_pos e4,if_pos e4,ut (by omega),← hU.us _ (by omega)]
   simp
  ·rw [if_neg e4,if_neg e4];simp
 generalize takeA D y.x j = A at *
 refine iCall ((OW (L:=A) hz hA12).mono ?_)
 rintro _ w10 ⟨L',ht,hp9,hpw⟩
 have X10:Ext w w10:=X8.thenCh ht.ch fun c hc=>(hz.blk c hc).1
 obtain ⟨s1,s2⟩:=YI hpw
 have hb10:=hb0.ext X10
 refine ⟨fun c=>¬ c = b,iNil (iFa (iLdB hb10 (i:=3) (v:=vu) rfl ⟨fun w12 c12=>iLdB (hb10.ch c12 fun h=>h rfl) (i:=3) (v:=vu) rfl rfl,fun w13 x13=>?_⟩))⟩
 refine iCall ((wQ (ht.ow.ext x13) (by rw [hp9.length_eq];omega)).mono ?_)
 rintro r w14 ⟨h14,c14,e14⟩
 have X13:=X10.trans x13
 have X14:Ext w w14:=X13.thenCh c14 fun c hc=>((ht.ow.ext x13).blk c hc).1
 refine ⟨c14.mono fun c hc e=>(ht.ow.ext x13).ne_blk (hb10.ext x13) (by decide) (e ▸ hc),fun w15 x15=>?_⟩
 refine iBs1 rfl h14.cell fun c w16 hc16 x16 hB16=>⟨x16.ch,fun w17 x17=>?_⟩
 have x1417:=(x15.trans x16).trans x17
 have X17:=X14.trans x1417
 have h17:=h14.ext x1417
 have hU17:=hU.ext X17
 have hb17:Blk 63 w17 b [sv t,v1,v2,vu]:=hb0.ext X17
 have hv17:Ow lo lF w17 vu (D.map Prod.fst):=hvu0.ext X17
 refine iAppA VD U6 rfl hv17 (Sl.ofBlk (n:=1) (hB16.ext x17) rfl (by decide)) (fun u hu=>?_) (by rw [List.length_map];simp;omega) (by rw [List.length_map];simp;omega) (Nat.le_trans hlo X17.size) fun v42 w18 ho18 hg18 _=>?_
 ·rw [List.mem_singleton.1 hu];exact h14.cell
 have c18:=bJ (S:=fun c=>vu.ownBlock = some c) hg18 fun c hc=>hc
 have hb18:=hb17.ch c18 fun h=>hv17.ne_blk hb17 (by decide) h
 refine iNil (iFa ?_)
 intro w19 x19
 refine iStU (hb18.ext x19) (by simp) ho18.cell fun w20 hB20 u20=>?_
 have c20:=u20.ch (S:=fun c=>c = b) rfl
 intro w21 x21
 have keep:∀ {lo':Nat} {u:Value} {xs:List Value},Ow lo' t_i64 w17 u xs → Ow lo' t_i64 w21 u xs:=fun {lo' u xs} ho=>by
  have h1:=(ho.ch c18 fun c hc hS=>by
   obtain ⟨cur,hh⟩:=hv17.ty hS
   exact ho.ne_blk (show Blk lF w17 c cur.toList by unfold Blk;rw [hh]) (by decide) hc).ext x19
  exact (h1.ch c20 fun c hc hS=>by
   subst hS
   exact h1.ne_blk (hb18.ext x19) (by decide) hc).ext x21
 refine ⟨?_,(r,ddI L'),hU.lob,⟨v42,hB20.ext x21,?_⟩,fun p hp=>?_,fun i hi=>?_⟩
 ·have g:=(X17.ch (S:=fun c=>lo ≤ c)).trans c18 fun c hc=>.inl (hv17.blk c hc).1
  have g2:=(g.trans (x19.ch (S:=fun c=>lo ≤ c)) fun c hc=>.inl hc).trans c20 fun c hc=>.inl (by rw [hc];exact hU.lob)
  exact g2.trans (x21.ch (S:=fun c=>lo ≤ c)) fun c hc=>.inl hc
 ·rw [List.map_append]
  exact ((ho18.ext x19).ch c20 fun c hc hS=>by
   subst hS
   exact (ho18.ext x19).ne_blk (hb18.ext x19) (by decide) hc).ext x21
 ·rcases List.mem_append.1 hp with hp | hp
  ·exact ⟨keep (hU17.mem p hp).1,(hU17.mem p hp).2⟩
  ·rw [List.mem_singleton.1 hp]
   refine ⟨keep (h17.mono (by omega)),s1.imp fun h=>by omega,fun z hz=>?_⟩
   exact hr z (hp9.mem_iff.1 ((s2 z).1 hz))
 ·rw [List.length_append,List.length_singleton] at hi
  by_cases e:i < D.length
  ·rw [bK e];exact hU.us i e
  ·have:i = D.length:=by omega
   subst this
   rw [bT,hD,← hA0]
   show ddI L' = [] ↔ _
   constructor
   ·intro e
    refine List.eq_nil_iff_forall_not_mem.2 fun z hz=>?_
    have:=(s2 z).2 (hp9.mem_iff.2 hz)
    rw [e] at this;cases this
   ·intro e
    refine List.eq_nil_iff_forall_not_mem.2 fun z hz=>?_
    have:=hp9.mem_iff.1 ((s2 z).1 hz)
    rw [e] at this;cases this
end Go.Proofs.YtbfpohbmgjcjmaaGreatDoor

namespace Go.Proofs.YtbfpohbmgjcjmaaGreatDoor
open Go.Vc
theorem SlK.cellZ {k n:Nat} {w:World} {v:Value} {xs:List Value} (h:SlK k w v n xs):aF v = true:=by
 obtain ⟨_,_,_,e,_⟩:=h
 rw [e];rfl
theorem Sl.cellZ {w:World} {v:Value} {xs:List Value} (h:Sl w v xs):aF v = true:=by
 obtain ⟨_,_,e,_⟩:=h
 rw [e];rfl
theorem ZW {s:Nat} {H:List (List RN)} {L:List HL} {k:Nat} {x:HL} (h:goodH s H L k x = true):inH H.length k x:=by
 refine ⟨fun e=>?_,fun e=>?_,fun e=>?_⟩
 ·have:=(wC h e).2.1;omega
 ·obtain ⟨h1,h2,-⟩:=lK h e;omega
 ·have:=(kF h e).2.2.1;omega
theorem zC {t:Str} (ht:sysNo t < 10) {b:Nat} {v1 v2:Value} {L:List VN} {R:List HV} {w0 w:World} (X:Ext w0 w) (hT:SchOk w0) (hH:RwN w0 v1 L) (hLl:L.length ≤ 6) (hR:RdH w0 v2 R) (hRl:R.length ≤ 1000) (hRs:∀ y ∈ R,y.x.N.length ≤ 1000000) (hU:UsW w0.heap.size w b t v1 v2 (R.map HV.x) L.length []):
  Cal Tryz.prog k9 #[.pointer (some ⟨b,0,none⟩)] w fun r w'=>r = .int .i64 (badH (sysNo t) (L.map Prod.snd) (R.map HV.x)) ∧ Ext w0 w' ∧ (badH (sysNo t) (L.map Prod.snd) (R.map HV.x) < 0 → ∃ D,D.length = R.length ∧ UsW w0.heap.size w' b t v1 v2 (R.map HV.x) L.length D):=by
 obtain ⟨vu,hb,-⟩:=hU.ex
 apply xB;unfold kO
 refine iNil (iFa (iLdB hb (i:=2) (v:=v2) rfl (iLenK (hR.ext X).row ?_)))
 refine iLp (fun i:Nat=>[.int .i64 (i:Int)]) (fun i w'=>i ≤ R.length ∧ Ext w0 w' ∧ (∃ D,D.length = i ∧ UsW w0.heap.size w' b t v1 v2 (R.map HV.x) L.length D) ∧ (∀ j,j < i → goodH (sysNo t) (L.map Prod.snd) (R.map HV.x) j (gt R j).x = true) ∧ g9 (sysNo t) (L.map Prod.snd) (R.map HV.x) (R.length - i) i = badH (sysNo t) (L.map Prod.snd) (R.map HV.x)) (fun i=>R.length - i) 0 rfl ⟨Nat.zero_le _,X,⟨[],rfl,hU⟩,fun j hj=>absurd hj (Nat.not_lt_zero j),by unfold badH;rw [List.length_map];rfl⟩ ?_
 rintro i w2 Kn ⟨hi,x2,⟨D,hDl,hU⟩,hg,hb⟩ hKn
 intro _
 simp only [gx]
 refine iLt (iCndP (fun hlt=>?_) (fun hlt=>?_))
 rotate_left
 ·have:i = R.length:=by omega
  subst this
  rw [Nat.sub_self] at hb
  rw [← hb]
  exact ⟨rfl,x2,fun _=>⟨D,hDl,hU⟩⟩
 have hil:i < R.length:=by omega
 have hm:gt R i ∈ R:=by rw [gt_eq hil];exact List.getElem_mem _
 refine iAtH (hR.ext x2) rfl hil ?_
 refine iNew4 fun q w3 hq x3 hB3=>?_
 refine iStAB hB3 rfl rfl (fun y hy=>?_) fun w4 u4 hB4=>?_
 ·simp only [HV.cs,List.mem_cons,List.not_mem_nil,or_false] at hy
  rcases hy with rfl | rfl | rfl | rfl
  ·rfl
  ·rfl
  ·rfl
  ·exact SlK.cellZ (hR.fm _ hm)
 have x24:Ext w2 w4:=x3.upd u4 (by omega)
 have X4:=x2.trans x24
 have hU4:=hU.ext x24
 obtain ⟨vu,hb4,hv4⟩:=hU4.ex
 have hgi:=PJ ht (hT.ext X4) hb4 (hH.ext X4) (by omega) (hR.ext X4) hRl hRs hil hg hDl hv4.sl (fun p hp=>(hU4.mem p hp).1.sl) (fun j hj=>hU4.us j (by omega))
 refine iRet hgi fun w5 x5=>iNot (iCnd (fun h=>?_) (fun h=>?_))
 ·have h:¬ goodH (sysNo t) (L.map Prod.snd) (R.map HV.x) i (gt R i).x = true:=by rw [Bool.not_eq_true'] at h;rw [h];decide
  have e:badH (sysNo t) (L.map Prod.snd) (R.map HV.x) = (i:Int):=by rw [← hb,show R.length - i = (R.length - (i + 1)) + 1 by omega,g9,bR hil,if_neg h]
  rw [e]
  exact ⟨rfl,X4.trans x5,fun h=>by omega⟩
 have h:goodH (sysNo t) (L.map Prod.snd) (R.map HV.x) i (gt R i).x = true:=by rwa [Bool.not_eq_false'] at h
 have X5:=X4.trans x5
 refine iLdA (hB4.ext x5) rfl ?_
 have hin:=ZW h
 rw [List.length_map] at hin
 have hcs:(gt R i).cs.toArray.toList.toArray = (gt R i).cs.toArray:=by simp
 rw [hcs]
 refine iCall ((TW (k:=i) (hU4.ext x5) hLl hDl hil hRl hin X5.size).mono ?_)
 rintro _ w6 ⟨c6,p,hU6⟩
 refine iAdd (by omega) ?_
 refine hKn (i + 1) _ ⟨hil,X5.thenCh c6 fun c hc=>hc,⟨D ++ [p],by rw [List.length_append,hDl];rfl,hU6⟩,fun j hj=>?_,?_⟩ (by omega)
 ·by_cases e:j = i
  ·rw [e];exact h
  ·exact hg j (by omega)
 ·rw [← hb,show R.length - i = (R.length - (i + 1)) + 1 by omega,g9,bR hil,if_pos h]
theorem iNewD {t:Str} {v1 v2:Value} {L:List HL} {h:Nat} {w0 w:World} {K:Value → World → Prop} (X:Ext w0 w) (h1:aF v1 = true) (h2:aF v2 = true) (hK:∀ b w',Ext w w' → UsW w0.heap.size w' b t v1 v2 L h [] → K (.pointer (some ⟨b,0,none⟩)) w'):
  aR #[(.string ⟨#[]⟩),(.slice none 0 0),(.slice none 0 0),(.slice none 0 0)] #[(0,1),(1,1),(2,1),(3,1)] [(0,sv t),(1,v1),(2,v2)] fun v24=>xNew (Value.cells v24) 63 w K:=by
 refine f8 (cs:=#[sv t,v1,v2,.slice none 0 0]) (by simp [Instr.fill,aH h1,aH h2,aH (show aF (sv t) = true from rfl)]) ?_
 refine iNew4 fun q w1 hq x1 hB=>?_
 exact hK q w1 x1 ⟨by have:=X.size;omega,⟨_,hB,Ow.nil _ _ _⟩,(fun p hp=>by cases hp),fun j hj=>absurd hj (Nat.not_lt_zero j)⟩
theorem Q6 {t:Str} {H:List (List RN)} {L:List HL}:codeH t H L false = if (if ¬ sysNo t < 10 then (2:Int) else if H.all isN = false then 1 else 0) ≠ 0 then (if ¬ sysNo t < 10 then (2:Int) else if H.all isN = false then 1 else 0) else if ¬ (1 ≤ L.length ∧ L.length ≤ 200) then 3 else 0:=by
 unfold codeH
 by_cases h1:¬ sysNo t < 10
 ·rw [if_pos h1,if_pos h1,if_pos (by decide)]
 by_cases h2:H.all isN = false
 ·rw [if_neg h1,if_pos h2,if_neg h1,if_pos h2,if_pos (by decide)]
 rw [if_neg h1,if_neg h2,if_neg h1,if_neg h2,if_neg (show ¬ ((0:Int) ≠ 0) from fun h=>h rfl)]
 by_cases h3:L.length = 0 ∨ 200 < L.length
 ·rw [if_pos h3,if_pos (by omega)]
 ·rw [if_neg h3,if_neg (fun h=>by cases h.1),if_neg (by omega)]
theorem FH {t:Str} {v1 v2:Value} {L:List VN} {R:List HV} {w:World} (hT:SchOk w) (hH:RwN w v1 L) (hLl:L.length ≤ 6) (hLs:∀ p ∈ L,p.2.length ≤ 1000000) (hR:RdH w v2 R) (hRs:∀ y ∈ R,y.x.N.length ≤ 1000000):
  Ret Tryz.prog tS #[sv t,v1,v2] w (.tuple #[.int .i64 (if codeH t (L.map Prod.snd) (R.map HV.x) false = 0 then badH (sysNo t) (L.map Prod.snd) (R.map HV.x) else 0),.int .i64 (codeH t (L.map Prod.snd) (R.map HV.x) false)]):=by
 have hRln:=hR.row.len
 rw [Q6,List.length_map]
 apply H8;unfold sO
 refine iRet (iW hH hLs) fun w1 x1=>?_
 generalize hc:(if ¬ sysNo t < 10 then (2:Int) else if (L.map Prod.snd).all isN = false then 1 else 0) = c
 refine iNe (iCndP (fun h=>?_) (fun h=>?_))
 ·rw [if_pos h,if_neg h];exact ⟨rfl,x1⟩
 rw [if_neg h]
 have ht:sysNo t < 10:=Classical.byContradiction fun e=>by rw [if_pos e] at hc;exact h (by rw [← hc];decide)
 refine iRet (sN (hR.ext x1)) fun w2 x2=>iNot (iCnd (fun h2=>?_) (fun h2=>?_))
 ·have h2:=of_decide_eq_false (by rwa [Bool.not_eq_true'] at h2)
  rw [if_pos h2,if_neg (by decide)]
  exact ⟨rfl,x1.trans x2⟩
 have h2:=of_decide_eq_true (by rwa [Bool.not_eq_false'] at h2)
 rw [if_neg (show ¬ ¬ (1 ≤ R.length ∧ R.length ≤ 200) from fun h=>h h2),if_pos rfl]
 refine iNewD (L:=R.map HV.x) (h:=L.length) (x1.trans x2) (Sl.cellZ hH.row) (SlK.cellZ hR.row) fun b w3 x3 hU=>?_
 refine iCall ((zC ht ((x1.trans x2).trans x3) hT hH hLl hR (by omega) hRs hU).mono ?_)
 rintro _ w4 ⟨rfl,x4,-⟩
 exact ⟨rfl,x4⟩
theorem tF {t:Str} (ht:sysNo t < 10) {v1 v2 vl:Value} {L:List VN} {R:List HV} {w:World} (hT:SchOk w) (hH:RwN w v1 L) (hLl:L.length ≤ 6) (hl:Sl w vl [v2]) (hR:RdH w v2 R) (hRs:∀ y ∈ R,y.x.N.length ≤ 1000000):
  Cal Tryz.prog wJ #[sv t,v1,vl] w fun r w'=>Ext w w' ∧ ∃ u,r = .tuple #[u,.int .i64 (if ¬ (1 ≤ R.length ∧ R.length ≤ 200) then 3 else if 0 ≤ badH (sysNo t) (L.map Prod.snd) (R.map HV.x) then 5 else 0)] ∧
   ((1 ≤ R.length ∧ R.length ≤ 200) → badH (sysNo t) (L.map Prod.snd) (R.map HV.x) < 0 → ∃ b D,D.length = R.length ∧ Sl w' u [.pointer (some ⟨b,0,none⟩)] ∧ UsW w.heap.size w' b t v1 v2 (R.map HV.x) L.length D):=by
 have hone:∀ w',Ext w w' → callV Tryz.prog (.func (.func fW) #[] #[]) [v2] w' fun u w''=>u = .bool (!decide (1 ≤ R.length ∧ R.length ≤ 200)) ∧ Ext w' w'':=fun w' x'=>by
  refine iCall (K:=fun u w''=>u = .bool (!decide (1 ≤ R.length ∧ R.length ≤ 200)) ∧ Ext w' w'') ?_
  apply FK;unfold rG
  exact iRet (sN (hR.ext x')) fun w1 x1=>iNot ⟨rfl,x1⟩
 have hcf:Ret Tryz.prog cP #[vl,.func (.func fW) #[] #[]] w (.bool (!decide (1 ≤ R.length ∧ R.length ≤ 200))):=by
  have hi:Cal Tryz.prog dL #[vl,.func (.func fW) #[] #[]] w fun r w'=>Ext w w' ∧ r = .int .i64 (if (!decide (1 ≤ R.length ∧ R.length ≤ 200)) = true then 0 else -1):=by
   apply j6;unfold dN
   refine iLenS hl ?_
   refine iLp (fun i:Nat=>[.int .i64 (i:Int)]) (fun i w'=>i ≤ 1 ∧ Ext w w' ∧ (0 < i → (!decide (1 ≤ R.length ∧ R.length ≤ 200)) = false)) (fun i=>1 - i) 0 rfl ⟨Nat.zero_le _,Ext.refl _,fun h=>absurd h (Nat.lt_irrefl 0)⟩ ?_
   rintro i w2 Kn ⟨hi,x2,hf⟩ hKn
   intro _
   simp only [gx]
   refine iLt (iCndP (fun h=>?_) (fun h=>?_))
   ·have h:(i:Int) < 1:=h
    have:i = 0:=by omega
    subst this
    refine iIa (j:=0) (hl.ext x2) (by decide) (by simp) fun p hp=>iLd hp ?_
    refine callV.mono (hone w2 x2) ?_
    rintro _ w3 ⟨rfl,x3⟩
    refine iCnd (fun h=>?_) (fun h=>?_)
    ·rw [if_pos h];exact ⟨x2.trans x3,rfl⟩
    ·refine iAdd (by decide) ?_
     exact hKn 1 _ ⟨Nat.le_refl _,x2.trans x3,fun _=>h⟩ (by decide)
   ·have h:¬ (i:Int) < 1:=h
    rw [hf (by omega),if_neg (by decide)]
    exact ⟨x2,rfl⟩
  apply iZ;unfold cT
  refine iCall (hi.mono ?_)
  rintro _ w1 ⟨x1,rfl⟩
  refine iLe ⟨?_,x1⟩
  cases decide (1 ≤ R.length ∧ R.length ≤ 200) <;> rfl
 apply KA;unfold vY
 refine iRet hcf fun w1 x1=>iCnd (fun h=>?_) (fun h=>?_)
 ·have h:¬ (1 ≤ R.length ∧ R.length ≤ 200):=of_decide_eq_false (by rwa [Bool.not_eq_true'] at h)
  rw [if_pos h]
  exact ⟨x1,_,rfl,fun h'=>absurd h' h⟩
 have h:1 ≤ R.length ∧ R.length ≤ 200:=of_decide_eq_true (by rwa [Bool.not_eq_false'] at h)
 rw [if_neg (fun h'=>h' h)]
 refine iLenS (hl.ext x1) ?_
 refine iLp (fun s:Value × Nat=>[s.1,.int .i64 (s.2:Int)]) (fun s w'=>s.2 ≤ 1 ∧ Ext w w' ∧ (s.2 = 0 → s.1 = .slice none 0 0) ∧ (0 < s.2 → badH (sysNo t) (L.map Prod.snd) (R.map HV.x) < 0 ∧ ∃ b D,D.length = R.length ∧ Sl w' s.1 [.pointer (some ⟨b,0,none⟩)] ∧ UsW w.heap.size w' b t v1 v2 (R.map HV.x) L.length D)) (fun s=>1 - s.2) (.slice none 0 0,0) rfl ⟨Nat.zero_le _,x1,fun _=>rfl,fun h=>absurd h (Nat.lt_irrefl 0)⟩ ?_
 rintro ⟨z,i⟩ w2 Kn ⟨hi,x2,h0,h1⟩ hKn
 have hi:i ≤ 1:=hi
 have h0:i = 0 → z = .slice none 0 0:=h0
 have h1:0 < i → badH (sysNo t) (L.map Prod.snd) (R.map HV.x) < 0 ∧ ∃ b D,D.length = R.length ∧ Sl w2 z [.pointer (some ⟨b,0,none⟩)] ∧ UsW w.heap.size w2 b t v1 v2 (R.map HV.x) L.length D:=h1
 intro _
 simp only [gx]
 refine iLt (iCndP (fun hlt=>?_) (fun hlt=>?_))
 ·have hlt:(i:Int) < 1:=hlt
  have:i = 0:=by omega
  subst this
  rw [h0 rfl]
  refine iIa (j:=0) (hl.ext x2) (by decide) (by simp) fun p hp=>iLd hp ?_
  refine iNewD (L:=R.map HV.x) (h:=L.length) x2 (Sl.cellZ hH.row) (SlK.cellZ hR.row) fun b w3 x3 hU=>?_
  refine iCall ((zC ht (x2.trans x3) hT hH hLl hR (by omega) hRs hU).mono ?_)
  rintro _ w4 ⟨rfl,x4,hD⟩
  refine iLe (iCndP (fun hb=>?_) (fun hb=>?_))
  ·rw [if_pos hb]
   exact ⟨x4,_,rfl,fun _ h'=>by omega⟩
  ·obtain ⟨D,hDl,hU4⟩:=hD (by omega)
   refine iP IP IQ rfl (Ow.nil w4.heap.size _ _) rfl (by simp) (by simp) (Nat.le_refl _) fun o w5 ho hg _=>?_
   have x5:Ext w4 w5:=(Ext.refl _).grown hg (fun c hc=>by cases hc)
   refine iAdd (by decide) ?_
   exact hKn (o,1) _ ⟨Nat.le_refl _,x4.trans x5,(fun h=>absurd h (by decide:¬ (1:Nat) = 0)),fun _=>⟨by omega,b,D,hDl,ho.sl,hU4.ext x5⟩⟩ (by show 1 - 1 < 1 - 0;decide)
 ·have hlt:¬ (i:Int) < 1:=hlt
  obtain ⟨hb,h1⟩:=h1 (by omega)
  rw [if_neg (by omega)]
  exact ⟨x2,z,rfl,fun _ _=>h1⟩
theorem yO {t:Str} {v1 v2:Value} {L:List VN} {R:List HV} {w:World} (hT:SchOk w) (hH:RwN w v1 L) (hLl:L.length ≤ 6) (hLs:∀ p ∈ L,p.2.length ≤ 1000000) (hR:RdH w v2 R) (hRs:∀ y ∈ R,y.x.N.length ≤ 1000000) (h0:codeH t (L.map Prod.snd) (R.map HV.x) true = 0):
  Cal Tryz.prog lY #[sv t,v1,v2] w fun r w'=>Ext w w' ∧ ∃ u,r = .tuple #[u,.int .i64 0] ∧ RawW w.heap.size aA w' u (gt R (R.length - 1)).x.N:=by
 obtain ⟨ht,hn,l1,l2,hg⟩:=kG h0
 rw [List.length_map] at l1 l2
 have hm:gt R (R.length - 1) ∈ R:=by rw [gt_eq (by omega)];exact List.getElem_mem _
 have hbad:badH (sysNo t) (L.map Prod.snd) (R.map HV.x) = -1:=oN fun k _ hk=>hg k (by omega)
 have hgl:=hg (R.length - 1) (by rw [List.length_map];omega)
 rw [bR (by omega)] at hgl
 obtain ⟨C,-,sC,hC⟩:=dI (dZ hgl)
 apply zH;unfold mA
 refine iBs1 rfl (SlK.cellZ hR.row) fun c w1 hc x1 hB1=>?_
 have hl1:Sl w1 (.slice (some ⟨c,0,none⟩) 1 1) [v2]:=Sl.ofBlk (n:=1) hB1 rfl (by decide)
 have hpr:Cal Tryz.prog G9 #[sv t,v1,.slice (some ⟨c,0,none⟩) 1 1] w1 fun r w'=>Ext w1 w' ∧ ∃ u b D,r = .tuple #[u,.int .i64 0] ∧ D.length = R.length ∧ Sl w' u [.pointer (some ⟨b,0,none⟩)] ∧ UsW w1.heap.size w' b t v1 v2 (R.map HV.x) L.length D:=by
  apply SG;unfold GM
  refine iRet (iW (hH.ext x1) hLs) fun w2 x2=>?_
  rw [if_neg (fun h=>h ht),if_neg (by rw [List.all_eq_true.2 hn];decide)]
  refine iNe (iCndF (by decide) ?_)
  have X2:=x1.trans x2
  refine iCall ((tF ht (hT.ext X2) (hH.ext X2) hLl (hl1.ext x2) (hR.ext X2) hRs).mono ?_)
  rintro _ w3 ⟨x3,u,rfl,hu⟩
  obtain ⟨b,D,d1,d2,d3⟩:=hu ⟨by omega,by omega⟩ (by rw [hbad];decide)
  rw [if_neg (fun h=>h ⟨by omega,by omega⟩),if_neg (by rw [hbad];decide)]
  exact iE20 (iE21 ⟨x2.trans x3,u,b,D,rfl,d1,d2,⟨by have:=d3.lob;have:=x2.size;omega,let ⟨vu,a1,a2⟩:=d3.ex;⟨vu,a1,a2.mono x2.size⟩,fun p hp=>⟨(d3.mem p hp).1.mono x2.size,(d3.mem p hp).2⟩,d3.us⟩⟩)
 refine iCall (hpr.mono ?_)
 rintro _ w2 ⟨x2,u,b,D,rfl,-,hu,hU⟩
 have X2:=x1.trans x2
 obtain ⟨vu,hb,-⟩:=hU.ex
 refine iE20 (iE21 (iNe (iCndF (by decide) ?_)))
 refine iIa (j:=0) hu (by decide) (by simp) fun p hp=>iLd hp ?_
 have hcon:Cal Tryz.prog jY #[.pointer (some ⟨b,0,none⟩)] w2 fun r w'=>Ext w2 w' ∧ r = (gt R (R.length - 1)).v:=by
  apply uC;unfold jP
  refine iNil (iFa (iLdB hb (i:=2) (v:=v2) rfl (iNil (iFa (iLdB hb (i:=2) (v:=v2) rfl ?_)))))
  refine iLenK (hR.ext X2).row (iSub (by omega) ?_)
  refine iFdH (j:=R.length - 1) (hR.ext X2) (by omega) (by omega) (by decide) (u:=(gt R (R.length - 1)).v) rfl ?_
  exact fun w3 x3=>⟨x3,rfl⟩
 refine iCall (hcon.mono ?_)
 rintro _ w3 ⟨x3,rfl⟩
 have X3:=X2.trans x3
 refine iCall ((mV ((hR.ext X3).fm _ hm) (by rw [hC,aG];exact C.size_pos) (hRs _ hm)).mono ?_)
 rintro r w4 ⟨x4,h4⟩
 exact ⟨X3.trans x4,r,rfl,OwK.mono h4 X3.size⟩
end Go.Proofs.YtbfpohbmgjcjmaaGreatDoor
