/- The proof of FnWholeRunsCard, part 4 of 8. Conditions: none. -/
import Derived.Test.YteifjhpddhppcaaGreatDoorKR54c
import Derived.Laws.BytesString
import Derived.Laws.StructEq
import Derived.Shelf.Small.Strs
import Derived.Maps.Own
namespace Go.Vc
theorem W8 {L:List Str} {a b j:Nat} {pv:Str} (haj:a ≤ j) (hjb:j < b) (hb:b ≤ L.length) (he:gt L a = pv) (h1:∀ k,a + 1 ≤ k → k ≤ j → ltS (gt L k) pv = true) (h2:∀ k,j < k → k < b → ltS (gt L k) pv = false):gK ltS a b j (sw L j a):=by
 have e:∀ k,gt (sw L j a) k = if k = a then gt L j else if k = j then gt L a else gt L k:=gt_sw (by omega) (by omega)
 have ej:gt (sw L j a) j = pv:=by
  rw [e]
  split
  ·rename_i h;rw [h];exact he
  ·rw [if_pos rfl];exact he
 refine ⟨fun k hk hk'=>?_,fun k hk hk'=>?_⟩
 ·rw [ej,e]
  by_cases hka:k = a
  ·rw [if_pos hka];exact h1 j (by omega) (Nat.le_refl _)
  ·rw [if_neg hka,if_neg (by omega)];exact h1 k (by omega) (by omega)
 ·rw [ej,e,if_neg (by omega),if_neg (by omega)];exact h2 k hk hk'
end Go.Vc
namespace Go.Proofs.YteifjhpddhppcaaGreatDoor
open Go.Vc
theorem mH {lo:Nat} {w:World} {v:Value} {L:List Str} {a b t:Nat} (hs:Ow lo aB w v (strs L)) (hat:a ≤ t) (htb:t < b) (hb:b ≤ L.length) (hL:L.length ≤ 1152921504606846976):
  Cal Tryz.prog fY #[v,.int .i64 (a:Int),.int .i64 (b:Int),.int .i64 (t:Int)] w fun r w'=>∃ L':List Str,∃ m:Nat,∃ y:Bool,r = .tuple #[.int .i64 (m:Int),.bool y] ∧ Turn lo aB sv v w w' L' ∧ SwR a b L L' ∧ a ≤ m ∧ m < b ∧ gK ltS a b m L':=by
 apply nG;unfold fV
 refine iRdO (j:=t) hs rfl (by omega) ?_
 refine iRdO (j:=a) hs rfl (by omega) ?_
 refine iWr2 (i:=a) (j:=t) (fun _=>rfl) hs rfl rfl (by omega) (by omega) fun w7 h5=>?_
 have h5:Turn lo aB sv v w w7 (sw L a t):=h5
 have e0:gt (sw L a t) a = gt L t:=by rw [gt_sw (by omega) (by omega)];split <;> simp_all
 have hw0:SwR a b L (sw L a t):=.one (Nat.le_refl _) (by omega) hat htb hb
 have hl0:=hw0.len
 generalize sw L a t = L0 at h5 e0 hw0 hl0
 (refine iAdd (by omega) ?_;refine iSub (by omega) ?_)
 obtain ⟨i0,hi0⟩:∃ i0,i0 = a + 1:=⟨_,rfl⟩
 obtain ⟨j0,hj0⟩:∃ j0:Int,j0 = (b:Int) - 1:=⟨_,rfl⟩
 rw [show (a:Int) + 1 = (i0:Int) by omega,← hj0]
 refine iLp (fun i:Nat=>[.int .i64 (i:Int)]) (fun i w'=>i0 ≤ i ∧ (i:Int) ≤ j0 + 1 ∧ Ext w7 w' ∧ ∀ k,a + 1 ≤ k → k < i → ltS (gt L0 k) (gt L t) = true) (fun i=>b - i) i0 rfl ⟨Nat.le_refl _,by omega,Ext.refl _,fun k h1 h2=>by omega⟩ ?_
 rintro i w9 Kn9 ⟨hi,hij,h9,hq⟩ hKn9
 intro _
 simp only [gx]
 have ht9:=h5.ext h9
 refine iJnB (decide ((i:Int) ≤ j0) && ltS (gt L0 i) (gt L0 a)) w9 (fun J hJ=>?_) (fun w11 h11=>?_)
 ·refine iLe ?_
  refine iCndP (fun h=>?_) (fun h=>?_)
  ·rw [decide_eq_true h,Bool.true_and] at hJ
   refine iRdO (j:=i) ht9.ow rfl (by omega) ?_
   refine iRdO (j:=a) ht9.ow rfl (by omega) ?_
   exact iRetQ (fun w' _=>aR _ _ w') hJ
  ·rw [decide_eq_false h,Bool.false_and] at hJ
   exact hJ
 intro _
 simp only [gx]
 have h9':=h9.trans h11
 cases hc:decide ((i:Int) ≤ j0) && ltS (gt L0 i) (gt L0 a)
 rotate_left
 ·rw [Bool.and_eq_true,decide_eq_true_eq] at hc
  refine iCndT rfl ?_
  (refine iAdd (by omega) ?_)
  refine hKn9 (i + 1) _ ⟨by omega,by omega,h9',fun k h1 h2=>?_⟩ (by omega)
  by_cases hk:k = i
  ·rw [hk,← e0];exact hc.2
  ·exact hq k h1 (by omega)
 refine iCndF rfl ?_
 refine iLp (fun j:Int=>[.int .i64 j]) (fun j w'=>j ≤ j0 ∧ (i:Int) ≤ j + 1 ∧ Ext w7 w' ∧ ∀ k:Nat,j < k → k < b → ltS (gt L0 k) (gt L t) = false) (fun j=>(j + 2).toNat) j0 rfl ⟨Int.le_refl _,hij,h9',fun k h1 h2=>by omega⟩ ?_
 rintro j w15 Kn15 ⟨hjj,hij2,h15,hq2⟩ hKn15
 intro _
 simp only [gx]
 have ht15:=h5.ext h15
 refine iJnB (decide ((i:Int) ≤ j) && !ltS (gt L0 j.toNat) (gt L0 a)) w15 (fun J hJ=>?_) (fun w17 h17=>?_)
 ·refine iLe ?_
  refine iCndP (fun h=>?_) (fun h=>?_)
  ·rw [decide_eq_true h,Bool.true_and] at hJ
   refine iRdO (j:=j.toNat) ht15.ow (by omega) (by omega) ?_
   refine iRdO (j:=a) ht15.ow rfl (by omega) ?_
   exact iRetQ (fun w' _=>aR _ _ w') (iNot hJ)
  ·rw [decide_eq_false h,Bool.false_and] at hJ
   exact hJ
 intro _
 simp only [gx]
 have ht17:=ht15.ext h17
 cases hc2:decide ((i:Int) ≤ j) && !ltS (gt L0 j.toNat) (gt L0 a)
 rotate_left
 ·rw [Bool.and_eq_true,decide_eq_true_eq,Bool.not_eq_true'] at hc2
  refine iCndT rfl ?_
  refine iSub (by omega) ?_
  refine hKn15 (j - 1) _ ⟨by omega,by omega,h15.trans h17,fun k h1 h2=>?_⟩ (by omega)
  by_cases hk:(k:Int) = j
  ·rw [show k = j.toNat by omega,← e0];exact hc2.2
  ·exact hq2 k (by omega) h2
 refine iCndF rfl ?_
 refine iLt ?_
 refine iCndP (fun h=>?_) (fun h=>?_)
 ·refine iRdO (j:=a) ht17.ow rfl (by omega) ?_
  refine iRdO (j:=j.toNat) ht17.ow (by omega) (by omega) ?_
  refine iWr2 (i:=j.toNat) (j:=a) (fun _=>rfl) ht17.ow (by omega) rfl (by omega) (by omega) fun w22 h22=>?_
  exact ⟨sw L0 j.toNat a,j.toNat,true,by rw [Int.toNat_of_nonneg (by omega)],ht17.trans h22,.step hw0 (by omega) (by omega) (Nat.le_refl _) (by omega) hb,by omega,by omega,W8 (by omega) (by omega) (by omega) e0 (fun k h1 h2=>hq k h1 (by omega)) (fun k h1 h2=>hq2 k (by omega) h2)⟩
 have hlt1:ltS (gt L0 i) (gt L t) = false:=by
  rw [decide_eq_true (show (i:Int) ≤ j0 by omega),Bool.true_and,e0] at hc;exact hc
 have hlt2:ltS (gt L0 j.toNat) (gt L t) = true:=by
  rw [decide_eq_true (show (i:Int) ≤ j by omega),Bool.true_and,Bool.not_eq_false',e0] at hc2;exact hc2
 have hne:i ≠ j.toNat:=fun e=>by rw [e,hlt2] at hlt1;cases hlt1
 refine iRdO (j:=j.toNat) ht17.ow (by omega) (by omega) ?_
 refine iRdO (j:=i) ht17.ow rfl (by omega) ?_
 refine iWr2 (i:=i) (j:=j.toNat) (fun _=>rfl) ht17.ow rfl (by omega) (by omega) (by omega) fun w24 h24=>?_
 refine iAdd (by omega) ?_
 refine iSub (by omega) ?_
 have eS:∀ k,gt (sw L0 i j.toNat) k = if k = j.toNat then gt L0 i else if k = i then gt L0 j.toNat else gt L0 k:=gt_sw (by omega) (by omega)
 have nx1:∀ k,a + 1 ≤ k → k < i + 1 → ltS (gt (sw L0 i j.toNat) k) (gt L t) = true:=fun k h1 h2=>by
  rw [eS,if_neg (by omega)]
  by_cases hk:k = i
  ·rw [if_pos hk];exact hlt2
  ·rw [if_neg hk];exact hq k h1 (by omega)
 have nx2:∀ k:Nat,j - 1 < k → k < b → ltS (gt (sw L0 i j.toNat) k) (gt L t) = false:=fun k h1 h2=>by
  rw [eS]
  by_cases hk:k = j.toNat
  ·rw [if_pos hk];exact hlt1
  ·rw [if_neg hk,if_neg (by omega)];exact hq2 k (by omega) h2
 have nxe:gt (sw L0 i j.toNat) a = gt L t:=by rw [eS,if_neg (by omega),if_neg (by omega)];exact e0
 refine iLp (fun s:Nat × Int=>[.int .i64 (s.1:Int),.int .i64 s.2]) (fun s w'=>a + 1 ≤ s.1 ∧ (s.1:Int) ≤ s.2 + 1 ∧ s.2 < b ∧ ∃ L',Turn lo aB sv v w w' L' ∧ SwR a b L L' ∧ gt L' a = gt L t ∧ (∀ k,a + 1 ≤ k → k < s.1 → ltS (gt L' k) (gt L t) = true) ∧ ∀ k:Nat,s.2 < k → k < b → ltS (gt L' k) (gt L t) = false) (fun s=>b - s.1) (i + 1,j - 1) rfl
  ⟨by show a + 1 ≤ i + 1;omega,by show ((i + 1:Nat):Int) ≤ j - 1 + 1;omega,by show j - 1 < b;omega,sw L0 i j.toNat,ht17.trans h24,.step hw0 (by omega) (by omega) (by omega) (by omega) hb,nxe,nx1,nx2⟩ ?_
 clear hKn9 hKn15 nxe nx1 nx2 eS hq hq2
 rintro ⟨i1,j1⟩ w29 Kn ⟨hi1,hij1,hjb1,L1,ht1,hw1,he1,hq1,hq21⟩ hKn
 have hi1:a + 1 ≤ i1:=hi1
 have hij1:(i1:Int) ≤ j1 + 1:=hij1
 have hjb1:j1 < b:=hjb1
 have hl1:=hw1.len
 intro _
 simp only [gx]
 refine iLp (fun i:Nat=>[.int .i64 (i:Int)]) (fun i w'=>i1 ≤ i ∧ (i:Int) ≤ j1 + 1 ∧ Ext w29 w' ∧ ∀ k,a + 1 ≤ k → k < i → ltS (gt L1 k) (gt L t) = true) (fun i=>b - i) i1 rfl ⟨Nat.le_refl _,by omega,Ext.refl _,hq1⟩ ?_
 rintro i w9 Kn9 ⟨hi,hij,h9,hq⟩ hKn9
 intro _
 simp only [gx]
 have ht9:=ht1.ext h9
 refine iJnB (decide ((i:Int) ≤ j1) && ltS (gt L1 i) (gt L1 a)) w9 (fun J hJ=>?_) (fun w11 h11=>?_)
 ·refine iLe ?_
  refine iCndP (fun h=>?_) (fun h=>?_)
  ·rw [decide_eq_true h,Bool.true_and] at hJ
   refine iRdO (j:=i) ht9.ow rfl (by omega) ?_
   refine iRdO (j:=a) ht9.ow rfl (by omega) ?_
   exact iRetQ (fun w' _=>aR _ _ w') hJ
  ·rw [decide_eq_false h,Bool.false_and] at hJ
   exact hJ
 intro _
 simp only [gx]
 have h9':=h9.trans h11
 cases hc:decide ((i:Int) ≤ j1) && ltS (gt L1 i) (gt L1 a)
 rotate_left
 ·rw [Bool.and_eq_true,decide_eq_true_eq] at hc
  refine iCndT rfl ?_
  (refine iAdd (by omega) ?_)
  refine hKn9 (i + 1) _ ⟨by omega,by omega,h9',fun k h1 h2=>?_⟩ (by omega)
  by_cases hk:k = i
  ·rw [hk,← he1];exact hc.2
  ·exact hq k h1 (by omega)
 refine iCndF rfl ?_
 refine iLp (fun j:Int=>[.int .i64 j]) (fun j w'=>j ≤ j1 ∧ (i:Int) ≤ j + 1 ∧ Ext w29 w' ∧ ∀ k:Nat,j < k → k < b → ltS (gt L1 k) (gt L t) = false) (fun j=>(j + 2).toNat) j1 rfl ⟨Int.le_refl _,hij,h9',hq21⟩ ?_
 rintro j w15 Kn15 ⟨hjj,hij2,h15,hq2⟩ hKn15
 intro _
 simp only [gx]
 have ht15:=ht1.ext h15
 refine iJnB (decide ((i:Int) ≤ j) && !ltS (gt L1 j.toNat) (gt L1 a)) w15 (fun J hJ=>?_) (fun w17 h17=>?_)
 ·refine iLe ?_
  refine iCndP (fun h=>?_) (fun h=>?_)
  ·rw [decide_eq_true h,Bool.true_and] at hJ
   refine iRdO (j:=j.toNat) ht15.ow (by omega) (by omega) ?_
   refine iRdO (j:=a) ht15.ow rfl (by omega) ?_
   exact iRetQ (fun w' _=>aR _ _ w') (iNot hJ)
  ·rw [decide_eq_false h,Bool.false_and] at hJ
   exact hJ
 intro _
 simp only [gx]
 have ht17:=ht15.ext h17
 cases hc2:decide ((i:Int) ≤ j) && !ltS (gt L1 j.toNat) (gt L1 a)
 rotate_left
 ·rw [Bool.and_eq_true,decide_eq_true_eq,Bool.not_eq_true'] at hc2
  refine iCndT rfl ?_
  refine iSub (by omega) ?_
  refine hKn15 (j - 1) _ ⟨by omega,by omega,h15.trans h17,fun k h1 h2=>?_⟩ (by omega)
  by_cases hk:(k:Int) = j
  ·rw [show k = j.toNat by omega,← he1];exact hc2.2
  ·exact hq2 k (by omega) h2
 refine iCndF rfl ?_
 refine iLt ?_
 refine iCndP (fun h=>?_) (fun h=>?_)
 ·refine iRdO (j:=a) ht17.ow rfl (by omega) ?_
  refine iRdO (j:=j.toNat) ht17.ow (by omega) (by omega) ?_
  refine iWr2 (i:=j.toNat) (j:=a) (fun _=>rfl) ht17.ow (by omega) rfl (by omega) (by omega) fun w22 h22=>?_
  exact ⟨sw L1 j.toNat a,j.toNat,false,by rw [Int.toNat_of_nonneg (by omega)],ht17.trans h22,.step hw1 (by omega) (by omega) (Nat.le_refl _) (by omega) hb,by omega,by omega,W8 (by omega) (by omega) (by omega) he1 (fun k h1 h2=>hq k h1 (by omega)) (fun k h1 h2=>hq2 k (by omega) h2)⟩
 have hlt1:ltS (gt L1 i) (gt L t) = false:=by
  rw [decide_eq_true (show (i:Int) ≤ j1 by omega),Bool.true_and,he1] at hc;exact hc
 have hlt2:ltS (gt L1 j.toNat) (gt L t) = true:=by
  rw [decide_eq_true (show (i:Int) ≤ j by omega),Bool.true_and,Bool.not_eq_false',he1] at hc2;exact hc2
 have hne:i ≠ j.toNat:=fun e=>by rw [e,hlt2] at hlt1;cases hlt1
 refine iRdO (j:=j.toNat) ht17.ow (by omega) (by omega) ?_
 refine iRdO (j:=i) ht17.ow rfl (by omega) ?_
 refine iWr2 (i:=i) (j:=j.toNat) (fun _=>rfl) ht17.ow rfl (by omega) (by omega) (by omega) fun w24 h24=>?_
 refine iAdd (by omega) ?_
 refine iSub (by omega) ?_
 have eS:∀ k,gt (sw L1 i j.toNat) k = if k = j.toNat then gt L1 i else if k = i then gt L1 j.toNat else gt L1 k:=gt_sw (by omega) (by omega)
 have nx1:∀ k,a + 1 ≤ k → k < i + 1 → ltS (gt (sw L1 i j.toNat) k) (gt L t) = true:=fun k h1 h2=>by
  rw [eS,if_neg (by omega)]
  by_cases hk:k = i
  ·rw [if_pos hk];exact hlt2
  ·rw [if_neg hk];exact hq k h1 (by omega)
 have nx2:∀ k:Nat,j - 1 < k → k < b → ltS (gt (sw L1 i j.toNat) k) (gt L t) = false:=fun k h1 h2=>by
  rw [eS]
  by_cases hk:k = j.toNat
  ·rw [if_pos hk];exact hlt1
  ·rw [if_neg hk,if_neg (by omega)];exact hq2 k (by omega) h2
 have nxe:gt (sw L1 i j.toNat) a = gt L t:=by rw [eS,if_neg (by omega),if_neg (by omega)];exact he1
 exact hKn (i + 1,j - 1) _ ⟨by show a + 1 ≤ i + 1;omega,by show ((i + 1:Nat):Int) ≤ j - 1 + 1;omega,by show j - 1 < b;omega,sw L1 i j.toNat,ht17.trans h24,.step hw1 (by omega) (by omega) (by omega) (by omega) hb,nxe,nx1,nx2⟩ (by show b - (i + 1) < b - i1;omega)
theorem gZ {lo:Nat} {w:World} {v:Value} {L:List Str} {a b:Nat} (hs:Ow lo aB w v (strs L)) (hab:a < b) (hb:b ≤ L.length) (hL:L.length ≤ 1152921504606846976) (hbl:Blw ltS a b L):
  Cal Tryz.prog cW #[v,.int .i64 (a:Int),.int .i64 (b:Int)] w fun r w'=>∃ y:Bool,∃ L':List Str,r = .bool y ∧ Turn lo aB sv v w w' L' ∧ SwR a b L L' ∧ (y = true → Srt ltS a b L'):=by
 apply iE;unfold cX
 (refine iAdd (by omega) ?_)
 refine iLp (fun s:Nat × Nat=>[.int .i64 (s.1:Int),.int .i64 (s.2:Int)]) (fun s w'=>a + 1 ≤ s.1 ∧ s.1 ≤ b ∧ s.2 ≤ 5 ∧ ∃ L',Turn lo aB sv v w w' L' ∧ SwR a b L L' ∧ Srt ltS a s.1 L') (fun s=>5 - s.2) (a + 1,0) rfl ⟨Nat.le_refl _,by show a + 1 ≤ b;omega,Nat.zero_le _,L,Turn.refl hs,.refl,Srt.short (Nat.le_refl _)⟩ ?_
 rintro ⟨i0,r⟩ w2 Kn ⟨hi0,hib0,hr,L1,ht1,hw1,hs1⟩ hKn
 have hi0:a + 1 ≤ i0:=hi0
 have hib0:i0 ≤ b:=hib0
 have hr:r ≤ 5:=hr
 have hs1:Srt ltS a i0 L1:=hs1
 have hl1:=hw1.len
 intro _
 simp only [gx]
 refine iLt ?_
 refine iCndP (fun h5=>?_) (fun h5=>?_)
 rotate_left
 ·exact ⟨false,L1,rfl,ht1,hw1,fun h=>by cases h⟩
 refine iLp (fun i:Nat=>[.int .i64 (i:Int)]) (fun i w'=>i0 ≤ i ∧ i ≤ b ∧ Ext w2 w' ∧ Srt ltS a i L1) (fun i=>b - i) i0 rfl ⟨Nat.le_refl _,hib0,Ext.refl _,hs1⟩ ?_
 rintro i w4 Kn4 ⟨hi,hib,h4,hsi⟩ hKn4
 intro _
 simp only [gx]
 have ht4:=ht1.ext h4
 refine iJnB (decide (i < b) && !ltS (gt L1 i) (gt L1 (i - 1))) w4 (fun J hJ=>?_) (fun w6 h6=>?_)
 ·refine iLt ?_
  refine iCndP (fun h=>?_) (fun h=>?_)
  ·rw [decide_eq_true (show i < b by omega),Bool.true_and] at hJ
   refine iRdO (j:=i) ht4.ow rfl (by omega) ?_
   refine iSub (by omega) ?_
   refine iRdO (j:=i - 1) ht4.ow (by omega) (by omega) ?_
   exact iRetQ (fun w' _=>aR _ _ w') (iNot hJ)
  ·rw [decide_eq_false (show ¬ i < b by omega),Bool.false_and] at hJ
   exact hJ
 intro _
 simp only [gx]
 have ht6:=ht4.ext h6
 cases hc:decide (i < b) && !ltS (gt L1 i) (gt L1 (i - 1))
 rotate_left
 ·rw [Bool.and_eq_true,decide_eq_true_eq,Bool.not_eq_true'] at hc
  refine iCndT rfl ?_
  refine iAdd (by omega) ?_
  refine hKn4 (i + 1) _ ⟨by omega,by omega,h4.trans h6,fun p q g1 g2 g3=>?_⟩ (by omega)
  by_cases hq:q = i
  ·subst hq
   by_cases hp:p = q - 1
   ·rw [hp];exact hc.2
   ·exact ordrS.tr (hsi p (q - 1) g1 (by omega) (by omega)) hc.2
  ·exact hsi p q g1 g2 (by omega)
 refine iCndF rfl ?_
 refine iEq ?_
 refine iCndP (fun h=>?_) (fun h=>?_)
 ·have:i = b:=by omega
  subst this
  exact ⟨true,L1,rfl,ht6,hw1,fun _=>hsi⟩
 have hlt:ltS (gt L1 i) (gt L1 (i - 1)) = true:=by
  rw [decide_eq_true (show i < b by omega),Bool.true_and,Bool.not_eq_false'] at hc;exact hc
 refine iSub (by omega) ?_
 refine iLt ?_
 refine iCndP (fun h7=>?_) (fun h7=>?_)
 ·exact ⟨false,L1,rfl,ht6,hw1,fun h=>by cases h⟩
 refine iSub (by omega) ?_
 refine iSub (by omega) ?_
 refine iRdO (j:=i - 1) ht6.ow (by omega) (by omega) ?_
 refine iRdO (j:=i) ht6.ow rfl (by omega) ?_
 refine iWr2 (i:=i) (j:=i - 1) (fun _=>rfl) ht6.ow rfl (by omega) (by omega) (by omega) fun w13 h13=>?_
 have h13:Turn lo aB sv v w6 w13 (sw L1 i (i - 1)):=h13
 have hw2:SwR a b L1 (sw L1 i (i - 1)):=.one (by omega) (by omega) (by omega) (by omega) (by omega)
 have hs2:Srt ltS a (i - 1) (sw L1 i (i - 1)):=(hsi.mono (Nat.le_refl _) (by omega)).out (SwR.one (a:=i - 1) (b:=b) (by omega) (by omega) (by omega) (by omega) (by omega)) (.inr (Nat.le_refl _))
 have ht13:=ht6.trans h13
 have hw13:=hw1.trans hw2
 generalize sw L1 i (i - 1) = L2 at h13 hw2 hs2 ht13 hw13
 have hl2:=hw13.len
 have hbl2:Blw ltS a b L2:=hbl.keep hw13 (Nat.le_refl _) (Nat.le_refl _)
 refine iSub (by omega) ?_
 refine iLe ?_
 refine iJnX (fun _ w'=>∃ L',Turn lo aB sv v w w' L' ∧ SwR a b L L' ∧ Srt ltS a i L') (fun J hJ=>?_) ?_
 ·refine iCndP (fun h8=>?_) (fun h8=>?_)
  ·refine iSub (by omega) ?_
   refine iLp (fun j:Nat=>[.int .i64 (j:Int)]) (fun j w'=>a ≤ j ∧ j ≤ i - 1 ∧ ∃ L',Turn lo aB sv v w w' L' ∧ SwR a b L L' ∧ Blw ltS a b L' ∧ Ins ltS a (i - 1) j L') (fun j=>j) (i - 1) (by congr 2;omega) ⟨by omega,Nat.le_refl _,L2,ht13,hw13,hbl2,Ins.init hs2⟩ ?_
   rintro j w17 Kn17 ⟨haj,hji,L3,ht3,hw3,hbl3,hin⟩ hKn17
   have hl3:=hw3.len
   intro _
   simp only [gx]
   refine iLe ?_
   refine iCndP (fun h9=>?_) (fun h9=>?_)
   ·refine iRdO (j:=j) ht3.ow rfl (by omega) ?_
    refine iSub (by omega) ?_
    refine iRdO (j:=j - 1) ht3.ow (by omega) (by omega) ?_
    refine iRetQ (fun w' _=>aR _ _ w') ?_
    refine iNot ?_
    intro w18 h18
    have ht18:=ht3.ext h18
    refine iCnd (fun h10=>?_) (fun h10=>?_)
    ·have h10:ltS (gt L3 j) (gt L3 (j - 1)) = false:=by simpa using h10
     refine hJ _ _ ⟨L3,ht18,hw3,?_⟩
     have:=hin.done ordrS (by rcases Nat.lt_or_ge a j with h' | h';exact .inr ⟨h',h10⟩;exact .inl h') hji
     rwa [show i - 1 + 1 = i by omega] at this
    ·have h10:ltS (gt L3 j) (gt L3 (j - 1)) = true:=by simpa using h10
     have haj':a < j:=by
      rcases Nat.lt_or_ge a j with h' | h'
      ·exact h'
      ·have e:j = a:=by omega
       subst e
       have:=hbl3 j (Nat.le_refl _) (by omega) (by omega)
       rw [h10] at this;cases this
     refine iSub (by omega) ?_
     refine iSub (by omega) ?_
     refine iRdO (j:=j - 1) ht18.ow (by omega) (by omega) ?_
     refine iRdO (j:=j) ht18.ow rfl (by omega) ?_
     refine iWr2 (i:=j) (j:=j - 1) (fun _=>rfl) ht18.ow rfl (by omega) (by omega) (by omega) fun w23 h23=>?_
     refine iSub (by omega) ?_
     rw [show (j:Int) - 1 = ((j - 1:Nat):Int) by omega]
     have hw4:SwR a b L3 (sw L3 j (j - 1)):=.one (by omega) (by omega) (by omega) (by omega) (by omega)
     exact hKn17 (j - 1) _ ⟨by omega,by omega,sw L3 j (j - 1),ht18.trans h23,hw3.trans hw4,hbl3.keep hw4 (Nat.le_refl _) (Nat.le_refl _),hin.swap ordrS haj' hji (by omega) h10⟩ (by omega)
   ·refine hJ _ _ ⟨L3,ht3,hw3,?_⟩
    have:=hin.done ordrS (.inl (by omega)) hji
    rwa [show i - 1 + 1 = i by omega] at this
  ·exact hJ _ _ ⟨L2,ht13,hw13,Srt.short (by omega)⟩
 rintro xs w15 ⟨L3,ht3,hw3,hs3⟩
 have hl3:=hw3.len
 intro _
 refine iSub (by omega) ?_
 refine iLe ?_
 refine iCndP (fun h8=>?_) (fun h8=>?_)
 ·refine iAdd (by omega) ?_
  refine iLp (fun j:Nat=>[.int .i64 (j:Int)]) (fun j w'=>i + 1 ≤ j ∧ j ≤ b ∧ ∃ L',Turn lo aB sv v w w' L' ∧ SwR a b L L' ∧ Srt ltS a i L') (fun j=>b - j) (i + 1) rfl ⟨Nat.le_refl _,by omega,L3,ht3,hw3,hs3⟩ ?_
  rintro j w25 Kn25 ⟨hij,hjb,L4,ht4,hw4,hs4⟩ hKn25
  have hl4:=hw4.len
  intro _
  simp only [gx]
  refine iLt ?_
  refine iCndP (fun h9=>?_) (fun h9=>?_)
  ·refine iRdO (j:=j) ht4.ow rfl (by omega) ?_
   refine iSub (by omega) ?_
   refine iRdO (j:=j - 1) ht4.ow (by omega) (by omega) ?_
   refine iRetQ (fun w' _=>aR _ _ w') ?_
   refine iNot ?_
   intro w26 h26
   have ht26:=ht4.ext h26
   refine iCnd (fun h10=>?_) (fun h10=>?_)
   ·refine iAdd (by omega) ?_
    exact hKn (i,r + 1) _ ⟨by show a + 1 ≤ i;omega,hib,by show r + 1 ≤ 5;omega,L4,ht26,hw4,hs4⟩ (by show 5 - (r + 1) < 5 - r;omega)
   ·refine iSub (by omega) ?_
    refine iSub (by omega) ?_
    refine iRdO (j:=j - 1) ht26.ow (by omega) (by omega) ?_
    refine iRdO (j:=j) ht26.ow rfl (by omega) ?_
    refine iWr2 (i:=j) (j:=j - 1) (fun _=>rfl) ht26.ow rfl (by omega) (by omega) (by omega) fun w31 h31=>?_
    refine iAdd (by omega) ?_
    exact hKn25 (j + 1) _ ⟨by omega,by omega,sw L4 j (j - 1),ht26.trans h31,.step hw4 (by omega) (by omega) (by omega) (by omega) hb,hs4.out (SwR.one (a:=i) (b:=b) (by omega) (by omega) (by omega) (by omega) (by omega)) (.inr (Nat.le_refl _))⟩ (by omega)
  ·refine iAdd (by omega) ?_
   exact hKn (i,r + 1) _ ⟨by show a + 1 ≤ i;omega,hib,by show r + 1 ≤ 5;omega,L4,ht4,hw4,hs4⟩ (by show 5 - (r + 1) < 5 - r;omega)
 ·refine iAdd (by omega) ?_
  exact hKn (i,r + 1) _ ⟨by show a + 1 ≤ i;omega,hib,by show r + 1 ≤ 5;omega,L3,ht3,hw3,hs3⟩ (by show 5 - (r + 1) < 5 - r;omega)
theorem oI {lo:Nat} {v:Value}:∀ (n:Nat) {w:World} {L:List Str} {a b:Nat} {lim:Int},b - a ≤ n → Ow lo aB w v (strs L) → a ≤ b → b ≤ L.length → L.length ≤ 1152921504606846976 → Blw ltS a b L → 0 ≤ lim ∧ lim ≤ 64 →
  Cal Tryz.prog gT #[v,.int .i64 (a:Int),.int .i64 (b:Int),.int .i64 lim] w fun _ w'=>∃ L',Turn lo aB sv v w w' L' ∧ SwR a b L L' ∧ Srt ltS a b L':=by
 intro n
 induction n using Nat.strongRecOn with
 | ind n ih=>
 intro w L a0 b0 lim0 hn hs hab hb hL hbl hlim
 apply oS;unfold gN
 refine iLp (fun s:Nat × Nat × Int × Bool × Bool=>[.int .i64 (s.1:Int),.int .i64 (s.2.1:Int),.int .i64 s.2.2.1,.bool s.2.2.2.1,.bool s.2.2.2.2]) (fun s w'=>a0 ≤ s.1 ∧ s.1 ≤ s.2.1 ∧ s.2.1 ≤ b0 ∧ (0 ≤ s.2.2.1 ∧ s.2.2.1 ≤ 64) ∧ ∃ L',Turn lo aB sv v w w' L' ∧ SwR a0 b0 L L' ∧ Blw ltS s.1 s.2.1 L' ∧ Crs ltS a0 b0 s.1 s.2.1 L') (fun s=>s.2.1 - s.1) (a0,b0,lim0,true,true) rfl
  ⟨Nat.le_refl _,hab,Nat.le_refl _,hlim,L,Turn.refl hs,.refl,hbl,Crs.all⟩ ?_
 rintro ⟨a,b,lim,bal,par⟩ w2 Kn ⟨ha,hab,hbb,hlim,L1,ht1,hw1,hbl1,hcr1⟩ hKn
 have ha:a0 ≤ a:=ha
 have hab:a ≤ b:=hab
 have hbb:b ≤ b0:=hbb
 have hlim:0 ≤ lim ∧ lim ≤ 64:=hlim
 have hbl1:Blw ltS a b L1:=hbl1
 have hcr1:Crs ltS a0 b0 a b L1:=hcr1
 have hl1:=hw1.len
 intro _
 simp only [gx]
 -- a sorted window closes the work
 have fin:∀ {L' L'':List Str} {w':World} {a b:Nat},Turn lo aB sv v w w' L'' → SwR a0 b0 L L' → SwR a b L' L'' → a0 ≤ a → b ≤ b0 → Crs ltS a0 b0 a b L' → Srt ltS a b L'' → ∃ L',Turn lo aB sv v w w' L' ∧ SwR a0 b0 L L' ∧ Srt ltS a0 b0 L':=
  fun {L' L'' w' a b} h1 h2 h3 h4 h5 h6 h7=>⟨L'',h1,h2.trans (h3.mono h4 h5 (by rw [h2.len];exact hb)),h6.done h3 h4 h5 h7⟩
 refine iSub (by omega) ?_
 refine iLe ?_
 refine iCndP (fun h=>?_) (fun h=>?_)
 ·refine iCall ?_
  refine (kA ht1.ow hab (by omega) (by omega)).mono fun _ w3 h3=>?_
  obtain ⟨L2,ht2,hw2,hs2⟩:=h3
  exact fin (ht1.trans ht2) hw1 hw2 ha hbb hcr1 hs2
 refine iEq ?_
 refine iCndP (fun h0=>?_) (fun h0=>?_)
 ·refine iCall ?_
  refine (nE ht1.ow (by omega) (by omega) (by omega)).mono fun _ w3 h3=>?_
  obtain ⟨L2,ht2,hw2,hs2⟩:=h3
  exact fin (ht1.trans ht2) hw1 hw2 ha hbb hcr1 hs2
 refine iNot ?_
 refine iJnX (fun xs w'=>∃ l2:Int,∃ L',xs = [.int .i64 l2] ∧ (0 ≤ l2 ∧ l2 ≤ 64) ∧ Turn lo aB sv v w w' L' ∧ SwR a b L1 L') (fun J hJ=>?_) ?_
 ·refine iCnd (fun _=>?_) (fun _=>?_)
  ·refine iCall ?_
   refine (kD ht1.ow hab (by omega) (by omega)).mono fun _ w3 h3=>?_
   obtain ⟨L2,ht2,hw2⟩:=h3
   refine iSub (by omega) ?_
   exact hJ _ _ ⟨lim - 1,L2,rfl,by omega,ht1.trans ht2,hw2⟩
  ·exact hJ _ _ ⟨lim,L1,rfl,hlim,ht1,.refl⟩
 rintro xs w6 ⟨lim,L2,rfl,hlim,ht2,hw2⟩
 have hl2:=hw2.len
 intro _
 simp only [gx]
 refine iCall ?_
 refine (lK ht2.ow (by omega) (by omega) (by omega)).mono fun r w8 h8=>?_
 obtain ⟨h8,t,x,rfl,hat,htb⟩:=h8
 have ht8:=ht2.ext h8
 refine iE20 ?_
 refine iE21 ?_
 refine iEq ?_
 refine iJnX (fun xs w'=>∃ t:Nat,∃ x:Int,∃ L',xs = [.int .i64 (t:Int),.int .i64 x] ∧ a ≤ t ∧ t < b ∧ Turn lo aB sv v w w' L' ∧ SwR a b L1 L') (fun J hJ=>?_) ?_
 ·refine iCndP (fun _=>?_) (fun _=>?_)
  ·refine iCall ?_
   refine (lB ht8.ow hab (by omega) (by omega)).mono fun _ w3 h3=>?_
   obtain ⟨L3,ht3,hw3⟩:=h3
   refine iSub (by omega) ?_
   refine iSub (by omega) ?_
   refine iSub (by omega) ?_
   exact hJ _ _ ⟨b - 1 - (t - a),1,L3,by congr 2;omega,by omega,by omega,ht8.trans ht3,hw2.trans hw3⟩
  ·exact hJ _ _ ⟨t,x,L2,rfl,hat,htb,ht8,hw2⟩
 clear hat htb
 rintro xs w10 ⟨t,x,L3,rfl,hat,htb,ht3,hw3⟩
 intro _
 simp only [gx]
 refine iJnX (fun xs w'=>∃ y:Bool,xs = [.bool y] ∧ Ext w10 w') (fun J hJ=>?_) ?_
 ·refine iCnd (fun _=>?_) (fun _=>?_)
  ·refine iCnd (fun _=>?_) (fun _=>?_)
   ·refine iEq ?_
    exact hJ _ _ ⟨_,rfl,Ext.refl _⟩
   ·exact hJ _ _ ⟨false,rfl,Ext.refl _⟩
  ·exact hJ _ _ ⟨false,rfl,Ext.refl _⟩
 rintro xs w13 ⟨y,rfl,h13⟩
 intro _
 simp only [gx]
 have ht13:=ht3.ext h13
 have hl3:=hw3.len
 refine iJnX (fun _ w'=>∃ L',Turn lo aB sv v w w' L' ∧ SwR a b L1 L') (fun J hJ=>?_) ?_
 ·refine iCnd (fun _=>?_) (fun _=>?_)
  ·refine iCall ?_
   refine (gZ ht13.ow (by omega) (by omega) (by omega) (hbl1.keep hw3 (Nat.le_refl _) (Nat.le_refl _))).mono fun r w3 h3=>?_
   obtain ⟨y',L4,rfl,ht4,hw4,hs4⟩:=h3
   refine iCnd (fun hy=>?_) (fun hy=>?_)
   ·exact fin (ht13.trans ht4) hw1 (hw3.trans hw4) ha hbb hcr1 (hs4 hy)
   ·exact hJ _ _ ⟨L4,ht13.trans ht4,hw3.trans hw4⟩
  ·exact hJ _ _ ⟨L3,ht13,hw3⟩
 clear ht3 hw3 ht13 ht8 ht2 hw2 hl2 hl3
 rintro xs w15 ⟨L3,ht3,hw3⟩
 have hl3:=hw3.len
 have hw3':SwR a0 b0 L L3:=hw1.trans (hw3.mono ha hbb (by omega))
 have hbl3:Blw ltS a b L3:=hbl1.keep hw3 (Nat.le_refl _) (Nat.le_refl _)
 have hcr3:Crs ltS a0 b0 a b L3:=hcr1.keep hw3 ha hbb
 intro _
 refine iJnB (decide (0 < a) && !ltS (gt L3 (a - 1)) (gt L3 t)) w15 (fun J hJ=>?_) (fun w18 h18=>?_)
 ·refine iLt ?_
  refine iCndP (fun h5=>?_) (fun h5=>?_)
  ·rw [decide_eq_true (show 0 < a by omega),Bool.true_and] at hJ
   refine iSub (by omega) ?_
   refine iRdO (j:=a - 1) ht3.ow (by omega) (by omega) ?_
   refine iRdO (j:=t) ht3.ow rfl (by omega) ?_
   exact iRetQ (fun w' _=>aR _ _ w') (iNot hJ)
  ·rw [decide_eq_false (show ¬ 0 < a by omega),Bool.false_and] at hJ
   exact hJ
 intro _
 simp only [gx]
 have ht18:=ht3.ext h18
 cases hc:decide (0 < a) && !ltS (gt L3 (a - 1)) (gt L3 t)
 rotate_left
 ·rw [Bool.and_eq_true,decide_eq_true_eq,Bool.not_eq_true'] at hc
  refine iCndT rfl ?_
  refine iCall ?_
  refine (jV ht18.ow hat htb (by omega) (by omega)).mono fun r w21 h21=>?_
  obtain ⟨L4,m,rfl,ht4,hw4,ham,hmb,hle⟩:=h21
  have hge:∀ k,a ≤ k → k < b → ltS (gt L4 k) (gt L3 t) = false:=hw4.all (p:=fun z=>ltS z (gt L3 t) = false) fun k hk hk'=>ordrS.tr hc.2 (hbl3 k hk hk' (by omega))
  refine hKn (m,b,lim,bal,par) _ ⟨by show a0 ≤ m;omega,hmb,hbb,hlim,L4,ht18.trans ht4,hw3'.trans (hw4.mono ha hbb (by rw [hw3'.len];omega)),aCB ordrS hge hle ham,aCY ordrS (hcr3.keep hw4 ha hbb) hge hle hmb⟩ (by show b - m < b - a;omega)
 refine iCndF rfl ?_
 refine iCall ?_
 refine (mH ht18.ow hat htb (by omega) (by omega)).mono fun r w22 h22=>?_
 obtain ⟨L4,m,y',rfl,ht4,hw4,ham,hmb,hpt⟩:=h22
 have hl4:=hw4.len
 have ht22:=ht18.trans ht4
 have hw4':SwR a0 b0 L L4:=hw3'.trans (hw4.mono ha hbb (by rw [hw3'.len];omega))
 have hbl4:Blw ltS a b L4:=hbl3.keep hw4 (Nat.le_refl _) (Nat.le_refl _)
 have hcr4:Crs ltS a0 b0 a b L4:=hcr3.keep hw4 ha hbb
 refine iE20 ?_
 refine iE21 ?_
 refine iSub (by omega) ?_
 refine iSub (by omega) ?_
 refine iQuo (by omega) ?_
 refine iLt ?_
 refine iCndP (fun h5=>?_) (fun h5=>?_)
 ·refine iLe ?_
  refine iCall ?_
  refine (ih (m - a) (by omega) (Nat.le_refl _) ht22.ow ham (by omega) (by omega) (hbl4.low (by omega)) hlim).mono fun _ w23 h23=>?_
  obtain ⟨L5,ht5,hw5,hs5⟩:=h23
  have hw5':SwR a b L4 L5:=hw5.mono (Nat.le_refl _) (by omega) (by omega)
  have hpt5:=hpt.lowS hw5
  refine iAdd (by omega) ?_
  exact hKn (m + 1,b,lim,_,y') _ ⟨by show a0 ≤ m + 1;omega,by show m + 1 ≤ b;omega,hbb,hlim,L5,ht22.trans ht5,hw4'.trans (hw5'.mono ha hbb (by rw [hw4'.len];omega)),hpt5.blw,hpt5.up ordrS (hcr4.keep hw5' ha hbb) hs5⟩ (by show b - (m + 1) < b - a;omega)
 ·refine iLe ?_
  refine iAdd (by omega) ?_
  refine iCall ?_
  refine (ih (b - (m + 1)) (by omega) (a:=m + 1) (Nat.le_refl _) ht22.ow (by omega) (by omega) (by omega) hpt.blw hlim).mono fun _ w23 h23=>?_
  obtain ⟨L5,ht5,hw5,hs5⟩:=h23
  have hw5':SwR a b L4 L5:=hw5.mono (by omega) (Nat.le_refl _) (by omega)
  have hpt5:=hpt.highS hw5
  exact hKn (a,m,lim,_,y') _ ⟨ha,ham,by show m ≤ b0;omega,hlim,L5,ht22.trans ht5,hw4'.trans (hw5'.mono ha hbb (by rw [hw4'.len];omega)),(hbl4.keep hw5' (Nat.le_refl _) (Nat.le_refl _)).low (Nat.le_of_lt hmb),hpt5.down ordrS (hcr4.keep hw5' ha hbb) hs5⟩ (by show m - a < b - a;omega)
theorem pV {lo:Nat} {w:World} {v:Value} {L:List Str} (hs:Ow lo aB w v (strs L)) (hL:L.length ≤ 1152921504606846976):
  Cal Tryz.prog iL #[v] w fun _ w'=>∃ L':List Str,Ow lo aB w' v (strs L') ∧ Ch (fun c=>v.ownBlock = some c) w w' ∧ List.Perm L' L ∧ L'.Pairwise fun x y=>ltS y x = false:=by
 apply rV;unfold iP
 refine bO hs.sl ?_
 refine D4 (by omega) ?_
 refine iCall ?_
 refine (uQ (by omega) w).mono fun r w1 h1=>?_
 obtain ⟨h1,k,rfl,-,-,hk⟩:=h1
 refine iCall ?_
 refine (oI (a:=0) (b:=L.length) (lim:=(k:Int)) L.length (by omega) (hs.ext h1) (Nat.zero_le _) (Nat.le_refl _) hL (fun k _ _ h=>by omega) (by omega)).mono fun _ w2 h2=>?_
 obtain ⟨L',ht,hw,hst⟩:=h2
 rw [← hw.len] at hst
 exact ⟨L',ht.ow,(h1.ch (S:=fun c=>v.ownBlock = some c)).trans ht.ch fun _ e=>.inl e,hw.perm,hst.pairwise⟩
end Go.Proofs.YteifjhpddhppcaaGreatDoor

namespace Go.Vc
abbrev Inc (L:List Str):Prop:=L.Pairwise fun x y=>ltS x y = true
theorem VY {x:Str} {l:List Str}:Inc (x :: l) ↔ (∀ y ∈ l,ltS x y = true) ∧ Inc l:=List.pairwise_cons
theorem S7:∀ {A B:List Str},Inc A → Inc B → (∀ x,x ∈ A ↔ x ∈ B) → A = B
 | [],[],_,_,_=>rfl
 | [],y :: B,_,_,h=>by have:=(h y).2 List.mem_cons_self;cases this
 | x :: A,[],_,_,h=>by have:=(h x).1 List.mem_cons_self;cases this
 | x :: A,y :: B,hA,hB,h=>by
  rw [VY] at hA hB
  have e:x = y:=by
   rcases List.mem_cons.1 ((h x).1 List.mem_cons_self) with e | e
   ·exact e
   ·rcases List.mem_cons.1 ((h y).2 List.mem_cons_self) with e' | e'
    ·exact e'.symm
    ·have h1:=hB.1 x e
     have h2:=hA.1 y e'
     rw [IM h1] at h2;cases h2
  subst e
  rw [S7 hA.2 hB.2 fun z=>?_]
  have hz:=h z
  simp only [List.mem_cons] at hz
  constructor
  ·intro hm
   rcases hz.1 (.inr hm) with e | e
   ·subst e;have:=hA.1 z hm;rw [cV] at this;cases this
   ·exact e
  ·intro hm
   rcases hz.2 (.inr hm) with e | e
   ·subst e;have:=hB.1 z hm;rw [cV] at this;cases this
   ·exact e
def insT (t:Str):List Str → List Str
 | []=>[t]
 | x :: l=>if ltS x t then x :: insT t l else if x = t then x :: l else t :: x :: l
theorem N2 {t x:Str}:∀ {l:List Str},x ∈ insT t l ↔ x = t ∨ x ∈ l
 | []=>by simp [insT]
 | y :: l=>by
  unfold insT
  split
  ·rw [List.mem_cons,N2,List.mem_cons]
   constructor
   ·rintro (h | h | h)
    ·exact .inr (.inl h)
    ·exact .inl h
    ·exact .inr (.inr h)
   ·rintro (h | h | h)
    ·exact .inr (.inl h)
    ·exact .inl h
    ·exact .inr (.inr h)
  ·split
   ·rename_i h;subst h;simp
   ·simp
theorem WJ {t:Str}:∀ {l:List Str},Inc l → Inc (insT t l)
 | [],_=>by simp [insT]
 | y :: l,h=>by
  unfold insT
  rw [VY] at h
  split
  ·rename_i hy
   refine List.pairwise_cons.2 ⟨fun z hz=>?_,WJ h.2⟩
   rcases N2.1 hz with e | e
   ·subst e;exact hy
   ·exact h.1 z e
  ·rename_i hy
   split
   ·exact List.pairwise_cons.2 h
   ·rename_i hne
    have hty:ltS t y = true:=by
     rcases tW t y with e | e | e
     ·exact e
     ·exact absurd e.symm hne
     ·exact absurd e hy
    refine List.pairwise_cons.2 ⟨fun z hz=>?_,List.pairwise_cons.2 h⟩
    rcases List.mem_cons.1 hz with e | e
    ·subst e;exact hty
    ·exact nU hty (h.1 z e)
def setT (l:List Str):List Str:=l.foldl (fun a x=>insT x a) []
theorem F0 (l:List Str):Inc (setT l):=by
 unfold setT
 suffices h:∀ (l a:List Str),Inc a → Inc (l.foldl (fun a x=>insT x a) a) from h l [] List.Pairwise.nil
 intro l
 induction l with
 | nil=>intro a h;exact h
 | cons x l ih=>intro a h;exact ih _ (WJ h)
theorem fX {x:Str} {l:List Str}:x ∈ setT l ↔ x ∈ l:=by
 unfold setT
 suffices h:∀ (l a:List Str),x ∈ l.foldl (fun a x=>insT x a) a ↔ x ∈ l ∨ x ∈ a by simpa using h l []
 intro l
 induction l with
 | nil=>intro a;simp
 | cons y l ih=>
  intro a
  rw [List.foldl_cons,ih,N2,List.mem_cons]
  constructor
  ·rintro (h | h | h)
   ·exact .inl (.inr h)
   ·exact .inl (.inl h)
   ·exact .inr h
  ·rintro ((h | h) | h)
   ·exact .inr (.inl h)
   ·exact .inl h
   ·exact .inr (.inr h)
def ddT:List Str → List Str
 | []=>[]
 | [x]=>[x]
 | x :: y :: l=>if y = x then ddT (y :: l) else x :: ddT (y :: l)
theorem LE {z:Str}:∀ {l:List Str},z ∈ ddT l ↔ z ∈ l
 | []=>Iff.rfl
 | [_]=>Iff.rfl
 | x :: y :: l=>by
  rw [ddT]
  split
  ·rename_i h;subst h;rw [LE];simp
  ·rw [List.mem_cons,LE,List.mem_cons (l:=y :: l)]
theorem SA:∀ {l:List Str},l.Pairwise (fun x y=>ltS y x = false) → Inc (ddT l)
 | [],_=>List.Pairwise.nil
 | [_],_=>by simp [ddT]
 | x :: y :: l,h=>by
  rw [List.pairwise_cons] at h
  rw [ddT]
  split
  ·exact SA h.2
  ·rename_i hne
   refine List.pairwise_cons.2 ⟨fun z hz=>?_,SA h.2⟩
   have hxy:ltS x y = true:=by
    rcases tW x y with e | e | e
    ·exact e
    ·exact absurd e.symm hne
    ·have:=h.1 y List.mem_cons_self;rw [e] at this;cases this
   rcases List.mem_cons.1 (LE.1 hz) with e | e
   ·subst e;exact hxy
   ·exact ordrS.lt_le hxy ((List.pairwise_cons.1 h.2).1 z e)
theorem XT {l m:List Str} (h:l.Pairwise fun x y=>ltS y x = false) (hp:List.Perm l m):ddT l = setT m:=
 S7 (SA h) (F0 m) fun x=>by rw [LE,fX];exact hp.mem_iff
theorem VM:∀ (l:List Str) (x y:Str),ddT (l ++ [x] ++ [y]) = if y = x then ddT (l ++ [x]) else ddT (l ++ [x]) ++ [y]
 | [],x,y=>by simp only [List.nil_append,List.singleton_append,ddT];split <;> simp_all
 | [a],x,y=>by
  simp only [List.cons_append,ddT,List.nil_append]
  by_cases h2:y = x
  ·subst h2
   by_cases h1:y = a
   ·subst h1;simp
   ·simp [h1]
  ·by_cases h1:x = a
   ·subst h1;simp [h2]
   ·simp [h1,h2]
 | a :: b :: l,x,y=>by
  have:=VM (b :: l) x y
  simp only [List.cons_append] at this ⊢
  rw [ddT,ddT,this]
  by_cases h1:b = a <;> by_cases h2:y = x <;> simp [h1,h2]
theorem N3 {l:List Str} {i:Nat} (h0:1 ≤ i) (hi:i < l.length):ddT (l.take (i + 1)) = if gt l i = gt l (i - 1) then ddT (l.take i) else ddT (l.take i) ++ [gt l i]:=by
 obtain ⟨k,rfl⟩:∃ k,i = k + 1:=⟨i - 1,by omega⟩
 have e1:l.take (k + 1) = l.take k ++ [gt l k]:=by rw [List.take_succ_eq_append_getElem (by omega),gt_eq (by omega)]
 have e2:l.take (k + 1 + 1) = l.take k ++ [gt l k] ++ [gt l (k + 1)]:=by rw [List.take_succ_eq_append_getElem hi,e1,gt_eq hi]
 rw [e2,VM,e1]
 rfl
theorem ZF {l:List Str}:∀ k,k ≤ l.length → (∀ i,1 ≤ i → i < k → ¬ gt l i = gt l (i - 1)) → ddT (l.take k) = l.take k:=by
 intro k
 induction k with
 | zero=>intro _ _;rfl
 | succ k ih=>
  intro hk h
  rcases Nat.eq_zero_or_pos k with h0 | h0
  ·subst h0
   cases l with
   | nil=>rfl
   | cons x l=>rfl
  ·rw [N3 h0 (by omega),if_neg (h k h0 (by omega)),ih (by omega) fun i h1 h2=>h i h1 (by omega),List.take_succ_eq_append_getElem (by omega),gt_eq (by omega)]
theorem aBO {l:List Str} (h:∀ i,1 ≤ i → i < l.length → ¬ gt l i = gt l (i - 1)):ddT l = l:=by
 have:=ZF (l:=l) l.length (Nat.le_refl _) h
 rwa [List.take_length] at this
/-! ### Marks -/
end Go.Vc

namespace Go.Vc
theorem Sl.toK {w:World} {v:Value} {xs:List Value} (h:Sl w v xs):SlK 1 w v xs.length xs:=by
 obtain ⟨a,c,hv,h2,h3,h4⟩:=h
 refine ⟨(Nat.mul_one _).symm,a,c,hv,h2,h3,?_⟩
 rcases h4 with rfl | ⟨b,o,ha,hc⟩
 ·exact .inl rfl
 ·exact .inr ⟨b,o,ha,fun i hi=>hc i (by omega)⟩
theorem SlK.cast {k:Nat} {w:World} {v:Value} {n m:Nat} {xs:List Value} (h:SlK k w v n xs) (e:n = m):SlK k w v m xs:=e ▸ h
theorem IR (L:List Str) (k:Nat):(strs L).take k = strs (L.take k):=by simp [strs,List.map_take]
theorem M6 (L:List Str) {j:Nat} (hj:j < L.length):(strs L)[j]? = some (sv (gt L j)):=by rw [gt_eq hj];simp [strs,hj]
theorem aDS {L:List Str} {k i:Nat} (h:i < k):gt (L.take k) i = gt L i:=by unfold gt;simp [List.getD_eq_getElem?_getD,h]
end Go.Vc
namespace Go.Proofs.YteifjhpddhppcaaGreatDoor
open Go.Vc
theorem nD {lo:Nat} {w:World} {v:Value} {L:List Str} (hs:Ow lo aB w v (strs L)) (hL:L.length ≤ 1152921504606846976):
  Cal Tryz.prog gH #[v] w fun r w'=>Ow lo aB w' r (strs (ddT L)) ∧ Ch (fun c=>v.ownBlock = some c) w w' ∧ r.ownBlock = v.ownBlock:=by
 apply oH;unfold f9
 refine bO hs.sl ?_
 refine iLt ?_
 refine iCndP (fun h=>?_) (fun h=>?_)
 ·rw [aBO (fun i h1 h2=>by omega)]
  exact ⟨hs,(Ext.refl w).ch,by first | trivial | rfl⟩
 obtain ⟨g,cap,hv,hcap,hcm⟩:=hs.open (by intro e;have:=bG L;rw [e] at this;simp at this;omega)
 rw [bG] at hv hcap
 refine iLp (fun k:Nat=>[.int .i64 (k:Int)]) (fun k w'=>1 ≤ k ∧ k ≤ L.length ∧ Ext w w' ∧ ∀ i,1 ≤ i → i < k → ¬ gt L i = gt L (i - 1)) (fun k=>L.length - k) 1 rfl ⟨Nat.le_refl _,by omega,Ext.refl _,fun i h1 h2=>by omega⟩ ?_
 rintro k w2 Kn ⟨hk1,hkn,h2,hne⟩ hKn
 have hs2:=hs.ext h2
 intro _
 simp only [gx]
 refine bO hs2.sl ?_
 refine iLt ?_
 refine iCndP (fun h3=>?_) (fun h3=>?_)
 rotate_left
 ·rw [aBO (fun i h1 h2=>hne i h1 (by omega))]
  exact ⟨hs2,h2.ch,by first | trivial | rfl⟩
 refine iRdO (j:=k) hs2 rfl (by omega) ?_
 refine iSub (by omega) ?_
 refine iRdO (j:=k - 1) hs2 (by omega) (by omega) ?_
 refine iEqT ?_
 intro w3 h23
 have hs3:=hs2.ext h23
 refine iCndP (fun h4=>?_) (fun h4=>?_)
 rotate_left
 ·refine iAdd (by omega) ?_
  refine hKn (k + 1) _ ⟨by omega,by omega,h2.trans h23,fun i h1 h5=>?_⟩ (by omega)
  by_cases hi:i = k
  ·subst hi;exact h4
  ·exact hne i h1 (by omega)
 subst hv
 refine SJ (k:=k) (by omega) hcap ?_
 refine iLp (fun s:Nat × Nat=>[.int .i64 (s.1:Int),.int .i64 (s.2:Int)]) (fun s w'=>k ≤ s.1 ∧ s.1 + 1 ≤ k + s.2 ∧ k + s.2 ≤ L.length ∧ ∃ M,Turn lo aB sv (.slice (some ⟨g,0,none⟩) L.length cap) w w' M ∧ M.length = L.length ∧ M.take s.1 = ddT (L.take (k + s.2)) ∧ ∀ j,k + s.2 ≤ j + 1 → gt M j = gt L j) (fun s=>L.length - s.2) (k,1) rfl
  ⟨Nat.le_refl _,Nat.le_refl _,by show k + 1 ≤ L.length;omega,L,⟨hs3,(h2.trans h23).ch⟩,rfl,by show L.take k = ddT (L.take (k + 1));rw [N3 hk1 (by omega),if_pos h4,ZF k (by omega) hne],fun _ _=>rfl⟩ ?_
 rintro ⟨kk,k2⟩ w5 Kn5 ⟨hkk,hkk2,hk2,M,ht,hM,hMt,hMe⟩ hKn5
 have hkk:k ≤ kk:=hkk
 have hkk2:kk + 1 ≤ k + k2:=hkk2
 have hk2:k + k2 ≤ L.length:=hk2
 have hMt:M.take kk = ddT (L.take (k + k2)):=hMt
 have hMe:∀ j,k + k2 ≤ j + 1 → gt M j = gt L j:=hMe
 intro _
 simp only [gx]
 refine iLenL ?_
 refine iLt ?_
 refine iCndP (fun h5=>?_) (fun h5=>?_)
 ·refine iIaL (j:=k2) (by omega) ?_
  refine iLd (ht.ow.at (by rw [List.length_map];exact hM) (j:=k + k2) (by omega) |>.trans (M6 M (by omega))) ?_
  refine iSub (by omega) ?_
  rw [show (k2:Int) - 1 = ((k2 - 1:Nat):Int) by omega]
  refine iIaL (j:=k2 - 1) (by omega) ?_
  refine iLd (ht.ow.at (by rw [List.length_map];exact hM) (j:=k + (k2 - 1)) (by omega) |>.trans (M6 M (by omega))) ?_
  refine iNeT ?_
  intro w6 h56
  have ht6:=ht.ext h56
  have e1:=hMe (k + k2) (by omega)
  have e2:=hMe (k + (k2 - 1)) (by omega)
  have edd:=N3 (l:=L) (i:=k + k2) (by omega) (by omega)
  rw [← e1,show k + k2 - 1 = k + (k2 - 1) by omega,← e2] at edd
  refine iCndP (fun h6=>?_) (fun h6=>?_)
  ·rw [if_neg h6,← hMt] at edd
   refine iIaL (j:=k2) (by omega) ?_
   refine iLd (ht6.ow.at (by rw [List.length_map];exact hM) (j:=k + k2) (by omega) |>.trans (M6 M (by omega))) ?_
   refine iIaOw ht6.ow (by omega) (by rw [List.length_map];omega) fun b o hb _ _ hc hf hset=>?_
   refine iSt (hc.trans (List.getElem?_eq_getElem (by rw [List.length_map];omega))) hf rfl ?_
   have hset:=hset (sv (gt M (k + k2)))
   rw [Int.toNat_natCast,← List.map_set] at hset
   refine iAdd (by omega) ?_
   refine iAdd (by omega) ?_
   refine hKn5 (kk + 1,k2 + 1) _ ⟨by show k ≤ kk + 1;omega,by show kk + 1 + 1 ≤ k + (k2 + 1);omega,by show k + (k2 + 1) ≤ L.length;omega,M.set kk (gt M (k + k2)),⟨hset,ht6.ch.trans ((Upd.setCell w6 b o _).ch (S:=fun c=>Value.ownBlock (.slice (some ⟨g,0,none⟩) L.length cap) = some c) hb) fun _ e=>.inl e⟩,by rw [List.length_set];exact hM,?_,fun j hj=>?_⟩ (by show L.length - (k2 + 1) < L.length - k2;omega)
   ·show (M.set kk (gt M (k + k2))).take (kk + 1) = ddT (L.take (k + (k2 + 1)))
    rw [show k + (k2 + 1) = k + k2 + 1 by omega,edd,List.take_succ_eq_append_getElem (by rw [List.length_set];omega),List.getElem_set_self,List.take_set_of_le (Nat.le_refl _)]
   ·have hj:k + (k2 + 1) ≤ j + 1:=hj
    rw [pH _ (by omega),if_neg (by omega)]
    exact hMe j (by omega)
  ·rw [if_pos (Classical.not_not.1 h6),← hMt] at edd
   refine iAdd (by omega) ?_
   exact hKn5 (kk,k2 + 1) _ ⟨hkk,by show kk + 1 ≤ k + (k2 + 1);omega,by show k + (k2 + 1) ≤ L.length;omega,M,ht6,hM,edd.symm,fun j hj=>hMe j (by have hj:k + (k2 + 1) ≤ j + 1:=hj;omega)⟩ (by show L.length - (k2 + 1) < L.length - k2;omega)
 ·have hend:k + k2 = L.length:=by omega
  rw [hend,List.take_length] at hMt
  refine SJ (k:=kk) (by omega) hcap ?_
  refine iClr kZ kT rfl ht.ow (by rw [List.length_map];exact hM) (by omega) fun w8 h8 hc8=>?_
  refine LD (k:=kk) (by omega) hcap ?_
  rw [show (List.map sv M).take kk = strs (M.take kk) from IR M kk,hMt] at h8
  exact ⟨h8,ht.ch.trans hc8 fun c hc=>.inl (by rw [hc];rfl),rfl⟩
theorem mJ {w:World} {v0 v1:Value} {A B:List Str} (h0:SlT w v0 A) (h1:SlT w v1 B) (hc0:aC v0 = true) (hc1:aC v1 = true) (hl:A.length + B.length ≤ 1099511627776):
  Cal Tryz.prog PH #[v0,v1] w fun r w'=>Ext w w' ∧ Ow w.heap.size aB w' r (strs (setT (A ++ B))):=by
 apply aAM;unfold PA
 refine iBs2 rfl hc0 hc1 fun c w1 hc h1' hB=>?_
 refine iCall ((yC (vs:=[v0,v1]) (ps:=[(A.length,strs A),(B.length,strs B)]) (Sl.ofBlk (n:=2) hB rfl (by decide)) rfl (fun i g1 g2=>?_) (fun p hp u hu=>?_) (by simp;omega)).mono ?_)
 ·rcases i with _ | _ | i
  ·exact (Sl.toK (h0.ext h1')).cast (bG A)
  ·exact (Sl.toK (h1.ext h1')).cast (bG B)
  ·simp at g1;omega
 ·simp only [List.mem_cons,List.not_mem_nil,or_false] at hp
  rcases hp with rfl | rfl
  ·exact IC _ _ hu
  ·exact IC _ _ hu
 rintro r w2 ⟨h2,ho⟩
 have hX2:=h1'.trans h2
 have ho2:Ow w1.heap.size aB w2 r (strs (A ++ B)):=by
  have:=ho.toOw
  simpa [strs] using this
 refine iCall ((pV ho2 (by rw [List.length_append];omega)).mono ?_)
 rintro _ w3 ⟨L',ho3,hc3,hperm,hsorted⟩
 have hlen:L'.length = A.length + B.length:=by rw [hperm.length_eq,List.length_append]
 refine iCall ((nD ho3 (by omega)).mono ?_)
 rintro r' w4 ⟨ho4,hc4,_⟩
 rw [XT hsorted hperm] at ho4
 have hn:∀ c,r.ownBlock = some c → w.heap.size ≤ c:=fun c hc'=>Nat.le_trans h1'.size (ho2.blk c hc').1
 exact ⟨(hX2.thenCh hc3 hn).thenCh hc4 hn,ho4.mono h1'.size⟩
end Go.Proofs.YteifjhpddhppcaaGreatDoor

namespace Go.Vc
theorem iChr {P:Program} {w:World} {s d e:TypeId} {c:UInt8} {z:Int} {K:Value → World → Prop} (hs:P.underlying s = some (.slice e)) (he:P.underlying e = some (.int .u8)) (hd:P.underlying d = some .string) (hz:z = (c.toNat:Int)) (h:∀ w',Ext w w' → K (sv [c]) w'):
  xBs e (Value.cells (.int .u8 0)) 1 1 [(0,.int .u8 z)] w fun v w3=>xR P w3 (convert s d v) fun r=>K r w3:=by
 subst hz
 refine iBs1 rfl rfl fun b w1 hb h1 hB=>?_
 refine ⟨sv [c],fun w' hw'=>?_,h w1 h1⟩
 have hB':=hB.ext hw'
 rw [run_convert_bytes_string w' s d e _ 1 1 hs he hd]
 have hl:(loadCells ⟨b,0,none⟩ 1).run P w' = .ok ([(c.toNat:Int)].map (Value.int .u8)).toArray w':=by
  simp only [loadCells]
  rw [vZ (cs:=#[Value.int .u8 (c.toNat:Int)]) 1 0 #[] (fun j _ hj=>by
   have:j = 0:=by omega
   subst this
   exact hB'.cell 0) (by simp)]
  simp
 rw [run_bytesToString w' ⟨b,0,none⟩ 1 1 _ hl]
 have e:[(c.toNat:Int)].foldl (fun (r:ByteArray) (n:Int)=>r.push (UInt8.ofNat n.toNat)) ByteArray.empty = ⟨[c].toArray⟩:=by
  simp only [List.foldl_cons,List.foldl_nil,Int.toNat_natCast,UInt8.ofNat_toNat]
  rfl
 rw [e]
end Go.Vc
namespace Go.Proofs.YteifjhpddhppcaaGreatDoor
open Go.Vc
open Go.RowKit (Below)
end Go.Proofs.YteifjhpddhppcaaGreatDoor

namespace Go.Vc
/-! ### Formulas by their kinds and parts -/
def Fm.kind:Fm → Nat
 | .var _=>0
 | .fls=>1
 | .and _ _=>2
 | .or _ _=>3
 | .imp _ _=>4
 | .box _=>5
 | .dia _=>6
def Fm.sym:Fm → Nat
 | .var v=>v
 | _=>0
def Fm.kids:Fm → List Fm
 | .and a b=>[a,b]
 | .or a b=>[a,b]
 | .imp a b=>[a,b]
 | .box a=>[a]
 | .dia a=>[a]
 | _=>[]
def arity (k:Nat):Nat:=if k = 2 ∨ k = 3 ∨ k = 4 then 2 else if k = 5 ∨ k = 6 then 1 else 0
def aI (fs:List Fm):List Value:=fs.flatMap Fm.cells
def sizeL (fs:List Fm):Nat:=(fs.map Fm.size).sum
theorem Fm.cells_kids (f:Fm):f.cells = nd f.kind f.sym ++ aI f.kids:=by cases f <;> simp [Fm.cells,Fm.kind,Fm.sym,Fm.kids,aI]
theorem Fm.size_kids (f:Fm):f.size = 1 + sizeL f.kids:=by cases f <;> simp [Fm.size,Fm.kids,sizeL] <;> omega
theorem Fm.arity_kids (f:Fm):arity f.kind = f.kids.length:=by cases f <;> rfl
theorem P6 (fs:List Fm):(aI fs).length = sizeL fs * 2:=by
 induction fs with
 | nil=>rfl
 | cons f fs ih=>simp only [aI,List.flatMap_cons,List.length_append,sizeL,List.map_cons,List.sum_cons] at ih ⊢;rw [f.cells_len,ih];omega
theorem wB (a b:List Fm):aI (a ++ b) = aI a ++ aI b:=by simp [aI]
theorem kS (a b:List Fm):sizeL (a ++ b) = sizeL a + sizeL b:=by simp [sizeL]
theorem tH:∀ gs:List Fm,gs.length ≤ sizeL gs
 | []=>Nat.zero_le _
 | a :: bs=>by have:=a.size_pos;have:=tH bs;simp only [sizeL,List.map_cons,List.sum_cons,List.length_cons] at this ⊢;omega
theorem aCH:∀ {fs gs:List Fm} {r r':List Value},fs.length = gs.length → aI fs ++ r = aI gs ++ r' → fs = gs ∧ r = r':=by
 suffices H:∀ (n:Nat) {fs gs:List Fm} {r r':List Value},sizeL fs ≤ n → fs.length = gs.length → aI fs ++ r = aI gs ++ r' → fs = gs ∧ r = r' from fun {fs}=>H (sizeL fs) (Nat.le_refl _)
 intro n
 induction n with
 | zero=>
  intro fs gs r r' hn hl he
  cases fs with
  | nil=>cases gs with
   | nil=>exact ⟨rfl,he⟩
   | cons _ _=>cases hl
  | cons f fs=>simp only [sizeL,List.map_cons,List.sum_cons] at hn;have:=f.size_pos;omega
 | succ n ih=>
  intro fs gs r r' hn hl he
  cases fs with
  | nil=>cases gs with
   | nil=>exact ⟨rfl,he⟩
   | cons _ _=>cases hl
  | cons f fs=>cases gs with
   | nil=>cases hl
   | cons g gs=>
    simp only [List.length_cons,Nat.add_right_cancel_iff] at hl
    have hsz:sizeL (f.kids ++ fs) ≤ n:=by
     rw [kS]
     simp only [sizeL,List.map_cons,List.sum_cons] at hn ⊢
     have:=f.size_kids
     simp only [sizeL] at this
     omega
    have he':nd f.kind f.sym ++ (aI (f.kids ++ fs) ++ r) = nd g.kind g.sym ++ (aI (g.kids ++ gs) ++ r'):=by
     have e:∀ (f:Fm) (fs:List Fm) (r:List Value),aI (f :: fs) ++ r = nd f.kind f.sym ++ (aI (f.kids ++ fs) ++ r):=fun f fs r=>by
      rw [wB]
      simp only [aI,List.flatMap_cons]
      rw [f.cells_kids]
      simp [aI]
     rw [← e,← e];exact he
    simp only [nd,List.cons_append,List.nil_append,List.cons.injEq,Value.int.injEq,true_and] at he'
    obtain ⟨hk,hs,hr⟩:=he'
    have hk:f.kind = g.kind:=by omega
    have hs:f.sym = g.sym:=by omega
    have hkl:f.kids.length = g.kids.length:=by rw [← f.arity_kids,← g.arity_kids,hk]
    obtain ⟨h1,h2⟩:=ih hsz (by rw [List.length_append,List.length_append,hkl,hl]) hr
    obtain ⟨h3,h4⟩:=List.append_inj h1 hkl
    refine ⟨?_,h2⟩
    have:f = g:=by
     cases f <;> cases g <;> simp [Fm.kind] at hk <;> simp [Fm.kids,Fm.sym] at h3 hs <;> simp_all
    rw [this,h4]
theorem aBF {f g:Fm} (h:f.cells = g.cells):f = g:=by
 have:=(aCH (fs:=[f]) (gs:=[g]) (r:=[]) (r':=[]) rfl (by simpa [aI] using h)).1
 simpa using this
def Fm.isNeg:Fm → Bool
 | .imp _ b=>decide (b = .fls)
 | _=>false
theorem body_len:∀ f:Fm,f.body.length + 2 ≤ 4 * f.size:=by
 have pl:∀ (b:Bool) (s:Str),(par b s).length ≤ s.length + 2:=fun b s=>by cases b <;> simp [par]
 intro f
 induction f with
 | var v=>simp [Fm.body,Fm.size]
 | fls=>simp [Fm.body,Fm.size]
 | and a b ha hb=>
  have h1:=pl (decide (a.own < 2)) a.body
  have h2:=pl (decide (b.own < 3)) b.body
  simp only [Fm.body,Fm.size,List.length_append,List.length_cons];omega
 | or a b ha hb=>
  have h1:=pl (decide (a.own < 1)) a.body
  have h2:=pl (decide (b.own < 2)) b.body
  simp only [Fm.body,Fm.size,List.length_append,List.length_cons];omega
 | imp a b ha hb=>
  have h1:=pl (decide (a.own < 1)) a.body
  have h2:=pl (decide (a.own < 3)) a.body
  simp only [Fm.body,Fm.size]
  split
  ·split
   ·simp;have:=a.size_pos;have:=b.size_pos;omega
   ·simp only [List.length_cons];omega
  ·simp only [List.length_append,List.length_cons];omega
 | box a ha=>
  have h2:=pl (decide (a.own < 3)) a.body
  simp only [Fm.body,Fm.size,List.length_cons];omega
 | dia a ha=>
  have h2:=pl (decide (a.own < 3)) a.body
  simp only [Fm.body,Fm.size,List.length_cons];omega
theorem cM (lv:Nat) (f:Fm):(f.txt lv).length ≤ 4 * f.size:=by
 have:=body_len f
 unfold Fm.txt par
 split
 ·simp;omega
 ·omega
/-! ### Steps -/
section
variable {P:Program} {w:World}
theorem iSlK {k:Nat} {v:Value} {n i j:Nat} {xs:List Value} {ki kj:IntKind} {K:Value → Prop} (hs:SlK k w v n xs) (hi:i ≤ j) (hj:j ≤ n) (h:∀ r,SlK k w r (j - i) ((xs.drop (i * k)).take ((j - i) * k)) → K r):xSl k v (some (.int ki (i:Int))) (some (.int kj (j:Int))) K:=by
 obtain ⟨h0,a,c,rfl,h2,h3,h4⟩:=hs
 have hik:i * k ≤ j * k:=Nat.mul_le_mul_right _ hi
 have hjk:j * k ≤ n * k:=Nat.mul_le_mul_right _ hj
 refine ⟨_,_,_,i,j,rfl,⟨kj,rfl⟩,⟨ki,rfl⟩,hi,by omega,h _ ⟨?_,_,_,rfl,by omega,by omega,?_⟩⟩
 ·rw [List.length_take,List.length_drop,Nat.sub_mul];omega
 ·rcases h4 with rfl | ⟨b,o,rfl,hc⟩
  ·exact .inl (by omega)
  ·by_cases hz:j - i = 0
   ·exact .inl hz
   ·refine .inr ⟨b,o + i * k,by rw [if_neg (by omega),Option.map_some,bE],fun m hm=>?_⟩
    rw [Nat.sub_mul] at hm ⊢
    rw [Nat.add_assoc,hc _ (by omega),List.getElem?_take,if_pos hm,List.getElem?_drop]
theorem NZ {k:Nat} {v:Value} {n i:Nat} {xs:List Value} {ki:IntKind} {K:Value → Prop} (hs:SlK k w v n xs) (hi:i ≤ n) (h:∀ r,SlK k w r (n - i) (xs.drop (i * k)) → K r):xSl k v (some (.int ki (i:Int))) none K:=by
 obtain ⟨h0,a,c,rfl,h2,h3,h4⟩:=hs
 have hik:i * k ≤ n * k:=Nat.mul_le_mul_right _ hi
 refine ⟨_,_,_,i,n,rfl,rfl,⟨ki,rfl⟩,hi,by omega,h _ ⟨?_,_,_,rfl,by omega,by omega,?_⟩⟩
 ·rw [List.length_drop,Nat.sub_mul];omega
 ·rcases h4 with rfl | ⟨b,o,rfl,hc⟩
  ·exact .inl (by omega)
  ·by_cases hz:n - i = 0
   ·exact .inl hz
   ·refine .inr ⟨b,o + i * k,by rw [if_neg (by omega),Option.map_some,bE],fun m hm=>?_⟩
    rw [Nat.sub_mul] at hm
    rw [Nat.add_assoc,hc _ (by omega),List.getElem?_drop]
theorem aFE {k:Nat} {t e:TypeId} {z:Option Value} {bytes:Nat} {v:Value} {n i j:Nat} {xs:List Value} {ki kj km:IntKind} {K:Value → Prop} (ht:P.underlying t = some (.slice e)) (hi0:(P.info? e).map (fun i=>(i.zero,i.size,i.bytes)) = some (z,k,bytes))
  (hs:SlK k w v n xs) (hi:i ≤ j) (hj:j ≤ n) (h:∀ r,SlK k w r (j - i) ((xs.drop (i * k)).take ((j - i) * k)) → K r):xR P w (Instr.sliceAt t v (some (.int ki (i:Int))) (some (.int kj (j:Int))) (some (.int km (j:Int)))) K:=by
 obtain ⟨ti,hti,h3⟩:=Option.map_eq_some_iff.1 hi0
 simp only [Prod.mk.injEq] at h3
 obtain ⟨-,hsz,-⟩:=h3
 obtain ⟨h0,a,c,rfl,h2,h3,h4⟩:=hs
 have hik:i * k ≤ j * k:=Nat.mul_le_mul_right _ hi
 have hjk:j * k ≤ n * k:=Nat.mul_le_mul_right _ hj
 refine ⟨.slice (if j = i then a else a.map (·.add (i * k))) (j - i) (j - i),fun w' _=>?_,h _ ⟨?_,_,_,rfl,Nat.le_refl _,by omega,?_⟩⟩
 ·have hb:(Instr.sliceBounds true n c (some (.int ki (i:Int))) (some (.int kj (j:Int))) (some (.int km (j:Int)))).run P w' = .ok (i,j,j) w':=by
   have hjc:j ≤ c:=by omega
   unfold Instr.sliceBounds
   simp [Instr.sliceBound,asIntOf,hi,hjc]
  simp [Instr.sliceAt,Instr.slice,cB ht,hb,dQ hti,hsz]
 ·rw [List.length_take,List.length_drop,Nat.sub_mul];omega
 ·rcases h4 with rfl | ⟨b,o,rfl,hc⟩
  ·exact .inl (by omega)
  ·by_cases hz:j - i = 0
   ·exact .inl hz
   ·refine .inr ⟨b,o + i * k,by rw [if_neg (by omega),Option.map_some,bE],fun m hm=>?_⟩
    rw [Nat.sub_mul] at hm ⊢
    rw [Nat.add_assoc,hc _ (by omega),List.getElem?_take,if_pos hm,List.getElem?_drop]
theorem iFld {sz f:Nat} {v x:Value} {n:Nat} {xs:List Value} {z:Int} {j:Nat} {k:IntKind} {K:Value → Prop} (hs:SlK sz w v n xs) (hz:z = (j:Int)) (h1:j < n) (hf:f < sz) (hx:xs[j * sz + f]? = some x) (h:K x):xIa sz v (.int k z) fun p=>xFa f p fun q=>xLd w q K:=by
 subst hz
 refine iIaK hs h1 fun b o hc=>?_
 refine ⟨_,rfl,?_⟩
 rw [bE]
 exact iLd ((hc f hf).trans hx) h
theorem aED {t t0 t1:TypeId} {a b c d:Int} {xo yo:Operand} {K:Value → Prop} (hu:P.underlying t = some (.struct (P.fieldsOf t))) (hp:P.stoodInHeld t = false) (hg:P.eqGuardType P.depth t = false)
  (hf : (P.fieldsOf t).toList.map (fun f => (f.name == "_", f.offset, f.type)) = [(false, 0, t0), (false, 1, t1)]) (h0 : P.underlying t0 = some (.int .i64)) (h1 : P.underlying t1 = some (.int .i64))
  (h:K (.bool (decide (¬ (a = c ∧ b = d))))):xR P w (do eqGuard .neq t xo yo (.agg #[.int .i64 a,.int .i64 b]) (.agg #[.int .i64 c,.int .i64 d]);binOp .neq t (.agg #[.int .i64 a,.int .i64 b]) (.agg #[.int .i64 c,.int .i64 d])) K:=by
 refine ⟨_,fun w' _=>?_,h⟩
 obtain ⟨f0, f1, hl, n0, n1, o0, o1, rfl, rfl⟩ : ∃ f0 f1, (P.fieldsOf t).toList = [f0, f1] ∧ ¬ f0.name = "_" ∧ ¬ f1.name = "_" ∧ f0.offset = 0 ∧ f1.offset = 1 ∧ f0.type = t0 ∧ f1.type = t1 := by
  generalize (P.fieldsOf t).toList = l at hf
  rcases l with _ | ⟨f0,_ | ⟨f1,_ | ⟨f2,l⟩⟩⟩ <;> simp at hf
  exact ⟨f0,f1,rfl,hf.1.1,hf.2.1,hf.1.2.1,hf.2.2.1,hf.1.2.2,hf.2.2.2⟩
 have pt:∀ (t:TypeId) (cs:Array Value) (o:Nat) (x:Value),P.underlying t = some (.int .i64) → cs[o]? = some x → (part t cs o).run P w' = .ok x w':=fun t cs o x ht hx=>by
  have hg:isAgg? P t = some false:=by simp [isAgg?,ht]
  simp [part,nP hg,hx]
 have eqn:∀ (d:Nat) (t:TypeId) (a b:Int),P.underlying t = some (.int .i64) → (Op.equalIn (d + 1) t (.int .i64 a) (.int .i64 b)).run P w' = .ok (a == b) w':=fun d t a b ht=>run_equalIn_int w' d t .i64 .i64 a b ht
 rw [Sem.run_bind,run_eqGuard_agg w' .neq t xo yo _ _ hg,Result.andThen_ok,run_neq_struct,run_equalIn_struct w' 9999 t _ _ hu hp,hl]
 simp only [Op.eqFields,ne_eq,n0,n1,not_false_eq_true,if_true,o0,o1,Sem.run_bind]
 rw [pt _ _ 0 (.int .i64 a) h0 rfl,Result.andThen_ok,pt _ _ 0 (.int .i64 c) h0 rfl,Result.andThen_ok,eqn 9998 _ a c h0,Result.andThen_ok]
 by_cases e1:a = c
 ·subst e1
  simp only [beq_self_eq_true,Bool.not_true,Bool.false_eq_true,if_false,Sem.run_bind]
  rw [pt _ _ 1 (.int .i64 b) h1 rfl,Result.andThen_ok,pt _ _ 1 (.int .i64 d) h1 rfl,Result.andThen_ok,eqn 9998 _ b d h1,Result.andThen_ok]
  by_cases e2:b = d <;> simp [e2]
 ·simp [e1]
end
end Go.Vc
namespace Go.Proofs.YteifjhpddhppcaaGreatDoor
open Go.Vc
theorem jY (k:Nat) (w:World):Ret Tryz.prog EP #[.int .i64 (k:Int)] w (.int .i64 (arity k:Int)):=by
 apply R6;unfold ED
 refine iEq ?_
 refine iJnB (decide (k = 2 ∨ k = 3 ∨ k = 4)) w (fun J hJ=>?_) (fun w2 h2=>?_)
 ·refine iCndP (fun h=>?_) (fun h=>?_)
  ·rw [decide_eq_true (.inl (by omega))] at hJ
   exact hJ _ (Ext.refl _)
  ·refine iEq ?_
   refine iJnB (decide (k = 2 ∨ k = 3 ∨ k = 4)) w (fun J' hJ'=>?_) (fun w4 h4=>?_)
   ·refine iCndP (fun h'=>?_) (fun h'=>?_)
    ·rw [decide_eq_true (.inr (.inl (by omega)))] at hJ'
     exact hJ' _ (Ext.refl _)
    ·refine iEq ?_
     rw [show decide (k = 2 ∨ k = 3 ∨ k = 4) = decide ((k:Int) = 4) from decide_eq_decide.2 (by omega)] at hJ'
     exact hJ' _ (Ext.refl _)
   ·intro _
    exact hJ _ h4
 ·intro _
  simp only [gx]
  refine iCndP (fun h=>?_) (fun h=>?_)
  ·rw [show (arity k:Int) = 2 by unfold arity;rw [if_pos h];rfl]
   exact ⟨by first | trivial | rfl,h2⟩
  ·refine iEq ?_
   refine iJnB (decide (k = 5 ∨ k = 6)) w2 (fun J hJ=>?_) (fun w6 h6=>?_)
   ·refine iCndP (fun h'=>?_) (fun h'=>?_)
    ·rw [decide_eq_true (.inl (by omega))] at hJ
     exact hJ _ (Ext.refl _)
    ·refine iEq ?_
     rw [show decide (k = 5 ∨ k = 6) = decide ((k:Int) = 6) from decide_eq_decide.2 (by omega)] at hJ
     exact hJ _ (Ext.refl _)
   ·intro _
    simp only [gx]
    refine iCndP (fun h'=>?_) (fun h'=>?_)
    ·rw [show (arity k:Int) = 1 by unfold arity;rw [if_neg h,if_pos h'];rfl]
     exact ⟨by first | trivial | rfl,h2.trans h6⟩
    ·rw [show (arity k:Int) = 0 by unfold arity;rw [if_neg h,if_neg h'];rfl]
     exact ⟨by first | trivial | rfl,h2.trans h6⟩
theorem xP (k:Nat) (w:World):Ret Tryz.prog AE #[.int .i64 (k:Int)] w (.int .i64 (arity k:Int)):=by
 apply QN;unfold A7
 refine iEq ?_
 refine iJnB (decide (k = 2 ∨ k = 3 ∨ k = 4)) w (fun J hJ=>?_) (fun w2 h2=>?_)
 ·refine iCndP (fun h=>?_) (fun h=>?_)
  ·rw [decide_eq_true (.inl (by omega))] at hJ
   exact hJ _ (Ext.refl _)
  ·refine iEq ?_
   refine iJnB (decide (k = 2 ∨ k = 3 ∨ k = 4)) w (fun J' hJ'=>?_) (fun w4 h4=>?_)
   ·refine iCndP (fun h'=>?_) (fun h'=>?_)
    ·rw [decide_eq_true (.inr (.inl (by omega)))] at hJ'
     exact hJ' _ (Ext.refl _)
    ·refine iEq ?_
     rw [show decide (k = 2 ∨ k = 3 ∨ k = 4) = decide ((k:Int) = 4) from decide_eq_decide.2 (by omega)] at hJ'
     exact hJ' _ (Ext.refl _)
   ·intro _
    exact hJ _ h4
 ·intro _
  simp only [gx]
  refine iCndP (fun h=>?_) (fun h=>?_)
  ·rw [show (arity k:Int) = 2 by unfold arity;rw [if_pos h];rfl]
   exact ⟨by first | trivial | rfl,h2⟩
  ·refine iEq ?_
   refine iJnB (decide (k = 5 ∨ k = 6)) w2 (fun J hJ=>?_) (fun w6 h6=>?_)
   ·refine iCndP (fun h'=>?_) (fun h'=>?_)
    ·rw [decide_eq_true (.inl (by omega))] at hJ
     exact hJ _ (Ext.refl _)
    ·refine iEq ?_
     rw [show decide (k = 5 ∨ k = 6) = decide ((k:Int) = 6) from decide_eq_decide.2 (by omega)] at hJ
     exact hJ _ (Ext.refl _)
   ·intro _
    simp only [gx]
    refine iCndP (fun h'=>?_) (fun h'=>?_)
    ·rw [show (arity k:Int) = 1 by unfold arity;rw [if_neg h,if_pos h'];rfl]
     exact ⟨by first | trivial | rfl,h2.trans h6⟩
    ·rw [show (arity k:Int) = 0 by unfold arity;rw [if_neg h,if_neg h'];rfl]
     exact ⟨by first | trivial | rfl,h2.trans h6⟩
theorem R7 {fs:List Fm} {f:Fm} {r xs:List Value} {i:Nat} (h:xs.drop (i * 2) = aI (f :: fs) ++ r):xs[i * 2 + 0]? = some (.int .i64 (f.kind:Int)) ∧ xs[i * 2 + 1]? = some (.int .i64 (f.sym:Int)) ∧ xs.drop ((i + 1) * 2) = aI (f.kids ++ fs) ++ r:=by
 have e:aI (f :: fs) ++ r = nd f.kind f.sym ++ (aI (f.kids ++ fs) ++ r):=by
  rw [wB]
  simp only [aI,List.flatMap_cons]
  rw [f.cells_kids]
  simp [aI]
 rw [e] at h
 refine ⟨?_,?_,?_⟩
 ·have:=congrArg (fun l=>l[0]?) h
  simpa [List.getElem?_drop] using this
 ·have:=congrArg (fun l=>l[1]?) h
  simpa [List.getElem?_drop] using this
 ·have:=congrArg (List.drop 2) h
  rw [List.drop_drop] at this
  rw [show (i + 1) * 2 = i * 2 + 2 by omega,this]
  rfl
theorem pK {v:Value} {n i:Nat} {xs:List Value} {f:Fm} {r:List Value} {w:World} (hs:SlK 2 w v n xs) (hx:xs.drop (i * 2) = f.cells ++ r) (hn:n ≤ 1099511627776):Ret Tryz.prog rU #[v,.int .i64 (i:Int)] w (.int .i64 ((i + f.size:Nat):Int)):=by
 apply CS;unfold rT
 have hlen:xs.length = n * 2:=hs.1
 refine iLp (fun s:Nat × List Fm=>[.int .i64 (s.1:Int),.int .i64 (s.2.length:Int)]) (fun s w'=>Ext w w' ∧ xs.drop (s.1 * 2) = aI s.2 ++ r ∧ s.1 + sizeL s.2 = i + f.size) (fun s=>sizeL s.2) (i,[f]) rfl ⟨Ext.refl _,by simpa [aI] using hx,by simp [sizeL]⟩ ?_
 rintro ⟨j,fs⟩ w2 Kn ⟨h2,hd,hsum⟩ hKn
 have hd:xs.drop (j * 2) = aI fs ++ r:=hd
 have hsum:j + sizeL fs = i + f.size:=hsum
 intro _
 simp only [gx]
 refine iLt ?_
 cases fs with
 | nil=>
  refine iCndF (by simp) ?_
  have:j = i + f.size:=by simpa [sizeL] using hsum
  exact ⟨by rw [this],h2⟩
 | cons g gs=>
  refine iCndT (by simp) ?_
  have hpos:1 ≤ sizeL (g :: gs):=by simp only [sizeL,List.map_cons,List.sum_cons];have:=g.size_pos;omega
  have hl:=congrArg List.length hd
  rw [List.length_drop,List.length_append,P6] at hl
  have hjn:j < n:=by omega
  refine iLenK (hs.ext h2) ?_
  refine iLe ?_
  refine iCndP (fun h=>by omega) (fun _=>?_)
  obtain ⟨hk,-,hd'⟩:=R7 hd
  refine iFld (hs.ext h2) rfl hjn (by decide) hk ?_
  refine iRet (jY g.kind w2) fun w3 h23=>?_
  have har:=g.arity_kids
  have hk2:g.kids.length ≤ 2:=by cases g <;> simp [Fm.kids]
  have hgl:=tH gs
  have hsg:sizeL (g :: gs) = g.size + sizeL gs:=by simp [sizeL]
  refine iSub (by omega) ?_
  refine iAdd (by rw [List.length_cons];omega) ?_
  refine iAdd (by omega) ?_
  rw [show ((g :: gs).length:Int) + ((arity g.kind:Int) - 1) = ((g.kids ++ gs).length:Int) by rw [har,List.length_append,List.length_cons];omega]
  have hgk:=g.size_kids
  exact hKn (j + 1,g.kids ++ gs) _ ⟨h2.trans h23,hd',by show j + 1 + sizeL (g.kids ++ gs) = _;rw [kS];omega⟩ (by show sizeL (g.kids ++ gs) < sizeL (g :: gs);rw [kS];omega)
theorem zV {v:Value} {n i:Nat} {xs:List Value} {f:Fm} {r:List Value} {w:World} (hs:SlK 2 w v n xs) (hx:xs.drop (i * 2) = f.cells ++ r) (hn:n ≤ 1099511627776):Ret Tryz.prog r1 #[v,.int .i64 (i:Int)] w (.int .i64 ((i + f.size:Nat):Int)):=by
 apply D1;unfold rG
 have hlen:xs.length = n * 2:=hs.1
 refine iLp (fun s:Nat × List Fm=>[.int .i64 (s.1:Int),.int .i64 (s.2.length:Int)]) (fun s w'=>Ext w w' ∧ xs.drop (s.1 * 2) = aI s.2 ++ r ∧ s.1 + sizeL s.2 = i + f.size) (fun s=>sizeL s.2) (i,[f]) rfl ⟨Ext.refl _,by simpa [aI] using hx,by simp [sizeL]⟩ ?_
 rintro ⟨j,fs⟩ w2 Kn ⟨h2,hd,hsum⟩ hKn
 have hd:xs.drop (j * 2) = aI fs ++ r:=hd
 have hsum:j + sizeL fs = i + f.size:=hsum
 intro _
 simp only [gx]
 refine iLt ?_
 cases fs with
 | nil=>
  refine iCndF (by simp) ?_
  have:j = i + f.size:=by simpa [sizeL] using hsum
  exact ⟨by rw [this],h2⟩
 | cons g gs=>
  refine iCndT (by simp) ?_
  have hpos:1 ≤ sizeL (g :: gs):=by simp only [sizeL,List.map_cons,List.sum_cons];have:=g.size_pos;omega
  have hl:=congrArg List.length hd
  rw [List.length_drop,List.length_append,P6] at hl
  have hjn:j < n:=by omega
  refine iLenK (hs.ext h2) ?_
  refine iLe ?_
  refine iCndP (fun h=>by omega) (fun _=>?_)
  obtain ⟨hk,-,hd'⟩:=R7 hd
  have har:=g.arity_kids
  have hk2:g.kids.length ≤ 2:=by cases g <;> simp [Fm.kids]
  have hgl:=tH gs
  have hsg:sizeL (g :: gs) = g.size + sizeL gs:=by simp [sizeL]
  refine iSub (by rw [List.length_cons];omega) ?_
  refine iFld (hs.ext h2) rfl hjn (by decide) hk ?_
  refine iRet (xP g.kind w2) fun w3 h23=>?_
  refine iAdd (by rw [List.length_cons];omega) ?_
  refine iAdd (by omega) ?_
  rw [show ((g :: gs).length:Int) - 1 + (arity g.kind:Int) = ((g.kids ++ gs).length:Int) by rw [har,List.length_append,List.length_cons];omega]
  have hgk:=g.size_kids
  exact hKn (j + 1,g.kids ++ gs) _ ⟨h2.trans h23,hd',by show j + 1 + sizeL (g.kids ++ gs) = _;rw [kS];omega⟩ (by show sizeL (g.kids ++ gs) < sizeL (g :: gs);rw [kS];omega)
theorem rP {f g:Fm} {gs:List Fm} (hk:f.kids = g :: gs):f.cells.drop (1 * 2) = g.cells ++ aI gs:=by
 rw [f.cells_kids,hk];simp [aI]
theorem V6 {f g h:Fm} (hk:f.kids = [g,h]):f.cells.drop ((1 + g.size) * 2) = h.cells ++ [] ∧ f.size = 1 + g.size + h.size:=by
 refine ⟨?_,by have:=f.size_kids;rw [hk] at this;simp [sizeL] at this;omega⟩
 rw [f.cells_kids,hk,show (1 + g.size) * 2 = 2 + g.cells.length by rw [g.cells_len];omega,← List.drop_drop]
 simp [aI]
theorem I3 {v:Value} {n i:Nat} {xs:List Value} {f:Fm} {r:List Value} {w:World} (hs:SlK 2 w v n xs) (hx:xs.drop (i * 2) = f.cells ++ r) (hin:i + f.size ≤ n) (hn:n ≤ 1099511627776):Cal Tryz.prog M2 #[v,.int .i64 (i:Int)] w fun u w'=>Ext w w' ∧ FmS w' u f:=by
 apply YF;unfold MU
 refine iRet (pK hs hx hn) fun w1 h1=>?_
 refine iRet (pK (hs.ext h1) hx hn) fun w2 h2=>?_
 refine aFE eN eR ((hs.ext h1).ext h2) (by omega) hin fun u hu=>⟨h1.trans h2,?_⟩
 rw [hx,Nat.add_sub_cancel_left,← f.cells_len,List.take_left] at hu
 exact hu
theorem aO {v:Value} {f g:Fm} {gs:List Fm} {w:World} (hs:FmS w v f) (hk:f.kids = g :: gs) (hn:f.size ≤ 1099511627776):Cal Tryz.prog IX #[v] w fun u w'=>Ext w w' ∧ FmS w' u g:=by
 apply W1;unfold JM
 have hsz:=f.size_kids
 rw [hk] at hsz
 simp only [sizeL,List.map_cons,List.sum_cons] at hsz
 refine iCall ((I3 (i:=1) hs (rP hk) (by omega) hn).mono ?_)
 rintro u w1 ⟨h1,hu⟩
 exact ⟨h1,hu⟩
theorem aU {v:Value} {f g h:Fm} {w:World} (hs:FmS w v f) (hk:f.kids = [g,h]) (hn:f.size ≤ 1099511627776):Cal Tryz.prog F8 #[v] w fun u w'=>Ext w w' ∧ FmS w' u h:=by
 apply UV;unfold GY
 obtain ⟨hd,hsz⟩:=V6 hk
 refine iRet (pK (i:=1) hs (rP hk) hn) fun w1 h1=>?_
 refine iCall ((I3 (i:=1 + g.size) (hs.ext h1) hd (by omega) hn).mono ?_)
 rintro u w2 ⟨h2,hu⟩
 exact ⟨h1.trans h2,hu⟩
theorem aP {w:World} {v:Value} {f:Fm} (hs:FmS w v f):f.cells[0 * 2 + 0]? = some (.int .i64 (f.kind:Int)) ∧ f.cells[0 * 2 + 1]? = some (.int .i64 (f.sym:Int)):=by
 have _:=hs
 rw [f.cells_kids]
 simp [nd]
end Go.Proofs.YteifjhpddhppcaaGreatDoor

namespace Go.Proofs.YteifjhpddhppcaaGreatDoor
open Go.Vc
theorem xJ {v:Value} {f:Fm} {w:World} (hs:FmS w v f):Ret Tryz.prog z6 #[v] w (.bool (decide (f = .fls))):=by
 apply PX;unfold AS
 refine iFld (j:=0) hs rfl f.size_pos (by decide) (aP hs).1 ?_
 refine iEq ⟨?_,Ext.refl _⟩
 congr 1
 refine decide_eq_decide.2 ?_
 cases f <;> simp [Fm.kind]
theorem tV {v:Value} {f:Fm} {w:World} (hs:FmS w v f) (hn:f.size ≤ 1099511627776):Ret Tryz.prog uX #[v] w (.bool f.isNeg):=by
 apply MG;unfold uR
 refine iJnB f.isNeg w (fun J hJ=>?_) (fun w2 h2=>fun _=>⟨by first | trivial | rfl,h2⟩)
 refine iFld (j:=0) hs rfl f.size_pos (by decide) (aP hs).1 ?_
 refine iEq ?_
 refine iCndP (fun h=>?_) (fun h=>?_)
 ·cases f <;> simp only [Fm.kind] at h <;> (try omega)
  rename_i a b
  refine iCall ((aU (g:=a) (h:=b) hs rfl hn).mono ?_)
  rintro u w3 ⟨h3,hu⟩
  exact iRet (xJ hu) fun w4 h4=>hJ _ (h3.trans h4)
 ·cases f <;> first | exact hJ _ (Ext.refl _) | (simp [Fm.kind] at h)
theorem PQ {v:Value} {f:Fm} {w:World} (hs:FmS w v f) (hn:f.size ≤ 1099511627776):Ret Tryz.prog C8 #[v] w (.int .i64 (f.own:Int)):=by
 apply R3;unfold CO
 refine iJnB (decide (f.kind = 4) && !f.isNeg) w (fun J hJ=>?_) (fun w2 h2=>?_)
 ·refine iFld (j:=0) hs rfl f.size_pos (by decide) (aP hs).1 ?_
  refine iEq ?_
  refine iCndP (fun h=>?_) (fun h=>?_)
  ·rw [decide_eq_true (show f.kind = 4 by omega),Bool.true_and] at hJ
   refine iRet (tV hs hn) fun w3 h3=>?_
   exact iNot (hJ _ h3)
  ·rw [decide_eq_false (show ¬ f.kind = 4 by omega),Bool.false_and] at hJ
   exact hJ _ (Ext.refl _)
 ·intro _
  simp only [gx]
  have hs2:=hs.ext h2
  cases hc:decide (f.kind = 4) && !f.isNeg
  ·refine iCndF rfl ?_
   refine iFld (j:=0) hs2 rfl f.size_pos (by decide) (aP hs).1 ?_
   refine iEq ?_
   refine iCndP (fun h=>?_) (fun h=>?_)
   ·refine ⟨?_,h2⟩
    cases f <;> simp only [Fm.kind] at h <;> first | omega | rfl
   ·refine iFld (j:=0) hs2 rfl f.size_pos (by decide) (aP hs).1 ?_
    refine iEq ?_
    refine iCndP (fun h'=>?_) (fun h'=>?_)
    ·refine ⟨?_,h2⟩
     cases f <;> simp only [Fm.kind] at h' <;> first | omega | rfl
    ·refine ⟨?_,h2⟩
     cases f <;> simp [Fm.kind,Fm.isNeg] at h h' hc <;> simp [Fm.own,hc]
  ·refine iCndT rfl ⟨?_,h2⟩
   cases f <;> simp [Fm.kind,Fm.isNeg] at hc
   simp [Fm.own,hc]
end Go.Proofs.YteifjhpddhppcaaGreatDoor

namespace Go.Vc
theorem TM {v:Nat} (hv:v < 6):(([112,113,114,115,116,117]:Str).drop v).take (v + 1 - v) = [vl v]:=by
 have:∀ v:Fin 6,(([112,113,114,115,116,117]:Str).drop v.val).take (v.val + 1 - v.val) = [vl v.val]:=by decide
 exact this ⟨v,hv⟩
theorem aD7 {f:Fm} {lv:Nat} (h:f.own < lv):f.txt lv = [40] ++ f.txt 0 ++ [41]:=by
 rw [nX h,c0 (Nat.zero_le _)];simp
def pCode (t:Str):Int:=if 200 < t.length then 3 else if rdOk t then (if 40 < (rd t).1.size then 3 else 0) else 6
def pAt (t:Str):Nat:=if 200 < t.length then 0 else if rdOk t then 0 else rdAt t
theorem oO {t:Str} (h:pCode t = 0):(rd t).1.size ≤ 40 ∧ t.length ≤ 200 ∧ rdOk t = true:=by
 unfold pCode at h
 split at h
 ·cases h
 ·split at h
  ·split at h
   ·cases h
   ·rename_i h1 h2 h3;exact ⟨by omega,by omega,h2⟩
  ·cases h
def goodT (t:Str):Bool:=decide (pCode t = 0) && decide ((rd t).1.body = t)
end Go.Vc
namespace Go.Proofs.YteifjhpddhppcaaGreatDoor
open Go.Vc
theorem rX:∀ (m:Nat) {v:Value} {f:Fm} {lv:Nat} {w:World},2 * f.size + (if f.own < lv then 1 else 0) ≤ m → FmS w v f → f.good → f.size ≤ 1099511627776 → lv ≤ 3 → Ret Tryz.prog uF #[v,.int .i64 (lv:Int)] w (sv (f.txt lv))
 | 0,v,f,lv,w,hm,_,_,_,_=>by have:=f.size_pos;omega
 | m + 1,v,f,lv,w,hm,hs,hg,hn,hlv=>by
  apply UU;unfold GQ
  have hbl:=body_len f
  have htl:=fun lv=>cM lv f
  refine iRet (PQ hs hn) fun w1 h1=>?_
  have hs1:=hs.ext h1
  refine iLt ?_
  refine iCndP (fun h=>?_) (fun h=>?_)
  ·have h:f.own < lv:=by omega
   rw [if_pos h] at hm
   refine iRet (rX m (lv:=0) (by rw [if_neg (by omega)];omega) hs1 hg hn (by decide)) fun w2 h2=>?_
   have:=htl 0
   refine iCat (a:=[40]) (by simp only [List.length_singleton];omega) ?_
   refine iCat (b:=[41]) (by simp only [List.length_append,List.length_singleton];omega) ?_
   rw [← aD7 h]
   exact ⟨by first | trivial | rfl,h1.trans h2⟩
  ·have h:lv ≤ f.own:=by omega
   rw [c0 h]
   rw [if_neg (by omega)] at hm
   have hk:=aP hs
   refine iFld (j:=0) hs1 rfl f.size_pos (by decide) hk.1 ?_
   -- any part of the formula, at any level
   have sub:∀ {g:Fm} {u:Value} {w':World} {l:Nat},g.size < f.size → FmS w' u g → g.good → l ≤ 3 → Ret Tryz.prog uF #[u,.int .i64 (l:Int)] w' (sv (g.txt l)):=fun {g u w' l} h1 h2 h3 h4=>
    rX m (by split <;> omega) h2 h3 (by omega) h4
   cases f with
   | var x=>
    refine iEq (iCndT rfl ?_)
    refine iFld (j:=0) hs1 rfl (Fm.size_pos _) (by decide) hk.2 ?_
    refine iFld (j:=0) hs1 rfl (Fm.size_pos _) (by decide) hk.2 ?_
    have hx:x < 6:=hg
    refine iAdd (by show _ ≤ (x:Int) + 1 ∧ (x:Int) + 1 ≤ _;omega) ?_
    refine CW (l:=[112,113,114,115,116,117]) (i:=x) (j:=x + 1) (by omega) (by show x + 1 ≤ 6;omega) ?_
    intro w3 h3
    rw [TM hx]
    exact ⟨by first | trivial | rfl,h1.trans h3⟩
   | fls=>
    refine iEq (iCndF rfl (iEq (iCndT rfl ?_)))
    exact ⟨by first | trivial | rfl,h1⟩
   | and a b=>
    refine iEq (iCndF rfl (iEq (iCndF rfl (iEq (iCndT rfl ?_)))))
    simp only [Fm.size] at hn
    have ha:=cM 2 a
    have hb:=cM 3 b
    refine iCall ((aO hs1 (g:=a) (gs:=[b]) rfl (by simp only [Fm.size];omega)).mono ?_)
    rintro u w4 ⟨h4,hu⟩
    refine iRet (sub (l:=2) (by simp only [Fm.size];omega) hu hg.1 (by decide)) fun w5 h5=>?_
    refine iCat (b:=[38]) (by simp only [List.length_singleton];omega) ?_
    have hs5:=(hs1.ext h4).ext h5
    refine iCall ((aU hs5 (g:=a) (h:=b) rfl (by simp only [Fm.size];omega)).mono ?_)
    rintro u' w6 ⟨h6,hu'⟩
    refine iRet (sub (l:=3) (by simp only [Fm.size];omega) hu' hg.2 (by decide)) fun w7 h7=>?_
    refine iCat (by simp only [List.length_append,List.length_singleton];omega) ?_
    refine ⟨?_,(((h1.trans h4).trans h5).trans h6).trans h7⟩
    simp [Fm.body,Fm.txt]
   | or a b=>
    refine iEq (iCndF rfl (iEq (iCndF rfl (iEq (iCndF rfl (iEq (iCndT rfl ?_)))))))
    simp only [Fm.size] at hn
    have ha:=cM 1 a
    have hb:=cM 2 b
    refine iCall ((aO hs1 (g:=a) (gs:=[b]) rfl (by simp only [Fm.size];omega)).mono ?_)
    rintro u w4 ⟨h4,hu⟩
    refine iRet (sub (l:=1) (by simp only [Fm.size];omega) hu hg.1 (by decide)) fun w5 h5=>?_
    refine iCat (b:=[124]) (by simp only [List.length_singleton];omega) ?_
    have hs5:=(hs1.ext h4).ext h5
    refine iCall ((aU hs5 (g:=a) (h:=b) rfl (by simp only [Fm.size];omega)).mono ?_)
    rintro u' w6 ⟨h6,hu'⟩
    refine iRet (sub (l:=2) (by simp only [Fm.size];omega) hu' hg.2 (by decide)) fun w7 h7=>?_
    refine iCat (by simp only [List.length_append,List.length_singleton];omega) ?_
    refine ⟨?_,(((h1.trans h4).trans h5).trans h6).trans h7⟩
    simp [Fm.body,Fm.txt]
   | box a=>
    refine iEq (iCndF rfl (iEq (iCndF rfl (iEq (iCndF rfl (iEq (iCndF rfl (iEq (iCndT rfl ?_)))))))))
    simp only [Fm.size] at hn
    have ha:=cM 3 a
    refine iCall ((aO hs1 (g:=a) (gs:=[]) rfl (by simp only [Fm.size];omega)).mono ?_)
    rintro u w4 ⟨h4,hu⟩
    refine iRet (sub (l:=3) (by simp only [Fm.size];omega) hu hg (by decide)) fun w5 h5=>?_
    refine iCat (a:=[91,93]) (by simp only [List.length_cons,List.length_nil];omega) ?_
    exact ⟨by first | trivial | rfl,(h1.trans h4).trans h5⟩
   | dia a=>
    refine iEq (iCndF rfl (iEq (iCndF rfl (iEq (iCndF rfl (iEq (iCndF rfl (iEq (iCndF rfl (iEq (iCndT rfl ?_)))))))))))
    simp only [Fm.size] at hn
    have ha:=cM 3 a
    refine iCall ((aO hs1 (g:=a) (gs:=[]) rfl (by simp only [Fm.size];omega)).mono ?_)
    rintro u w4 ⟨h4,hu⟩
    refine iRet (sub (l:=3) (by simp only [Fm.size];omega) hu hg (by decide)) fun w5 h5=>?_
    refine iCat (a:=[60,62]) (by simp only [List.length_cons,List.length_nil];omega) ?_
    exact ⟨by first | trivial | rfl,(h1.trans h4).trans h5⟩
   | imp a b=>
    refine iEq (iCndF rfl (iEq (iCndF rfl (iEq (iCndF rfl (iEq (iCndF rfl (iEq (iCndF rfl (iEq (iCndF rfl ?_)))))))))))
    refine iRet (tV hs1 hn) fun w16 h16=>?_
    have hs16:=hs1.ext h16
    have h16':=h1.trans h16
    simp only [Fm.size] at hn
    refine iNot ?_
    have hbd:(Fm.imp a b).body = if b = .fls then (if a = .fls then [84] else 126 :: par (decide (a.own < 3)) a.body) else par (decide (a.own < 1)) a.body ++ 62 :: b.body:=by rw [Fm.body]
    rw [hbd]
    by_cases hb:b = .fls
    ·rw [if_pos hb]
     refine iCndF (by simp [Fm.isNeg,hb]) ?_
     refine iCall ((aO hs16 (g:=a) (gs:=[b]) rfl (by simp only [Fm.size];omega)).mono ?_)
     rintro u w21 ⟨h21,hu⟩
     refine iRet (xJ hu) fun w22 h22=>?_
     have hs22:=(hs16.ext h21).ext h22
     have h22':=(h16'.trans h21).trans h22
     refine iCndP (fun ha=>?_) (fun ha=>?_)
     ·rw [if_pos ha]
      exact ⟨by first | trivial | rfl,h22'⟩
     ·rw [if_neg ha]
      have hal:=cM 3 a
      refine iCall ((aO hs22 (g:=a) (gs:=[b]) rfl (by simp only [Fm.size];omega)).mono ?_)
      rintro u' w23 ⟨h23,hu'⟩
      refine iRet (sub (l:=3) (by simp only [Fm.size];omega) hu' hg.1 (by decide)) fun w24 h24=>?_
      refine iCat (a:=[126]) (by simp only [List.length_singleton];omega) ?_
      exact ⟨by first | trivial | rfl,(h22'.trans h23).trans h24⟩
    ·rw [if_neg hb]
     refine iCndT (by simp [Fm.isNeg,hb]) ?_
     have ha1:=cM 1 a
     have hb0:=cM 0 b
     refine iCall ((aO hs16 (g:=a) (gs:=[b]) rfl (by simp only [Fm.size];omega)).mono ?_)
     rintro u w17 ⟨h17,hu⟩
     refine iRet (sub (l:=1) (by simp only [Fm.size];omega) hu hg.1 (by decide)) fun w18 h18=>?_
     refine iCat (b:=[62]) (by simp only [List.length_singleton];omega) ?_
     have hs18:=(hs16.ext h17).ext h18
     refine iCall ((aU hs18 (g:=a) (h:=b) rfl (by simp only [Fm.size];omega)).mono ?_)
     rintro u' w19 ⟨h19,hu'⟩
     refine iRet (sub (l:=0) (by simp only [Fm.size];omega) hu' hg.2 (by decide)) fun w20 h20=>?_
     refine iCat (by simp only [List.length_append,List.length_singleton];omega) ?_
     refine ⟨?_,(((h16'.trans h17).trans h18).trans h19).trans h20⟩
     simp [Fm.txt,par]
theorem bD {v:Value} {f:Fm} {w:World} (hs:FmS w v f) (hg:f.good) (hn:f.size ≤ 1099511627776):Ret Tryz.prog MS #[v] w (sv f.body):=by
 apply XK;unfold MZ
 refine iRet (rX _ (lv:=0) (Nat.le_refl _) hs hg hn (by decide)) fun w1 h1=>?_
 rw [c0 (Nat.zero_le _)]
 exact ⟨by first | trivial | rfl,h1⟩
theorem FmW.some {lo:Nat} {w:World} {v:Value} {f:Fm} (h:FmW lo w v f):∃ g c,lo ≤ g ∧ g < w.heap.size ∧ v = .slice (some ⟨g,0,none⟩) f.size c:=by
 obtain ⟨_,⟨_,h0⟩ | ⟨g,cap,cur,hv,hg,hh,_⟩⟩:=h
 ·have:=f.size_pos;omega
 ·exact ⟨g,cap,hg,cP hh,hv⟩
theorem oR (t:Str) (w:World):Cal Tryz.prog qW #[sv t] w fun r w'=>Ext w w' ∧ ∃ v,r = .tuple #[v,.int .i64 (pAt t:Int),.int .i64 (pCode t)] ∧ (pCode t = 0 → FmW w.heap.size w' v (rd t).1) ∧ (¬ pCode t = 0 → v = .slice none 0 0):=by
 apply H5;unfold qI
 refine iLenT ?_
 refine iLt ?_
 refine iCndP (fun h=>?_) (fun h=>?_)
 ·have e1:pCode t = 3:=by unfold pCode;rw [if_pos (by omega)]
  have e2:pAt t = 0:=by unfold pAt;rw [if_pos (by omega)]
  rw [e1,e2]
  exact ⟨Ext.refl _,_,rfl,(fun h=>by cases h),fun _=>rfl⟩
 ·have e1:pCode t = if rdOk t then (if 40 < (rd t).1.size then 3 else 0) else 6:=by unfold pCode;rw [if_neg (by omega)]
  have e2:pAt t = if rdOk t then 0 else rdAt t:=by unfold pAt;rw [if_neg (by omega)]
  refine bB (cs:=#[sv t,.int .i64 0,.bool false]) (by simp [Instr.fill,Value.cells]) ?_
  refine iNew fun b w1 hb h1 hB=>?_
  refine iCall ((o9 (by omega) (RdS.new hB)).mono ?_)
  rintro v w2 ⟨h2,hc2,hv2⟩
  rw [← O7] at h2 hv2
  have hX2:Ext w w2:=h1.thenCh hc2 fun c hc=>by omega
  have hB2:=h2.place
  have hrl:=aBG t
  refine iJnB (!rdOk t) w2 (fun J hJ=>?_) (fun w4 h4=>?_)
  ·unfold rdOk at hJ
   ((with_reducible refine iNil ?_;refine iFa ?_);refine iLdB (by assumption) (by first | rfl | simp) ?_)
   cases hbad:(rd t).2.2
   ·rw [hbad] at hJ
    refine iCndF rfl ?_
    ((with_reducible refine iNil ?_;refine iFa ?_);refine iLdB (by assumption) (by first | rfl | simp) ?_)
    refine iLenT ?_
    ((with_reducible refine iLt ?_))
    have:decide (((t.length - (rd t).2.1.length:Nat):Int) < (t.length:Nat)) = !(!false && decide ((rd t).2.1 = [])):=by
     by_cases he:(rd t).2.1 = []
     ·rw [he];simp
     ·have:1 ≤ (rd t).2.1.length:=by
       rcases Nat.eq_zero_or_pos (rd t).2.1.length with h0 | h0
       ·exact absurd (List.length_eq_zero_iff.1 h0) he
       ·exact h0
      simp [he];omega
    rw [this]
    exact hJ w2 (Ext.refl _)
   ·rw [hbad] at hJ
    exact iCndT rfl (hJ w2 (Ext.refl _))
  ·intro _
   simp only [gx]
   have hB4:=hB2.ext h4
   cases hok:rdOk t
   ·refine iCndT rfl ?_
    rw [e1,e2,hok]
    ((with_reducible refine iNil ?_;refine iFa ?_);refine iLdB (by assumption) (by first | rfl | simp) ?_)
    intro w5 h5
    exact ⟨(hX2.trans h4).trans h5,_,rfl,(fun h=>by cases h),fun _=>rfl⟩
   ·refine iCndF rfl ?_
    have hv4:=OwK.ext hv2 h4
    rw [e1,e2,hok]
    refine iLenK hv4.sl ?_
    refine iLt ?_
    refine iCndP (fun h'=>?_) (fun h'=>?_)
    ·rw [if_pos rfl,if_pos (show 40 < (rd t).1.size by omega)]
     exact ⟨hX2.trans h4,_,rfl,(fun h=>by cases h),fun _=>rfl⟩
    ·rw [if_pos rfl,if_neg (show ¬ 40 < (rd t).1.size by omega)]
     exact ⟨hX2.trans h4,_,rfl,fun _=>hv4.mono h1.size,fun h=>absurd rfl h⟩
theorem bH (t:Str) (w:World):Cal Tryz.prog GF #[sv t] w fun v w'=>Ext w w' ∧ (pCode t = 0 → FmW w.heap.size w' v (rd t).1) ∧ (¬ pCode t = 0 → v = .slice none 0 0):=by
 apply UM;unfold GR
 refine iCall ((oR t w).mono ?_)
 rintro r w1 ⟨h1,v,rfl,hv,hn⟩
 refine iE30 ?_
 refine iE31 ?_
 refine iE32 ?_
 exact ⟨h1,hv,hn⟩
theorem DF (t:Str) (w:World):Ret Tryz.prog GL #[sv t] w (.bool (goodT t)):=by
 apply UK;unfold GK
 refine iCall ((bH t w).mono ?_)
 rintro v w1 ⟨h1,hv,hn⟩
 refine iJnB (goodT t) w1 (fun J hJ=>?_) (fun w3 h3=>fun _=>⟨by first | trivial | rfl,h1.trans h3⟩)
 unfold goodT at hJ
 by_cases hc:pCode t = 0
 ·rw [decide_eq_true hc,Bool.true_and] at hJ
  have hs:=(hv hc).sl
  obtain ⟨g,c,-,-,he⟩:=FmW.some (hv hc)
  subst he
  refine ⟨trivial,rfl,?_⟩
  refine iCndT rfl ?_
  refine iRet (bD hs (EL t) (by have:=(oO hc).1;omega)) fun w4 h4=>?_
  exact iEqT (hJ _ h4)
 ·rw [decide_eq_false hc,Bool.false_and] at hJ
  rw [hn hc]
  exact ⟨trivial,rfl,iCndF rfl (hJ _ (Ext.refl _))⟩
end Go.Proofs.YteifjhpddhppcaaGreatDoor

namespace Go.Proofs.YteifjhpddhppcaaGreatDoor
open Go.Vc
theorem aL {v:Value} {f g:Fm} {gs:List Fm} {w:World} (hs:FmS w v f) (hk:f.kids = g :: gs) (hn:f.size ≤ 1099511627776):Cal Tryz.prog B7 #[v] w fun u w'=>Ext w w' ∧ FmS w' u g:=by
 apply TG;unfold CA
 have hsz:=f.size_kids
 rw [hk] at hsz
 simp only [sizeL,List.map_cons,List.sum_cons] at hsz
 refine iRet (zV (i:=1) hs (rP hk) hn) fun w1 h1=>?_
 refine iSlK (i:=1) (j:=1 + g.size) (hs.ext h1) (by omega) (by omega) fun u hu=>⟨h1,?_⟩
 rw [rP hk,Nat.add_sub_cancel_left,← g.cells_len,List.take_left] at hu
 exact hu
theorem aK {v:Value} {f g h:Fm} {w:World} (hs:FmS w v f) (hk:f.kids = [g,h]) (hn:f.size ≤ 1099511627776):Cal Tryz.prog zP #[v] w fun u w'=>Ext w w' ∧ FmS w' u h:=by
 apply RJ;unfold AT
 obtain ⟨hd,hsz⟩:=V6 hk
 refine iRet (zV (i:=1) hs (rP hk) hn) fun w1 h1=>?_
 refine NZ (i:=1 + g.size) (hs.ext h1) (by omega) fun u hu=>⟨h1,?_⟩
 rw [hd,List.append_nil,hsz,Nat.add_sub_cancel_left] at hu
 exact hu
theorem ZG {w:World} {v:Value} {f g:Fm} (hs:SlK 2 w v (f.size - 1) (f.cells.drop (1 * 2))) (hk:f.kids = [g]):FmS w v g:=by
 rw [rP hk] at hs
 have:=f.size_kids
 rw [hk] at this
 simp only [sizeL,List.map_cons,List.map_nil,List.sum_cons,List.sum_nil] at this
 rw [this,Nat.add_sub_cancel_left] at hs
 simpa [aI] using hs
theorem T8 {f:Fm} {i:Nat} (hi:i < f.size):∃ a b:Int,f.cells[i * 2]? = some (.int .i64 a) ∧ f.cells[i * 2 + 1]? = some (.int .i64 b):=by
 suffices H:∀ (n:Nat) (fs:List Fm),sizeL fs ≤ n → ∀ i,i < sizeL fs → ∃ a b:Int,(aI fs)[i * 2]? = some (.int .i64 a) ∧ (aI fs)[i * 2 + 1]? = some (.int .i64 b) by
  have:=H (sizeL [f]) [f] (Nat.le_refl _) i (by simpa [sizeL] using hi)
  simpa [aI] using this
 intro n
 induction n with
 | zero=>intro fs h i hi;omega
 | succ n ih=>
  intro fs h i hi
  cases fs with
  | nil=>simp [sizeL] at hi
  | cons g gs=>
   have e:aI (g :: gs) = nd g.kind g.sym ++ aI (g.kids ++ gs):=by
    rw [wB]
    simp only [aI,List.flatMap_cons]
    rw [g.cells_kids]
    simp [aI]
   have hsz:sizeL (g :: gs) = 1 + sizeL (g.kids ++ gs):=by rw [kS];have:=g.size_kids;simp only [sizeL,List.map_cons,List.sum_cons] at this ⊢;omega
   rw [e]
   cases i with
   | zero=>exact ⟨_,_,rfl,rfl⟩
   | succ i=>
    obtain ⟨a,b,h1,h2⟩:=ih (g.kids ++ gs) (by omega) i (by omega)
    refine ⟨a,b,?_,?_⟩
    ·rw [show (i + 1) * 2 = i * 2 + 1 + 1 by omega];simpa [nd] using h1
    ·rw [show (i + 1) * 2 + 1 = i * 2 + 1 + 1 + 1 by omega];simpa [nd] using h2
theorem iLdK {sz:Nat} {v:Value} {n:Nat} {xs:List Value} {cs:Array Value} {z:Int} {j:Nat} {k:IntKind} {w:World} {K:Value → Prop} (hs:SlK sz w v n xs) (hz:z = (j:Int)) (h1:j < n) (hc:cs.size = sz) (hx:∀ i,i < sz → xs[j * sz + i]? = cs[i]?) (h:K (.agg cs)):xIa sz v (.int k z) fun p=>xLdA w sz p K:=by
 subst hz
 refine iIaK hs h1 fun b o hcell=>?_
 refine ⟨_,cs,rfl,hc,fun i hi=>?_,h⟩
 rw [bE,hcell i hi,hx i hi]
theorem xC {v0 v1:Value} {f g:Fm} {w:World} (h0:FmS w v0 f) (h1:FmS w v1 g) (hn:f.size ≤ 1099511627776):Ret Tryz.prog BD #[v0,v1] w (.bool (decide (f = g))):=by
 apply QC;unfold zN
 refine iLenK h0 ?_
 refine iLenK h1 ?_
 refine iNe ?_
 refine iCndP (fun h=>?_) (fun h=>?_)
 ·rw [decide_eq_false (show ¬ f = g from fun e=>h (by rw [e]))]
  exact ⟨by first | trivial | rfl,Ext.refl _⟩
 ·have hl:f.size = g.size:=by omega
  refine iLp (fun i:Nat=>[.int .i64 (i:Int)]) (fun i w'=>i ≤ f.size ∧ Ext w w' ∧ ∀ j,j < i * 2 → f.cells[j]? = g.cells[j]?) (fun i=>f.size - i) 0 rfl ⟨Nat.zero_le _,Ext.refl _,fun j hj=>by omega⟩ ?_
  rintro i w2 Kn ⟨hi,h2,he⟩ hKn
  intro _
  simp only [gx]
  refine iLenK (h0.ext h2) ?_
  refine iLt ?_
  refine iCndP (fun h3=>?_) (fun h3=>?_)
  ·obtain ⟨a,b,ha,hb⟩:=T8 (f:=f) (i:=i) (by omega)
   obtain ⟨c,d,hc,hd⟩:=T8 (f:=g) (i:=i) (by omega)
   refine iLdK (cs:=#[.int .i64 a,.int .i64 b]) (h0.ext h2) rfl (by omega) rfl (fun j hj=>by rcases j with _ | _ | j;exact ha;exact hb;omega) ?_
   refine iLdK (cs:=#[.int .i64 c,.int .i64 d]) (h1.ext h2) rfl (by omega) rfl (fun j hj=>by rcases j with _ | _ | j;exact hc;exact hd;omega) ?_
   refine aED (t0:=2) (t1:=2) (by kernel_rfl) (by kernel_rfl) (by kernel_rfl) (by kernel_rfl) (by kernel_rfl) (by kernel_rfl) ?_
   intro w3 h23
   refine iCndP (fun h4=>?_) (fun h4=>?_)
   ·rw [decide_eq_false (show ¬ f = g from fun e=>h4 (by
     subst e
     rw [ha] at hc;rw [hb] at hd
     simp only [Option.some.injEq,Value.int.injEq,true_and] at hc hd
     exact ⟨hc,hd⟩))]
    exact ⟨by first | trivial | rfl,h2.trans h23⟩
   ·refine iAdd (by omega) ?_
    have h4:=Classical.not_not.1 h4
    refine hKn (i + 1) _ ⟨by omega,h2.trans h23,fun j hj=>?_⟩ (by omega)
    by_cases h5:j < i * 2
    ·exact he j h5
    ·rcases (show j = i * 2 ∨ j = i * 2 + 1 by omega) with rfl | rfl
     ·rw [ha,hc,h4.1]
     ·rw [hb,hd,h4.2]
  ·rw [decide_eq_true (show f = g from aBF (List.ext_getElem? fun j=>by
    by_cases hj:j < i * 2
    ·exact he j hj
    ·rw [List.getElem?_eq_none (by rw [f.cells_len];omega),List.getElem?_eq_none (by rw [g.cells_len];omega)]))]
   exact ⟨by first | trivial | rfl,h2⟩
theorem wS:∀ (m:Nat) {v:Value} {f:Fm} {lv:Nat} {w:World},f.size ≤ m → FmS w v f → f.good → f.size ≤ 1099511627776 → Ret Tryz.prog oT #[v,.int .i64 (lv:Int)] w (sv (f.txt lv))
 | 0,v,f,lv,w,hm,_,_,_=>by have:=f.size_pos;omega
 | m + 1,v,f,lv,w,hm,hs,hg,hn=>by
  apply P8;unfold A5
  have hbl:=body_len f
  have hk:=aP hs
  refine iFld (j:=0) hs rfl f.size_pos (by decide) hk.1 ?_
  refine iEq ?_
  have sub:∀ {g:Fm} {u:Value} {w':World} {l:Nat},g.size < f.size → FmS w' u g → g.good → Ret Tryz.prog oT #[u,.int .i64 (l:Int)] w' (sv (g.txt l)):=fun {g u w' l} h1 h2 h3=>
   wS m (by omega) h2 h3 (by omega)
  refine iJnX (fun xs w'=>xs = [.int .i64 (f.own:Int),sv f.body] ∧ Ext w w') (fun J hJ=>?_) ?_
  rotate_left
  ·rintro xs w2 ⟨rfl,h2⟩
   intro _
   simp only [gx]
   refine iLt ?_
   refine iCndP (fun h=>?_) (fun h=>?_)
   ·refine iCat (a:=[40]) (by simp only [List.length_singleton];omega) ?_
    refine iCat (b:=[41]) (by simp only [List.length_append,List.length_singleton];omega) ?_
    rw [nX (show f.own < lv by omega)]
    exact ⟨by simp,h2⟩
   ·rw [c0 (show lv ≤ f.own by omega)]
    exact ⟨by first | trivial | rfl,h2⟩
  · -- a join whose values are handed on
   have pass:∀ {F:(List Value → World → Prop) → Prop} {J':List Value → World → Prop},(∀ xs w',xs = [.int .i64 (f.own:Int),sv f.body] ∧ Ext w w' → J' xs w') → (∀ J,(∀ xs w',xs = [.int .i64 (f.own:Int),sv f.body] ∧ Ext w w' → J xs w') → F J) → jn F fun xs w'=>∀ _:Nat → Value,J' [gx xs 0,gx xs 1] w':=fun {F J'} hJ' h=>
    iJnX (fun xs w'=>xs = [.int .i64 (f.own:Int),sv f.body] ∧ Ext w w') h fun xs w' ⟨e,hE⟩ _=>by subst e;exact hJ' _ _ ⟨rfl,hE⟩
   cases f with
   | var x=>
    refine iCndT rfl ?_
    refine iFld (j:=0) hs rfl (Fm.size_pos _) (by decide) hk.2 ?_
    refine iFld (j:=0) hs rfl (Fm.size_pos _) (by decide) hk.2 ?_
    have hx:x < 6:=hg
    refine iAdd (by show _ ≤ (x:Int) + 1 ∧ (x:Int) + 1 ≤ _;omega) ?_
    refine CW (l:=[112,113,114,115,116,117]) (i:=x) (j:=x + 1) (by omega) (by show x + 1 ≤ 6;omega) ?_
    intro w3 h3
    rw [TM hx]
    exact hJ _ _ ⟨rfl,h3⟩
   | fls=>
    refine iCndF rfl (iEq (pass hJ fun J hJ=>iCndT rfl ?_))
    exact hJ _ _ ⟨rfl,Ext.refl _⟩
   | box a=>
    refine iCndF rfl (iEq (pass hJ fun J hJ=>iCndF rfl (iEq (pass hJ fun J hJ=>iCndT rfl ?_))))
    simp only [Fm.size] at hn
    have ha:=cM 3 a
    refine NZ (i:=1) hs (Fm.size_pos _) fun u hu=>?_
    refine iRet (sub (l:=3) (by simp only [Fm.size];omega) (ZG hu rfl) hg) fun w5 h5=>?_
    refine iCat (a:=[91,93]) (by simp only [List.length_cons,List.length_nil];omega) ?_
    exact hJ _ _ ⟨rfl,h5⟩
   | dia a=>
    refine iCndF rfl (iEq (pass hJ fun J hJ=>iCndF rfl (iEq (pass hJ fun J hJ=>iCndF rfl (iEq (pass hJ fun J hJ=>iCndT rfl ?_))))))
    simp only [Fm.size] at hn
    have ha:=cM 3 a
    refine NZ (i:=1) hs (Fm.size_pos _) fun u hu=>?_
    refine iRet (sub (l:=3) (by simp only [Fm.size];omega) (ZG hu rfl) hg) fun w5 h5=>?_
    refine iCat (a:=[60,62]) (by simp only [List.length_cons,List.length_nil];omega) ?_
    exact hJ _ _ ⟨rfl,h5⟩
   | and a b=>
    refine iCndF rfl (iEq (pass hJ fun J hJ=>iCndF rfl (iEq (pass hJ fun J hJ=>iCndF rfl (iEq (pass hJ fun J hJ=>iCndF rfl (iEq (pass hJ fun J hJ=>iCndT rfl ?_))))))))
    simp only [Fm.size] at hn
    have ha:=cM 2 a
    have hb:=cM 3 b
    refine iCall ((aL hs (g:=a) (gs:=[b]) rfl (by simp only [Fm.size];omega)).mono ?_)
    rintro u w4 ⟨h4,hu⟩
    refine iRet (sub (l:=2) (by simp only [Fm.size];omega) hu hg.1) fun w5 h5=>?_
    refine iCat (b:=[38]) (by simp only [List.length_singleton];omega) ?_
    have hs5:=(hs.ext h4).ext h5
    refine iCall ((aK hs5 (g:=a) (h:=b) rfl (by simp only [Fm.size];omega)).mono ?_)
    rintro u' w6 ⟨h6,hu'⟩
    refine iRet (sub (l:=3) (by simp only [Fm.size];omega) hu' hg.2) fun w7 h7=>?_
    refine iCat (by simp only [List.length_append,List.length_singleton];omega) ?_
    refine hJ _ _ ⟨?_,((h4.trans h5).trans h6).trans h7⟩
    simp [Fm.body,Fm.txt,Fm.own]
   | or a b=>
    refine iCndF rfl (iEq (pass hJ fun J hJ=>iCndF rfl (iEq (pass hJ fun J hJ=>iCndF rfl (iEq (pass hJ fun J hJ=>iCndF rfl (iEq (pass hJ fun J hJ=>iCndF rfl (iEq (pass hJ fun J hJ=>iCndT rfl ?_))))))))))
    simp only [Fm.size] at hn
    have ha:=cM 1 a
    have hb:=cM 2 b
    refine iCall ((aL hs (g:=a) (gs:=[b]) rfl (by simp only [Fm.size];omega)).mono ?_)
    rintro u w4 ⟨h4,hu⟩
    refine iRet (sub (l:=1) (by simp only [Fm.size];omega) hu hg.1) fun w5 h5=>?_
    refine iCat (b:=[124]) (by simp only [List.length_singleton];omega) ?_
    have hs5:=(hs.ext h4).ext h5
    refine iCall ((aK hs5 (g:=a) (h:=b) rfl (by simp only [Fm.size];omega)).mono ?_)
    rintro u' w6 ⟨h6,hu'⟩
    refine iRet (sub (l:=2) (by simp only [Fm.size];omega) hu' hg.2) fun w7 h7=>?_
    refine iCat (by simp only [List.length_append,List.length_singleton];omega) ?_
    refine hJ _ _ ⟨?_,((h4.trans h5).trans h6).trans h7⟩
    simp [Fm.body,Fm.txt,Fm.own]
   | imp a b=>
    refine iCndF rfl (iEq (pass hJ fun J hJ=>iCndF rfl (iEq (pass hJ fun J hJ=>iCndF rfl (iEq (pass hJ fun J hJ=>iCndF rfl (iEq (pass hJ fun J hJ=>iCndF rfl (iEq (pass hJ fun J hJ=>iCndF rfl (iEq (pass hJ fun J hJ=>iCndT rfl ?_))))))))))))
    have hbd:(Fm.imp a b).body = if b = .fls then (if a = .fls then [84] else 126 :: par (decide (a.own < 3)) a.body) else par (decide (a.own < 1)) a.body ++ 62 :: b.body:=by rw [Fm.body]
    have how:(Fm.imp a b).own = if b = .fls then 3 else 0:=by rw [Fm.own]
    refine iCall ((zH w).mono ?_)
    rintro vt w26 ⟨h26,hvt⟩
    refine iRet (xC (hs.ext h26) hvt.sl (by omega)) fun w27 h27=>?_
    have h27':=h26.trans h27
    have hs27:=hs.ext h27'
    have hsz:(Fm.imp a b).size = 1 + a.size + b.size:=rfl
    refine pass hJ fun J hJ=>?_
    refine iCndP (fun h=>?_) (fun h=>?_)
    ·cases h
     exact hJ _ _ ⟨by simp [Fm.body,Fm.own],h27'⟩
    ·refine iCall ((aK hs27 (g:=a) (h:=b) rfl (by omega)).mono ?_)
     rintro u w30 ⟨h30,hu⟩
     have h30':=h27'.trans h30
     have hs30:=hs.ext h30'
     refine iFld (j:=0) hu rfl b.size_pos (by decide) (aP hu).1 ?_
     refine iEq ?_
     refine pass hJ fun J hJ=>?_
     refine iCndP (fun hb=>?_) (fun hb=>?_)
     ·have hb:b = .fls:=by cases b <;> first | rfl | (simp [Fm.kind] at hb)
      have ha:¬ a = .fls:=fun e=>h (by rw [e,hb])
      have hal:=cM 3 a
      refine iCall ((aL hs30 (g:=a) (gs:=[b]) rfl (by omega)).mono ?_)
      rintro u' w33 ⟨h33,hu'⟩
      refine iRet (sub (l:=3) (by omega) hu' hg.1) fun w34 h34=>?_
      refine iCat (a:=[126]) (by simp only [List.length_singleton];omega) ?_
      refine hJ _ _ ⟨?_,(h30'.trans h33).trans h34⟩
      rw [hbd,how,if_pos hb,if_pos hb,if_neg ha]
      rfl
     ·have hb:¬ b = .fls:=fun e=>hb (by rw [e];rfl)
      have ha1:=cM 1 a
      have hb0:=cM 0 b
      refine iCall ((aL hs30 (g:=a) (gs:=[b]) rfl (by omega)).mono ?_)
      rintro u' w35 ⟨h35,hu'⟩
      refine iRet (sub (l:=1) (by omega) hu' hg.1) fun w36 h36=>?_
      refine iCat (b:=[62]) (by simp only [List.length_singleton];omega) ?_
      have hs36:=(hs30.ext h35).ext h36
      refine iCall ((aK hs36 (g:=a) (h:=b) rfl (by omega)).mono ?_)
      rintro u'' w37 ⟨h37,hu''⟩
      refine iRet (sub (l:=0) (by omega) hu'' hg.2) fun w38 h38=>?_
      refine iCat (by simp only [List.length_append,List.length_singleton];omega) ?_
      refine hJ _ _ ⟨?_,(((h30'.trans h35).trans h36).trans h37).trans h38⟩
      rw [hbd,how,if_neg hb,if_neg hb]
      simp [Fm.txt,par]
theorem zO {v:Value} {f:Fm} {w:World} (hs:FmS w v f) (hg:f.good) (hn:f.size ≤ 1099511627776):Ret Tryz.prog CY #[v] w (sv f.body):=by
 apply TK;unfold EI
 refine iRet (wS _ (lv:=0) (Nat.le_refl _) hs hg hn) fun w1 h1=>?_
 rw [c0 (Nat.zero_le _)]
 exact ⟨by first | trivial | rfl,h1⟩
theorem FF (t:Str) (w:World):Cal Tryz.prog qR #[sv t] w fun r w'=>Ext w w' ∧ ∃ v,r = .tuple #[v,.int .i64 (pAt t:Int),.int .i64 (pCode t)] ∧ (pCode t = 0 → FmW w.heap.size w' v (rd t).1) ∧ (¬ pCode t = 0 → v = .slice none 0 0):=by
 apply H9;unfold qJ
 refine iLenT ?_
 refine iLt ?_
 refine iCndP (fun h=>?_) (fun h=>?_)
 ·have e1:pCode t = 3:=by unfold pCode;rw [if_pos (by omega)]
  have e2:pAt t = 0:=by unfold pAt;rw [if_pos (by omega)]
  rw [e1,e2]
  exact ⟨Ext.refl _,_,rfl,(fun h=>by cases h),fun _=>rfl⟩
 ·have e1:pCode t = if rdOk t then (if 40 < (rd t).1.size then 3 else 0) else 6:=by unfold pCode;rw [if_neg (by omega)]
  have e2:pAt t = if rdOk t then 0 else rdAt t:=by unfold pAt;rw [if_neg (by omega)]
  refine iCall ((zG (by omega) w).mono ?_)
  rintro r w1 ⟨h1,v,rfl,hv,-⟩
  refine iE20 ?_
  refine iE21 ?_
  cases hok:rdOk t
  ·rw [if_neg (by decide)]
   refine iLe ?_
   refine iCndT (by simp) ?_
   rw [e1,e2,hok]
   exact ⟨h1,_,rfl,(fun h=>by cases h),fun _=>rfl⟩
  ·rw [if_pos rfl]
   refine iLe ?_
   refine iCndF (by decide) ?_
   rw [e1,e2,hok,if_pos rfl]
   refine iLenK (hv hok).sl ?_
   refine iLt ?_
   refine iCndP (fun h'=>?_) (fun h'=>?_)
   ·rw [if_pos (show 40 < (rd t).1.size by omega)]
    exact ⟨h1,_,rfl,(fun h=>by cases h),fun _=>rfl⟩
   ·rw [if_neg (show ¬ 40 < (rd t).1.size by omega)]
    exact ⟨h1,_,rfl,fun _=>hv hok,fun h=>absurd rfl h⟩
theorem AC (t:Str) (w:World):Cal Tryz.prog EF #[sv t] w fun r w'=>Ext w w' ∧ ∃ v,r = .tuple #[v,.bool (goodT t)] ∧ (pCode t = 0 → FmW w.heap.size w' v (rd t).1):=by
 apply RR;unfold CC
 refine iCall ((FF t w).mono ?_)
 rintro r w1 ⟨h1,v,rfl,hv,-⟩
 refine iE30 ?_
 refine iE31 ?_
 refine iE32 ?_
 refine iJnX (fun xs w'=>xs = [v,.bool (goodT t)] ∧ Ext w1 w') (fun J hJ=>?_) ?_
 ·refine iEq ?_
  unfold goodT at hJ
  refine iCndP (fun hc=>?_) (fun hc=>?_)
  ·rw [decide_eq_true hc,Bool.true_and] at hJ
   refine iRet (zO (hv hc).sl (EL t) (by have:=(oO hc).1;omega)) fun w4 h4=>?_
   exact iEqT (hJ _ _ ⟨rfl,h4⟩)
  ·rw [decide_eq_false hc,Bool.false_and] at hJ
   exact hJ _ _ ⟨rfl,Ext.refl _⟩
 ·rintro xs w3 ⟨rfl,h3⟩
  intro _
  exact ⟨h1.trans h3,v,rfl,fun hc=>(hv hc).ext h3⟩
end Go.Proofs.YteifjhpddhppcaaGreatDoor

namespace Go.Vc
structure Itm where
 nm:Str
 fm:Str
 cl:Int
instance:Inhabited Itm:=⟨⟨[],[],0⟩⟩
def Itm.cs (x:Itm):List Value:=[sv x.nm,sv x.fm,.int .i64 x.cl]
abbrev Itm.val (x:Itm):Value:=.agg #[sv x.nm,sv x.fm,.int .i64 x.cl]
def aJ (L:List Itm):List Value:=L.flatMap Itm.cs
theorem fM:∀ L:List Itm,(aJ L).length = L.length * 3
 | []=>rfl
 | x :: L=>by have:=fM L;simp only [aJ,List.flatMap_cons,List.length_append,List.length_cons,Itm.cs,List.length_nil] at this ⊢;omega
theorem pN (L M:List Itm):aJ (L ++ M) = aJ L ++ aJ M:=by simp [aJ]
theorem nT:∀ {L:List Itm} {j:Nat},j < L.length → (aJ L)[j * 3 + 0]? = some (sv (gt L j).nm) ∧ (aJ L)[j * 3 + 1]? = some (sv (gt L j).fm) ∧ (aJ L)[j * 3 + 2]? = some (.int .i64 (gt L j).cl)
 | [],_,h=>by simp at h
 | x :: L,0,_=>⟨rfl,rfl,rfl⟩
 | x :: L,j + 1,h=>by
  have:=nT (L:=L) (j:=j) (by simpa using h)
  have e:∀ f,(aJ (x :: L))[(j + 1) * 3 + f]? = (aJ L)[j * 3 + f]?:=fun f=>by
   rw [show aJ (x :: L) = x.cs ++ aJ L by simp [aJ],List.getElem?_append_right (by simp [Itm.cs];omega)]
   congr 1
   simp [Itm.cs];omega
  rw [e,e,e]
  exact this
theorem m5 (L:List Itm):∀ u ∈ aJ L,aC u = true:=by
 intro u hu
 obtain ⟨x,_,hx⟩:=List.mem_flatMap.1 hu
 simp only [Itm.cs,List.mem_cons,List.not_mem_nil,or_false] at hx
 rcases hx with rfl | rfl | rfl <;> rfl
abbrev SlIt (w:World) (v:Value) (L:List Itm):Prop:=SlK 3 w v L.length (aJ L)
theorem iItm {w:World} {v:Value} {L:List Itm} {z:Int} {j:Nat} {k:IntKind} {K:Value → Prop} (hs:SlIt w v L) (hz:z = (j:Int)) (hj:j < L.length) (h:K (gt L j).val):xIa 3 v (.int k z) fun p=>xLdA w 3 p K:=by
 have h3:=nT hj
 subst hz
 refine iIaK hs hj fun b o hcell=>?_
 refine ⟨_,_,rfl,rfl,fun i hi=>?_,h⟩
 rw [bE,hcell i hi]
 rcases i with _ | _ | _ | i
 ·exact h3.1
 ·exact h3.2.1
 ·exact h3.2.2
 ·omega
theorem iNm {w:World} {v:Value} {L:List Itm} {z:Int} {j:Nat} {k:IntKind} {K:Value → Prop} (hs:SlIt w v L) (hz:z = (j:Int)) (hj:j < L.length) (h:K (sv (gt L j).nm)):xIa 3 v (.int k z) fun p=>xFa 0 p fun q=>xLd w q K:=
 iFld hs hz hj (by decide) (nT hj).1 h
theorem iFm {w:World} {v:Value} {L:List Itm} {z:Int} {j:Nat} {k:IntKind} {K:Value → Prop} (hs:SlIt w v L) (hz:z = (j:Int)) (hj:j < L.length) (h:K (sv (gt L j).fm)):xIa 3 v (.int k z) fun p=>xFa 1 p fun q=>xLd w q K:=
 iFld hs hz hj (by decide) (nT hj).2.1 h
theorem iCl {w:World} {v:Value} {L:List Itm} {z:Int} {j:Nat} {k:IntKind} {K:Value → Prop} (hs:SlIt w v L) (hz:z = (j:Int)) (hj:j < L.length) (h:K (.int .i64 (gt L j).cl)):xIa 3 v (.int k z) fun p=>xFa 2 p fun q=>xLd w q K:=
 iFld hs hz hj (by decide) (nT hj).2.2 h
theorem iNew3 {w:World} {e:TypeId} {a b c:Value} {K:Value → World → Prop} (h:∀ q w',q = w.heap.size ∧ w'.heap.size = q + 1 → Ext w w' → Blk e w' q [a,b,c] → K (.pointer (some ⟨q,0,none⟩)) w'):xNew (Value.cells (.agg #[a,b,c])) e w K:=
 iNew fun q w' h1 h2 h3=>h q w' h1 h2 (by simpa [Value.cells] using h3)
theorem iLd3 {w:World} {e:TypeId} {q:Nat} {a b c:Value} {K:Value → Prop} (hB:Blk e w q [a,b,c]) (h:K (.agg #[a,b,c])):xLdA w 3 (.pointer (some ⟨q,0,none⟩)) K:=iLdA hB rfl (by simpa using h)
theorem iSt3 {P:Program} {w:World} {e:TypeId} {q:Nat} {cs:List Value} {a b c:Value} {K:World → Prop} (hB:Blk e w q cs) (hl:cs.length = 3) (ha:aC a = true) (hb:aC b = true) (hc:aC c = true)
  (h:∀ w',Blk e w' q [a,b,c] → Ch (fun d=>d = q) w w' → K w'):xStA P w 3 (.pointer (some ⟨q,0,none⟩)) (.agg #[a,b,c]) K:=by
 obtain ⟨w',h1,h2,h3⟩:=lQ (P:=P) [a,b,c] 0 w cs hB (by simp [hl]) (fun v hv=>by simp at hv;rcases hv with rfl | rfl | rfl <;> assumption)
 refine ⟨_,w',rfl,rfl,?_,h w' ?_ (h2.ch rfl)⟩
 ·simpa [Value.cells] using h1
 ·rw [List.take_zero,List.nil_append,List.drop_of_length_le (by simp [hl]),List.append_nil] at h3;exact h3
theorem iStU {w:World} {e:TypeId} {b i:Nat} {cs:List Value} {v:Value} {K:World → Prop} (hB:Blk e w b cs) (hi:i < cs.length) (hv:aC v = true) (h:∀ w',Blk e w' b (cs.set i v) → Upd b w w' → K w'):xSt w (.pointer (some ⟨b,i,none⟩)) v K:=
 iStB hB hi hv fun h2=>h _ h2 (Upd.setCell w b i v)
/-! ### What is asked of items -/
end Go.Vc
namespace Go.Proofs.YteifjhpddhppcaaGreatDoor
open Go.Vc
end Go.Proofs.YteifjhpddhppcaaGreatDoor

namespace Go.Vc
theorem MQ:∀ {L:List Itm} {j:Nat} (z:Int),j < L.length → (aJ L).set (j * 3 + 2) (.int .i64 z) = aJ (L.set j { gt L j with cl:=z })
 | [],_,_,h=>by simp at h
 | x :: L,0,z,_=>rfl
 | x :: L,j + 1,z,h=>by
  have:=MQ (L:=L) (j:=j) z (by simpa using h)
  rw [show aJ (x :: L) = x.cs ++ aJ L by simp [aJ],List.set_append_right _ _ (by simp [Itm.cs];omega),show (j + 1) * 3 + 2 - x.cs.length = j * 3 + 2 by simp [Itm.cs];omega,this]
  rfl
def IncI (L:List Itm):Prop:=∀ i j,i < j → j < L.length → ltS (gt L i).nm (gt L j).nm = true
def hasI (L:List Itm) (n:Str):Bool:=L.any fun x=>decide (x.nm = n)
theorem RV {L:List Itm} {n:Str} {i:Nat} (hi:i < L.length) (h:(gt L i).nm = n):hasI L n = true:=by
 unfold hasI
 rw [List.any_eq_true]
 exact ⟨L[i],List.getElem_mem _,by rw [← gt_eq hi];exact decide_eq_true h⟩
theorem K0 {L:List Itm} {n:Str} (h:∀ i,i < L.length → ¬ (gt L i).nm = n):hasI L n = false:=by
 unfold hasI
 rw [List.any_eq_false]
 intro x hx
 obtain ⟨i,hi,rfl⟩:=List.getElem_of_mem hx
 rw [← gt_eq hi]
 simpa using h i hi
theorem TE:∀ a b:Str,(Lib.compareBytes a b < 0 ↔ ltS a b = true) ∧ (Lib.compareBytes a b = 0 ↔ a = b) ∧ (-1 ≤ Lib.compareBytes a b ∧ Lib.compareBytes a b ≤ 1)
 | [],[]=>by simp [Lib.compareBytes,ltS,Op.bytesLess]
 | [],_ :: _=>by simp [Lib.compareBytes,ltS,Op.bytesLess]
 | _ :: _,[]=>by simp [Lib.compareBytes,ltS,Op.bytesLess]
 | x :: a,y :: b=>by
  have ih:=TE a b
  simp only [Lib.compareBytes,ltS,Op.bytesLess,Bool.or_eq_true,decide_eq_true_eq,Bool.and_eq_true,beq_iff_eq,List.cons.injEq] at ih ⊢
  by_cases h1:x < y
  ·rw [if_pos h1]
   refine ⟨by simp [h1],?_,by decide⟩
   have:¬ x = y:=fun e=>by subst e;exact absurd h1 (UInt8.lt_irrefl _)
   simp [this]
  ·rw [if_neg h1]
   by_cases h2:y < x
   ·rw [if_pos h2]
    have:¬ x = y:=fun e=>by subst e;exact absurd h2 (UInt8.lt_irrefl _)
    simp [h1,this]
   ·rw [if_neg h2]
    have:x = y:=by
     rcases Classical.em (x = y) with e | e
     ·exact e
     ·rcases UInt8.lt_or_lt_of_ne e with h | h
      ·exact absurd h h1
      ·exact absurd h h2
    subst this
    simp only [h1,false_or,true_and]
    exact ih
end Go.Vc
namespace Go.Proofs.YteifjhpddhppcaaGreatDoor
open Go.Vc
theorem JA (a b:Str) (w:World):Ret Tryz.prog uP #[sv a,sv b] w (.int .i64 (Lib.compareBytes a b)):=by
 apply L6;unfold vN
 refine iRet (v:=.int .i64 (Lib.compareBytes a b)) ?_ fun w1 h1=>⟨by first | trivial | rfl,h1⟩
 refine ⟨⟨_,Tryz.func95,by kernel_rfl,by kernel_rfl⟩,?_⟩
 refine (Any.bytealg_CompareString aDW ⟨a.toArray⟩ ⟨b.toArray⟩ w).mono ?_
 rintro e w' ⟨rfl,rfl⟩
 exact ⟨_,rfl,rfl,Ext.refl _⟩
theorem xQ (x:Itm) (n:Str) (w:World):Ret Tryz.prog oM #[x.val,sv n] w (.int .i64 (Lib.compareBytes x.nm n)):=by
 apply RE;unfold zI
 refine iNew3 fun q w1 hq h1 hB=>?_
 refine iFa ?_
 refine iLdB hB rfl ?_
 exact iRet (JA _ _ w1) fun w2 h2=>⟨by first | trivial | rfl,h1.trans h2⟩
def Found (L:List Itm) (n:Str) (i:Nat) (y:Bool):Prop:=(i ≤ L.length ∧ (IncI L → (∀ k,k < i → ltS (gt L k).nm n = true) ∧ (i < L.length → ltS (gt L i).nm n = false))) ∧ (y = true → i < L.length ∧ (gt L i).nm = n) ∧ (IncI L → y = hasI L n)
theorem QG {v:Value} {L:List Itm} {n:Str} {w:World} (hs:SlIt w v L) (hL:L.length ≤ 1099511627776):Cal Tryz.prog b8 #[v,sv n,.func (.func oM) #[] #[]] w fun r w'=>Ext w w' ∧ ∃ i:Nat,∃ y:Bool,r = .tuple #[.int .i64 (i:Int),.bool y] ∧ Found L n i y:=by
 apply eX;unfold b6
 refine iLenK hs ?_
 refine iLp (fun s:Nat × Nat=>[.int .i64 (s.1:Int),.int .i64 (s.2:Int)]) (fun s w'=>s.1 ≤ s.2 ∧ s.2 ≤ L.length ∧ Ext w w' ∧ (IncI L → (∀ k,k < s.1 → ltS (gt L k).nm n = true) ∧ ∀ k,s.2 ≤ k → k < L.length → ltS (gt L k).nm n = false)) (fun s=>s.2 - s.1) (0,L.length) rfl ⟨Nat.zero_le _,Nat.le_refl _,Ext.refl _,fun _=>⟨fun k hk=>absurd hk (Nat.not_lt_zero k),fun k h1 h2=>absurd h2 (Nat.not_lt.2 h1)⟩⟩ ?_
 rintro ⟨lo,hi⟩ w2 Kn ⟨hlh,hhi,h2,hinv⟩ hKn
 have hlh:lo ≤ hi:=hlh
 have hhi:hi ≤ L.length:=hhi
 have hinv:IncI L → (∀ k,k < lo → ltS (gt L k).nm n = true) ∧ ∀ k,hi ≤ k → k < L.length → ltS (gt L k).nm n = false:=hinv
 have hs2:=hs.ext h2
 intro _
 simp only [gx]
 refine iLt ?_
 refine iCndP (fun h=>?_) (fun h=>?_)
 ·refine iAdd (by omega) ?_
  refine D4 (by omega) ?_
  rw [show (lo:Int) + hi = ((lo + hi:Nat):Int) by omega]
  refine PC (j:=1) (by omega) ?_
  refine q8 (by omega) ?_
  have hm1:lo ≤ (lo + hi) / 2 ^ 1:=by omega
  have hm2:(lo + hi) / 2 ^ 1 < hi:=by omega
  generalize (lo + hi) / 2 ^ 1 = m at hm1 hm2
  refine iItm hs2 rfl (by omega) ?_
  refine iRet (xQ _ _ w2) fun w3 h23=>?_
  refine iLt ?_
  have hc:=TE (gt L m).nm n
  refine iCndP (fun h3=>?_) (fun h3=>?_)
  ·refine iAdd (by omega) ?_
   refine hKn (m + 1,hi) _ ⟨by show m + 1 ≤ hi;omega,hhi,h2.trans h23,fun hI=>⟨fun k hk=>?_,(hinv hI).2⟩⟩ (by show hi - (m + 1) < hi - lo;omega)
   have hk:k < m + 1:=hk
   by_cases hkm:k = m
   ·subst hkm;exact hc.1.1 h3
   ·exact nU (hI k m (by omega) (by omega)) (hc.1.1 h3)
  ·have hnl:ltS (gt L m).nm n = false:=by
    rw [Bool.eq_false_iff];intro e;exact h3 (hc.1.2 e)
   refine hKn (lo,m) _ ⟨hm1,by show m ≤ L.length;omega,h2.trans h23,fun hI=>⟨(hinv hI).1,fun k hk hkl=>?_⟩⟩ (by show m - lo < hi - lo;omega)
   have hk:m ≤ k:=hk
   by_cases hkm:k = m
   ·subst hkm;exact hnl
   ·exact ordrS.tr hnl (IM (hI m k (by omega) hkl))
 ·have hle:lo = hi:=by omega
  subst hle
  refine iJnX (fun xs w'=>Ext w2 w' ∧ ∃ y:Bool,xs = [.int .i64 (lo:Int),.bool y] ∧ y = (decide (lo < L.length) && decide ((gt L lo).nm = n))) (fun J hJ=>?_) ?_
  ·refine iLt ?_
   refine iCndP (fun h3=>?_) (fun h3=>?_)
   ·refine iItm hs2 rfl (by omega) ?_
    refine iRet (xQ _ _ w2) fun w3 h23=>?_
    refine iEq ?_
    refine hJ _ _ ⟨h23,_,rfl,?_⟩
    rw [decide_eq_true (show lo < L.length by omega),Bool.true_and]
    exact decide_eq_decide.2 (TE (gt L lo).nm n).2.1
   ·exact hJ _ _ ⟨Ext.refl _,false,rfl,by rw [decide_eq_false (show ¬ lo < L.length by omega),Bool.false_and]⟩
  ·rintro xs w5 ⟨h5,y,rfl,hy⟩
   intro _
   refine ⟨h2.trans h5,lo,y,rfl,⟨hhi,fun hI=>⟨(hinv hI).1,fun hl=>(hinv hI).2 lo (Nat.le_refl _) hl⟩⟩,fun e=>?_,fun hI=>?_⟩
   ·rw [e] at hy
    have:=hy.symm
    rw [Bool.and_eq_true,decide_eq_true_eq,decide_eq_true_eq] at this
    exact this
   ·obtain ⟨g1,g2⟩:=hinv hI
    rw [hy]
    rcases Nat.lt_or_ge lo L.length with h3 | h3
    ·rw [decide_eq_true h3,Bool.true_and]
     by_cases h4:(gt L lo).nm = n
     ·rw [decide_eq_true h4,RV h3 h4]
     ·rw [decide_eq_false h4,K0 fun i hi e=>?_]
      rcases Nat.lt_trichotomy i lo with h5 | h5 | h5
      ·have:=g1 i h5;rw [e,cV] at this;cases this
      ·subst h5;exact h4 e
      ·have k1:=g2 lo (Nat.le_refl _) h3
       have k2:=hI lo i h5 hi
       rw [e] at k2;rw [k1] at k2;cases k2
    ·rw [decide_eq_false (Nat.not_lt.2 h3),Bool.false_and,K0 fun i hi e=>?_]
     have:=g1 i (by omega);rw [e,cV] at this;cases this
theorem rS {v:Value} {L:List Itm} {n:Str} {w:World} (hs:SlIt w v L) (hL:L.length ≤ 1099511627776):Cal Tryz.prog uC #[v,sv n] w fun r w'=>Ext w w' ∧ ∃ i:Nat,∃ y:Bool,r = .tuple #[.int .i64 (i:Int),.bool y] ∧ Found L n i y:=by
 apply VA;unfold G4
 refine iCall ((QG hs hL).mono ?_)
 rintro r w1 ⟨h1,i,y,rfl,hf⟩
 refine iE20 ?_
 refine iE21 ?_
 exact ⟨h1,i,y,rfl,hf⟩
end Go.Proofs.YteifjhpddhppcaaGreatDoor

namespace Go.Proofs.YteifjhpddhppcaaGreatDoor
open Go.Vc


end Go.Proofs.YteifjhpddhppcaaGreatDoor

namespace Go.Vc
theorem iIaG {w:World} {v:Value} {L:List Str} {z:Int} {j:Nat} {k:IntKind} {K:Value → Prop} (hs:SlT w v L) (hz:z = (j:Int)) (hj:j < L.length) (h:K (sv (gt L j))):xIa 1 v (.int k z) fun p=>xLd w p K:=by
 subst hz
 exact iIaT hs hj fun p hp=>iLd hp (by rw [← gt_eq hj];exact h)
end Go.Vc
namespace Go.Proofs.YteifjhpddhppcaaGreatDoor
open Go.Vc
theorem bP {v:Value} {L:List Str} {t:Str} {w:World} (hs:SlT w v L):Ret Tryz.prog fS #[v,sv t] w (.bool (decide (t ∈ L))):=by
 apply nJ;unfold fZ
 have hln:=hs.len
 rw [bG] at hln
 refine iCall (Cal.mono (R:=fun r w'=>Ext w w' ∧ ∃ z:Int,r = .int .i64 z ∧ (decide (0 ≤ z) = decide (t ∈ L))) ?_ ?_)
 ·apply pY;unfold iA
  refine bO hs ?_
  refine iLp (fun i:Nat=>[.int .i64 (i:Int)]) (fun i w'=>i ≤ L.length ∧ Ext w w' ∧ ∀ j,j < i → ¬ t = gt L j) (fun i=>L.length - i) 0 rfl ⟨Nat.zero_le _,Ext.refl _,fun j hj=>by omega⟩ ?_
  rintro i w2 Kn ⟨hi,h2,hno⟩ hKn
  intro _
  simp only [gx]
  refine iLt ?_
  refine iCndP (fun h=>?_) (fun h=>?_)
  ·refine iIaG (hs.ext h2) rfl (by omega) ?_
   refine iEqT ?_
   refine iCndP (fun h3=>?_) (fun h3=>?_)
   ·refine ⟨h2,_,rfl,?_⟩
    rw [decide_eq_true (show t ∈ L by rw [h3,gt_eq (show i < L.length by omega)];exact List.getElem_mem _)]
    simp
   ·refine iAdd (by omega) ?_
    refine hKn (i + 1) _ ⟨by omega,h2,fun j hj=>?_⟩ (by omega)
    by_cases hji:j = i
    ·subst hji;exact h3
    ·exact hno j (by omega)
  ·refine ⟨h2,-1,rfl,?_⟩
   rw [decide_eq_false (show ¬ t ∈ L from fun hm=>by
    obtain ⟨j,hj,e⟩:=List.getElem_of_mem hm
    exact hno j (by omega) (by rw [gt_eq hj];exact e.symm))]
   rfl
 ·rintro r w1 ⟨h1,z,rfl,hz⟩
  refine iLe ?_
  rw [hz]
  exact ⟨by first | trivial | rfl,h1⟩
theorem xD {v:Value} {L:List Itm} {n:Str} {w:World} (hs:SlIt w v L):Cal Tryz.prog pO #[v,sv n] w fun r w'=>Ext w w' ∧ ∃ i:Nat,∃ y:Bool,r = .tuple #[.int .i64 (i:Int),.bool y] ∧ Found L n i y:=by
 apply QQ;unfold BB
 have hln:=hs.len
 refine iLp (fun i:Nat=>[.int .i64 (i:Int)]) (fun i w'=>i ≤ L.length ∧ Ext w w' ∧ ∀ j,j < i → ltS (gt L j).nm n = true) (fun i=>L.length - i) 0 rfl ⟨Nat.zero_le _,Ext.refl _,fun j hj=>by omega⟩ ?_
 rintro i w2 Kn ⟨hi,h2,hlt⟩ hKn
 have hs2:=hs.ext h2
 intro _
 simp only [gx]
 refine iJnB (decide (i < L.length) && ltS (gt L i).nm n) w2 (fun J hJ=>?_) (fun w4 h4=>?_)
 ·refine iLenK hs2 ?_
  refine iLt ?_
  refine iCndP (fun h=>?_) (fun h=>?_)
  ·rw [decide_eq_true (show i < L.length by omega),Bool.true_and] at hJ
   refine iNm hs2 rfl (by omega) ?_
   exact iLtT (hJ _ (Ext.refl _))
  ·rw [decide_eq_false (show ¬ i < L.length by omega),Bool.false_and] at hJ
   exact hJ _ (Ext.refl _)
 intro _
 simp only [gx]
 have hs4:=hs2.ext h4
 have h4':=h2.trans h4
 cases hc:decide (i < L.length) && ltS (gt L i).nm n
 rotate_left
 ·rw [Bool.and_eq_true,decide_eq_true_eq] at hc
  refine iCndT rfl ?_
  refine iAdd (by omega) ?_
  refine hKn (i + 1) _ ⟨by omega,h4',fun j hj=>?_⟩ (by omega)
  by_cases hji:j = i
  ·subst hji;exact hc.2
  ·exact hlt j (by omega)
 refine iCndF rfl ?_
 refine iJnX (fun xs w'=>Ext w4 w' ∧ ∃ y:Bool,xs = [.int .i64 (i:Int),.bool y] ∧ y = (decide (i < L.length) && decide ((gt L i).nm = n))) (fun J hJ=>?_) ?_
 ·refine iLenK hs4 ?_
  refine iLt ?_
  refine iCndP (fun h3=>?_) (fun h3=>?_)
  ·refine iNm hs4 rfl (by omega) ?_
   refine iEqT ?_
   exact fun w7 h7=>hJ _ _ ⟨h7,_,rfl,by rw [decide_eq_true (show i < L.length by omega),Bool.true_and]⟩
  ·exact fun w8 h8=>hJ _ _ ⟨h8,false,rfl,by rw [decide_eq_false (show ¬ i < L.length by omega),Bool.false_and]⟩
 ·rintro xs w6 ⟨h6,y,rfl,hy⟩
  intro _
  refine ⟨h4'.trans h6,i,y,rfl,⟨hi,fun _=>⟨hlt,fun hl=>by rw [decide_eq_true hl,Bool.true_and] at hc;exact hc⟩⟩,fun e=>?_,fun hI=>?_⟩
  ·rw [e] at hy
   have:=hy.symm
   rw [Bool.and_eq_true,decide_eq_true_eq,decide_eq_true_eq] at this
   exact this
  ·rw [hy]
   rcases Nat.lt_or_ge i L.length with h3 | h3
   ·rw [decide_eq_true h3,Bool.true_and] at hc ⊢
    by_cases h5:(gt L i).nm = n
    ·rw [decide_eq_true h5,RV h3 h5]
    ·rw [decide_eq_false h5,K0 fun j hj e=>?_]
     rcases Nat.lt_trichotomy j i with h7 | h7 | h7
     ·have:=hlt j h7;rw [e,cV] at this;cases this
     ·subst h7;exact h5 e
     ·have k2:=hI i j h7 hj
      rw [e] at k2;rw [hc] at k2;cases k2
   ·rw [decide_eq_false (Nat.not_lt.2 h3),Bool.false_and,K0 fun j hj e=>?_]
    have:=hlt j (by omega);rw [e,cV] at this;cases this
end Go.Proofs.YteifjhpddhppcaaGreatDoor

namespace Go.Vc
end Go.Vc

namespace Go.Vc
theorem aDQ {L:List Itm} {n:Str} (h:hasI L n = true):∃ i,i < L.length ∧ (gt L i).nm = n:=by
 unfold hasI at h
 obtain ⟨x,hx,hn⟩:=List.any_eq_true.1 h
 obtain ⟨i,hi,rfl⟩:=List.getElem_of_mem hx
 exact ⟨i,hi,by rw [gt_eq hi];exact of_decide_eq_true hn⟩
theorem P5 {t:Str} (h:goodT t = true):(∃ a:Fm,a.good ∧ t = a.body) ∧ t.length ≤ 200:=by
 unfold goodT at h
 rw [Bool.and_eq_true,decide_eq_true_eq,decide_eq_true_eq] at h
 exact ⟨⟨_,EL t,h.2.symm⟩,(oO h.1).2.1⟩
theorem OwK.same {k lo:Nat} {e:TypeId} {w w':World} {v:Value} {n:Nat} {xs:List Value} (h:OwK k lo e w v n xs) (hk:∀ c,v.ownBlock = some c → w'.heap[c]? = w.heap[c]?):OwK k lo e w' v n xs:=by
 obtain ⟨h0,h | ⟨g,cap,cur,hv,hg,hh,h1⟩⟩:=h
 ·exact ⟨h0,.inl h⟩
 ·exact ⟨h0,.inr ⟨g,cap,cur,hv,hg,by rw [hk g (by rw [hv];rfl)];exact hh,h1⟩⟩
end Go.Vc
namespace Go.Proofs.YteifjhpddhppcaaGreatDoor
open Go.Vc
abbrev ItW (lo:Nat) (w:World) (v:Value) (L:List Itm):Prop:=OwK 3 lo 32 w v L.length (aJ L)
theorem rC {t:Str} (ht:t.length ≤ 4194304) (w:World):Cal Tryz.prog HB #[sv t] w fun v w'=>Ext w w' ∧ FmW w.heap.size w' v (rd t).1:=by
 apply U6;unfold GZ
 refine bB (cs:=#[sv t,.int .i64 0,.bool false]) (by simp [Instr.fill,Value.cells]) ?_
 refine iNew fun b w1 hb h1 hB=>?_
 refine iCall ((o9 ht (RdS.new hB)).mono ?_)
 rintro v w2 ⟨_,hc2,hv2⟩
 rw [← O7] at hv2
 exact ⟨h1.thenCh hc2 fun c hc=>by omega,hv2.mono h1.size⟩
def FmsS (w:World) (vs:List Value) (fs:List Fm):Prop:=vs.length = fs.length ∧ ∀ i,i < fs.length → ∃ v,vs[i]? = some v ∧ FmS w v (fs.getD i .fls)
theorem FmsS.ext {w w':World} {vs:List Value} {fs:List Fm} (h:FmsS w vs fs) (x:Ext w w'):FmsS w' vs fs:=⟨h.1,fun i hi=>by obtain ⟨v,h1,h2⟩:=h.2 i hi;exact ⟨v,h1,h2.ext x⟩⟩
end Go.Proofs.YteifjhpddhppcaaGreatDoor

namespace Go.Vc
theorem aES {lo:Nat} {e:TypeId} {w:World} {v:Value} {xs:List Value} {K:Value → Prop} (hs:Ow lo e w v xs) (h0:v = .slice none 0 0 → K (.bool true)) (h1:K (.bool false)):xNilS true v (.slice none 0 0) K:=by
 obtain ⟨_,h | ⟨g,cap,cur,hv,_⟩⟩:=hs
 ·obtain ⟨rfl,_⟩:=h
  exact ⟨trivial,rfl,h0 rfl⟩
 ·subst hv
  exact ⟨trivial,rfl,h1⟩
end Go.Vc
namespace Go.Proofs.YteifjhpddhppcaaGreatDoor
open Go.Vc
theorem E9 {v fv:Value} {L:List Str} {p:Str → Bool} {w0 w:World} (h0:Ext w0 w) (hs:SlT w v L) (hf:∀ x ∈ L,∀ w',Ext w0 w' → callV Tryz.prog fv [sv x] w' fun u w''=>u = .bool (p x) ∧ Ext w' w''):
  Cal Tryz.prog fO #[v,fv] w fun r w'=>Ext w w' ∧ ((r = .int .i64 (-1) ∧ ∀ j,j < L.length → p (gt L j) = false) ∨ ∃ i:Nat,r = .int .i64 (i:Int) ∧ i < L.length ∧ p (gt L i) = true ∧ ∀ j,j < i → p (gt L j) = false):=by
 apply fP;unfold cS
 have hln:=hs.len
 rw [bG] at hln
 refine bO hs ?_
 refine iLp (fun i:Nat=>[.int .i64 (i:Int)]) (fun i w'=>i ≤ L.length ∧ Ext w w' ∧ ∀ j,j < i → p (gt L j) = false) (fun i=>L.length - i) 0 rfl ⟨Nat.zero_le _,Ext.refl _,fun j hj=>by omega⟩ ?_
 rintro i w2 Kn ⟨hi,h2,hno⟩ hKn
 intro _
 simp only [gx]
 refine iLt ?_
 refine iCndP (fun h=>?_) (fun h=>?_)
 ·refine iIaG (hs.ext h2) rfl (by omega) ?_
  refine (hf (gt L i) (by rw [gt_eq (show i < L.length by omega)];exact List.getElem_mem _) w2 (h0.trans h2)).mono ?_
  rintro u w3 ⟨rfl,h23⟩
  refine iCnd (fun h3=>?_) (fun h3=>?_)
  ·exact ⟨h2.trans h23,.inr ⟨i,rfl,by omega,h3,hno⟩⟩
  ·refine iAdd (by omega) ?_
   refine hKn (i + 1) _ ⟨by omega,h2.trans h23,fun j hj=>?_⟩ (by omega)
   by_cases hji:j = i
   ·subst hji;exact h3
   ·exact hno j (by omega)
 ·exact ⟨h2,.inl ⟨by first | trivial | rfl,fun j hj=>hno j (by omega)⟩⟩
theorem OF {lo:Nat} {v:Value} {L:List Str} {w:World} (hs:Ow lo aB w v (strs L)) (hL:L.length ≤ 1099511627776):
  Cal Tryz.prog iD #[v] w fun r w'=>Ext w w' ∧ Ow w.heap.size aB w' r (strs L):=by
 apply pU;unfold g0
 refine aES hs (fun e=>?_) ?_
 ·refine iCndT rfl ⟨Ext.refl _,?_⟩
  have:strs L = []:=by
   obtain ⟨_,h | ⟨g,cap,cur,hv,_⟩⟩:=hs
   ·exact List.length_eq_zero_iff.1 h.2
   ·rw [e] at hv;cases hv
  rw [this];exact Ow.nil _ _ _
 ·refine iCndF rfl ?_
  refine iBs0 fun u w1 hw1 x1 ho=>?_
  have hll:=bG L
  refine iApp kZ kT rfl ho (hs.ext x1).sl (IC L) (by simp only [List.length_nil];omega) (by simp only [List.length_nil];omega) (by omega) fun u' w2 ho2 hg=>?_
  refine ⟨x1.grown hg fun b hb=>(ho.blk b hb).1,by simpa using ho2⟩
theorem MY {p:Str → Bool} {L:List Str} (h:∀ j,j < L.length → p (gt L j) = false):L.filter (fun x=>!p x) = L:=by
 rw [List.filter_eq_self]
 intro x hx
 obtain ⟨j,hj,rfl⟩:=List.getElem_of_mem hx
 rw [← gt_eq hj,h j hj];rfl
theorem CZ {v fv:Value} {L:List Str} {p:Str → Bool} {w0 w:World} (h0:Ext w0 w) (hs:Ow w0.heap.size aB w v (strs L)) (hL:L.length ≤ 1099511627776) (hf:∀ x ∈ L,∀ w',Ext w0 w' → callV Tryz.prog fv [sv x] w' fun u w''=>u = .bool (p x) ∧ Ext w' w''):
  Cal Tryz.prog fI #[v,fv] w fun r w'=>Ext w0 w' ∧ Ow w0.heap.size aB w' r (strs (L.filter fun x=>!p x)):=by
 apply mE;unfold fF
 refine iCall ((E9 h0 hs.sl hf).mono ?_)
 rintro r w1 ⟨x1,⟨rfl,hno⟩ | ⟨i0,rfl,hi0,hp0,hno⟩⟩
 ·refine iEq (iCndT (by decide) ⟨h0.trans x1,?_⟩)
  rw [MY hno];exact hs.ext x1
 refine iEq (iCndF (by simp) ?_)
 refine iAdd (by omega) ?_
 have hs1:=hs.ext x1
 have X1:=h0.trans x1
 obtain ⟨g,cap,hv,hcap,hcm⟩:=hs1.open (by intro e;have:=bG L;rw [e] at this;simp at this;omega)
 rw [bG] at hv hcap
 have hg:v.ownBlock = some g:=by rw [hv];rfl
 have hglo:=(hs1.blk g hg).1
 have hfl:∀ j,L.take (j + 1) = L.take j ++ (if j < L.length then [gt L j] else []):=fun j=>by
  split
  ·rename_i h;rw [List.take_succ_eq_append_getElem h,gt_eq h]
  ·rename_i h;rw [List.append_nil,List.take_of_length_le (by omega),List.take_of_length_le (by omega)]
 refine iLp (fun s:Nat × Nat=>[.int .i64 (s.1:Int),.int .i64 (s.2:Int)]) (fun s w'=>s.1 < s.2 ∧ s.2 ≤ L.length ∧ ∃ M,Turn w0.heap.size aB sv v w1 w' M ∧ M.length = L.length ∧ M.take s.1 = (L.take s.2).filter (fun x=>!p x) ∧ ∀ j,s.2 ≤ j → gt M j = gt L j) (fun s=>L.length - s.2) (i0,i0 + 1) rfl
  ⟨by show i0 < i0 + 1;omega,by show i0 + 1 ≤ _;omega,L,Turn.refl hs1,rfl,?_,fun _ _=>rfl⟩ ?_
 ·show L.take i0 = (L.take (i0 + 1)).filter fun x=>!p x
  rw [hfl,if_pos hi0,List.filter_append,List.filter_cons,hp0]
  have:(L.take i0).filter (fun x=>!p x) = L.take i0:=MY fun j hj=>by
   rw [List.length_take] at hj
   rw [aDS (by omega)];exact hno j (by omega)
  rw [this];simp
 rintro ⟨i,j⟩ w3 Kn ⟨hij,hj,M,ht,hM,hMt,hMe⟩ hKn
 have hij:i < j:=hij
 have hj:j ≤ L.length:=hj
 have hMt:M.take i = (L.take j).filter (fun x=>!p x):=hMt
 have hMe:∀ k,j ≤ k → gt M k = gt L k:=hMe
 have X3:Ext w0 w3:=X1.thenCh ht.ch fun b hb=>by rw [hg] at hb;cases hb;exact hglo
 intro _
 simp only [gx]
 have hlenv:∀ {K:Value → Prop},K (.int .i64 (L.length:Nat)) → xLenS v K:=fun h=>by rw [hv];exact iLenL h
 refine hlenv ?_
 refine iLt ?_
 refine iCndP (fun h3=>?_) (fun h3=>?_)
 ·have hjl:j < L.length:=by omega
  have hsl:SlT w3 v M:=ht.ow.sl
  refine iIaG hsl rfl (by omega) ?_
  rw [hMe j (Nat.le_refl _)]
  refine (hf (gt L j) (by rw [gt_eq hjl];exact List.getElem_mem _) w3 X3).mono ?_
  rintro u w4 ⟨rfl,x4⟩
  have ht4:=ht.ext x4
  refine iNot ?_
  have hfj:(L.take (j + 1)).filter (fun x=>!p x) = (L.take j).filter (fun x=>!p x) ++ if p (gt L j) then [] else [gt L j]:=by
   rw [hfl,if_pos hjl,List.filter_append,List.filter_cons]
   cases p (gt L j) <;> simp
  refine iCnd (fun h4=>?_) (fun h4=>?_)
  ·rw [show p (gt L j) = false by simpa using h4] at hfj
   refine iIaOw ht4.ow (by omega) (by rw [List.length_map];omega) fun b o hb _ _ hc hfz hset=>?_
   refine iSt (hc.trans (List.getElem?_eq_getElem (by rw [List.length_map];omega))) hfz rfl ?_
   have hset:=hset (sv (gt L j))
   rw [Int.toNat_natCast,← List.map_set] at hset
   refine iAdd (by omega) ?_
   refine iAdd (by omega) ?_
   refine hKn (i + 1,j + 1) _ ⟨by show i + 1 < j + 1;omega,hjl,M.set i (gt L j),⟨hset,ht4.ch.trans ((Upd.setCell w4 b o _).ch (S:=fun c=>v.ownBlock = some c) hb) fun _ e=>.inl e⟩,by rw [List.length_set];exact hM,?_,fun k hk=>?_⟩ (by show L.length - (j + 1) < L.length - j;omega)
   ·show (M.set i (gt L j)).take (i + 1) = (L.take (j + 1)).filter fun x=>!p x
    rw [hfj,List.take_succ_eq_append_getElem (by rw [List.length_set];omega),List.getElem_set_self,List.take_set_of_le (Nat.le_refl _),hMt]
    rfl
   ·have hk:j + 1 ≤ k:=hk
    rw [pH _ (by omega),if_neg (by omega)]
    exact hMe k (by omega)
  ·rw [show p (gt L j) = true by simpa using h4] at hfj
   refine iAdd (by omega) ?_
   refine hKn (i,j + 1) _ ⟨by show i < j + 1;omega,hjl,M,ht4,hM,?_,fun k hk=>hMe k (by have hk:j + 1 ≤ k:=hk;omega)⟩ (by show L.length - (j + 1) < L.length - j;omega)
   show M.take i = _
   rw [hfj,hMt];simp
 ·have hend:j = L.length:=by omega
  subst hend
  rw [List.take_length] at hMt
  have ho:=ht.ow
  rw [hv] at ho ⊢
  refine SJ (k:=i) (by omega) hcap ?_
  refine iClr kZ kT rfl ho (by rw [List.length_map];exact hM) (by omega) fun w8 h8 hc8=>?_
  refine LD (k:=i) (by omega) hcap ?_
  rw [show (List.map sv M).take i = strs (M.take i) from IR M i,hMt] at h8
  exact ⟨X3.thenCh hc8 fun b hb=>by rw [hb];exact hglo,h8⟩
end Go.Proofs.YteifjhpddhppcaaGreatDoor

namespace Go.Vc
def Fm.plain:Fm → Bool
 | .var _=>true
 | .fls=>true
 | .and a b=>a.plain && b.plain
 | .or a b=>a.plain && b.plain
 | .imp a b=>a.plain && b.plain
 | .box _=>false
 | .dia _=>false
/-! ### Models -/
structure KM where
 W:Type
 le:W → W → Prop
 refl:∀ w,le w w
 trans:∀ a b c,le a b → le b c → le a c
 v:W → Nat → Prop
 mono:∀ a b p,le a b → v a p → v b p
def KM.f (M:KM):Fm → M.W → Prop
 | .var p,w=>M.v w p
 | .fls,_=>False
 | .and a b,w=>M.f a w ∧ M.f b w
 | .or a b,w=>M.f a w ∨ M.f b w
 | .imp a b,w=>∀ u,M.le w u → M.f a u → M.f b u
 | .box _,_=>True
 | .dia _,_=>True
theorem KM.up (M:KM):∀ (a:Fm) (w u:M.W),M.le w u → M.f a w → M.f a u
 | .var p,_,_,h,k=>M.mono _ _ p h k
 | .fls,_,_,_,k=>k
 | .and a b,w,u,h,k=>⟨M.up a w u h k.1,M.up b w u h k.2⟩
 | .or a b,w,u,h,k=>k.imp (M.up a w u h) (M.up b w u h)
 | .imp _ _,_,_,h,k=>fun x hx=>k x (M.trans _ _ _ h hx)
 | .box _,_,_,_,_=>trivial
 | .dia _,_,_,_,_=>trivial
abbrev KM.fs (M:KM) (G:List Fm) (w:M.W):Prop:=∀ a ∈ G,M.f a w
def Vld (G:List Fm) (c:Fm):Prop:=∀ (M:KM) (w:M.W),M.fs G w → M.f c w
theorem Vld.congr {G G':List Fm} {c:Fm} (h:∀ (M:KM) (w:M.W),M.fs G w ↔ M.fs G' w):Vld G c ↔ Vld G' c:=
 ⟨fun k M w hw=>k M w ((h M w).2 hw),fun k M w hw=>k M w ((h M w).1 hw)⟩
theorem Vld.two {G G1 G2:List Fm} {c:Fm} (h:∀ (M:KM) (w:M.W),M.fs G w ↔ M.fs G1 w ∨ M.fs G2 w):Vld G c ↔ Vld G1 c ∧ Vld G2 c:=
 ⟨fun k=>⟨fun M w hw=>k M w ((h M w).2 (.inl hw)),fun M w hw=>k M w ((h M w).2 (.inr hw))⟩,fun k M w hw=>((h M w).1 hw).elim (k.1 M w) (k.2 M w)⟩
theorem aZ (M:KM) (w:M.W) {G rest:List Fm} {a:Fm} (hG:∀ x,x ∈ G ↔ x = a ∨ x ∈ rest):M.fs G w ↔ M.f a w ∧ M.fs rest w:=
 ⟨fun h=>⟨h a ((hG a).2 (.inl rfl)),fun x hx=>h x ((hG x).2 (.inr hx))⟩,fun h x hx=>((hG x).1 hx).elim (fun e=>e ▸ h.1) (h.2 x)⟩
/-! ### What the rules for the left side do -/
theorem f_and {M:KM} {w:M.W} (a b:Fm):M.f (.and a b) w ↔ M.f a w ∧ M.f b w:=Iff.rfl
theorem f_or {M:KM} {w:M.W} (a b:Fm):M.f (.or a b) w ↔ M.f a w ∨ M.f b w:=Iff.rfl
theorem aA0 {M:KM} {w:M.W} (a b c:Fm):M.f (.imp (.and a b) c) w ↔ M.f (.imp a (.imp b c)) w:=
 ⟨fun h u hu ha x hx hb=>h x (M.trans _ _ _ hu hx) ⟨M.up a u x hx ha,hb⟩,fun h u hu hab=>h u hu hab.1 u (M.refl u) hab.2⟩
theorem aCM {M:KM} {w:M.W} (a b c:Fm):M.f (.imp (.or a b) c) w ↔ M.f (.imp a c) w ∧ M.f (.imp b c) w:=
 ⟨fun h=>⟨fun u hu ha=>h u hu (.inl ha),fun u hu hb=>h u hu (.inr hb)⟩,fun h u hu hab=>hab.elim (h.1 u hu) (h.2 u hu)⟩
theorem aAW {M:KM} {w:M.W} (b:Fm):M.f (.imp .fls b) w:=fun _ _ h=>h.elim
theorem WL {M:KM} {w:M.W} {a b:Fm} (h:M.f a w):M.f (.imp a b) w ↔ M.f b w:=
 ⟨fun k=>k w (M.refl w) h,fun k u hu _=>M.up b w u hu k⟩
theorem mN {M:KM} {w:M.W} {a b:Fm} (h:M.f b w):M.f (.imp a b) w:=fun u hu _=>M.up b w u hu h
theorem Vld.and {G:List Fm} {a b:Fm}:Vld G (.and a b) ↔ Vld G a ∧ Vld G b:=
 ⟨fun h=>⟨fun M w hw=>(h M w hw).1,fun M w hw=>(h M w hw).2⟩,fun h M w hw=>⟨h.1 M w hw,h.2 M w hw⟩⟩
theorem Vld.imp {G G':List Fm} {a b:Fm} (hG:∀ x,x ∈ G' ↔ x = a ∨ x ∈ G):Vld G (.imp a b) ↔ Vld G' b:=by
 constructor
 ·intro h M w hw
  have h1:=(aZ M w hG).1 hw
  exact h M w h1.2 w (M.refl w) h1.1
 ·intro h M w hw u hu ha
  exact h M u ((aZ M u hG).2 ⟨ha,fun x hx=>M.up x w u hu (hw x hx)⟩)
/-! ### A model of many, with a root below -/
section
variable {ι:Type} (M:ι → KM) (r:(i:ι) → (M i).W) (at0:Nat → Prop) (hat:∀ i p,at0 p → (M i).v (r i) p)
def glue:KM where
 W:=Option ((i:ι) × (M i).W)
 le:=fun a b=>(a = none ∧ (b = none ∨ ∃ i y,b = some ⟨i,y⟩ ∧ (M i).le (r i) y)) ∨ ∃ i x y,a = some ⟨i,x⟩ ∧ b = some ⟨i,y⟩ ∧ (M i).le x y
 refl:=fun w=>by
  cases w with
  | none=>exact .inl ⟨rfl,.inl rfl⟩
  | some p=>exact .inr ⟨p.1,p.2,p.2,rfl,rfl,(M p.1).refl _⟩
 trans:=fun a b c h k=>by
  rcases h with ⟨rfl,h⟩ | ⟨i,x,y,rfl,rfl,h⟩
  ·rcases h with rfl | ⟨i,y,rfl,h⟩
   ·exact k
   ·rcases k with ⟨k,_⟩ | ⟨j,x',y',e,rfl,k⟩
    ·cases k
    ·injection e with e
     injection e with e1 e2
     subst e1
     have e2:=eq_of_heq e2
     subst e2
     exact .inl ⟨rfl,.inr ⟨i,y',rfl,(M i).trans _ _ _ h k⟩⟩
  ·rcases k with ⟨k,_⟩ | ⟨j,x',y',e,rfl,k⟩
   ·cases k
   ·injection e with e
    injection e with e1 e2
    subst e1
    have e2:=eq_of_heq e2
    subst e2
    exact .inr ⟨i,x,y',rfl,rfl,(M i).trans _ _ _ h k⟩
 v:=fun w p=>match w with
  | none=>at0 p
  | some ⟨i,x⟩=>(M i).v x p
 mono:=fun a b p h k=>by
  rcases h with ⟨rfl,h⟩ | ⟨i,x,y,rfl,rfl,h⟩
  ·rcases h with rfl | ⟨i,y,rfl,h⟩
   ·exact k
   ·exact (M i).mono _ _ p h (hat i p k)
  ·exact (M i).mono _ _ p h k
theorem kQ:∀ (a:Fm) (i:ι) (x:(M i).W),(glue M r at0 hat).f a (some ⟨i,x⟩) ↔ (M i).f a x
 | .var _,_,_=>Iff.rfl
 | .fls,_,_=>Iff.rfl
 | .and a b,i,x=>and_congr (kQ a i x) (kQ b i x)
 | .or a b,i,x=>or_congr (kQ a i x) (kQ b i x)
 | .imp a b,i,x=>by
  constructor
  ·intro h u hu ha
   exact (kQ b i u).1 (h (some ⟨i,u⟩) (.inr ⟨i,x,u,rfl,rfl,hu⟩) ((kQ a i u).2 ha))
  ·intro h u hu ha
   rcases hu with ⟨e,_⟩ | ⟨j,x',y,e,rfl,hu⟩
   ·cases e
   ·injection e with e
    injection e with e1 e2
    subst e1
    have e2:=eq_of_heq e2
    subst e2
    exact (kQ b i y).2 (h y hu ((kQ a i y).1 ha))
 | .box _,_,_=>Iff.rfl
 | .dia _,_,_=>Iff.rfl
theorem aA2 {a:Fm} {i:ι} (h:¬ (M i).f a (r i)):¬ (glue M r at0 hat).f a none:=fun k=>
 h ((kQ M r at0 hat a i (r i)).1 ((glue M r at0 hat).up a none _ (.inl ⟨rfl,.inr ⟨i,r i,rfl,(M i).refl _⟩⟩) k))
end
theorem ZA {G:List Fm} {c:Fm} (h:¬ Vld G c):∃ p:(M:KM) × M.W,p.1.fs G p.2 ∧ ¬ p.1.f c p.2:=by
 apply Classical.byContradiction
 intro k
 exact h fun M w hw=>Classical.byContradiction fun hc=>k ⟨⟨M,w⟩,hw,hc⟩
theorem stuck {G:List Fm} {c:Fm} (hs:∀ a ∈ G,(∃ p,a = .var p) ∨ ∃ x y,a = .imp x y ∧ ((∃ p,x = .var p ∧ Fm.var p ∉ G) ∨ ¬ Vld G x))
  (hc:(∃ p,c = .var p ∧ c ∉ G) ∨ c = .fls ∨ ∃ a b,c = .or a b ∧ ¬ Vld G a ∧ ¬ Vld G b):¬ Vld G c:=by
 let ι:={ x:Fm // ¬ Vld G x }
 let pm:ι → (M:KM) × M.W:=fun i=>Classical.choose (ZA i.2)
 have hpm:∀ i:ι,(pm i).1.fs G (pm i).2 ∧ ¬ (pm i).1.f i.1 (pm i).2:=fun i=>Classical.choose_spec (ZA i.2)
 let at0:Nat → Prop:=fun p=>Fm.var p ∈ G
 have hat:∀ (i:ι) (p:Nat),at0 p → (pm i).1.v (pm i).2 p:=fun i p hp=>(hpm i).1 _ hp
 let N:=glue (fun i=>(pm i).1) (fun i=>(pm i).2) at0 hat
 have hno:∀ x,¬ Vld G x → ¬ N.f x none:=fun x hx=>aA2 (fun i=>(pm i).1) (fun i=>(pm i).2) at0 hat (i:=⟨x,hx⟩) (hpm ⟨x,hx⟩).2
 have hroot:N.fs G none:=by
  intro a ha
  rcases hs a ha with ⟨p,rfl⟩ | ⟨x,y,rfl,hx⟩
  ·exact ha
  ·have hxn:¬ N.f x none:=by
    rcases hx with ⟨p,rfl,hp⟩ | hx
    ·exact hp
    ·exact hno x hx
   intro u hu hxu
   rcases hu with ⟨_,hu⟩ | ⟨i,x',y',e,_⟩
   ·rcases hu with rfl | ⟨i,z,rfl,hz⟩
    ·exact absurd hxu hxn
    ·refine (kQ (fun i=>(pm i).1) (fun i=>(pm i).2) at0 hat y i z).2 ?_
     exact (hpm i).1 _ ha z hz ((kQ (fun i=>(pm i).1) (fun i=>(pm i).2) at0 hat x i z).1 hxu)
   ·cases e
 intro hv
 have h1:=hv N none hroot
 rcases hc with ⟨p,rfl,hp⟩ | rfl | ⟨a,b,rfl,ha,hb⟩
 ·exact hp h1
 ·exact h1
 ·exact h1.elim (hno a ha) (hno b hb)
/-! ### The rule for (x > y) > z on the left side -/
section
variable {G rest:List Fm} {x y z c:Fm} (hG:∀ a,a ∈ G ↔ a = .imp (.imp x y) z ∨ a ∈ rest)
 include hG
theorem aEH {M:KM} {w:M.W} (h:M.fs rest w) (hyz:M.f (.imp y z) w) (hx:M.f x w):M.fs G w:=
 (aZ M w hG).2 ⟨fun u hu hxy=>hyz u hu (hxy u (M.refl u) (M.up x w u hu hx)),h⟩
theorem aAV {M:KM} {w:M.W} (h:M.fs G w):M.fs rest w ∧ M.f (.imp y z) w:=by
 obtain ⟨h1,h2⟩:=(aZ M w hG).1 h
 exact ⟨h2,fun u hu hy=>h1 u hu (mN hy)⟩
theorem VX {G1:List Fm} (h1:∀ a,a ∈ G1 ↔ a = .imp y z ∨ a ∈ rest):Vld G1 (.imp x y) ↔ Vld G (.imp x y):=by
 constructor
 ·intro h M w hw
  have:=aAV hG hw
  exact h M w ((aZ M w h1).2 ⟨this.2,this.1⟩)
 ·intro h M w hw u hu hx
  have h2:=(aZ M w h1).1 hw
  exact h M u (aEH hG (fun a ha=>M.up a w u hu (h2.2 a ha)) (M.up _ w u hu h2.1) hx) u (M.refl u) hx
theorem aC1 {G2:List Fm} (h2:∀ a,a ∈ G2 ↔ a = .imp y z ∨ a = x ∨ a ∈ rest):Vld G2 y ↔ Vld G (.imp x y):=by
 rw [← VX hG (G1:=.imp y z :: rest) (fun a=>by simp)]
 exact (Vld.imp (fun a=>by rw [h2 a,List.mem_cons];exact or_left_comm)).symm
theorem OY {G3:List Fm} (h3:∀ a,a ∈ G3 ↔ a = z ∨ a ∈ rest) (h:Vld G (.imp x y)):Vld G3 c ↔ Vld G c:=by
 constructor
 ·intro k M w hw
  have h1:=(aZ M w hG).1 hw
  exact k M w ((aZ M w h3).2 ⟨(WL (h M w hw)).1 h1.1,h1.2⟩)
 ·intro k M w hw
  have h1:=(aZ M w h3).1 hw
  exact k M w ((aZ M w hG).2 ⟨mN h1.1,h1.2⟩)
end
/-! ### The other rules for the left side -/
section
variable {G rest:List Fm} {a b x y c:Fm}
theorem WP {M:KM} {w:M.W} (hG:∀ u,u ∈ G ↔ u = a ∨ u ∈ rest) (h:M.fs rest w → M.f a w):M.fs G w ↔ M.fs rest w:=by
 rw [aZ M w hG];exact ⟨fun h=>h.2,fun k=>⟨h k,k⟩⟩
theorem V9 (hG:∀ u,u ∈ G ↔ u = .or a b ∨ u ∈ rest) (h:a ∈ rest ∨ b ∈ rest):Vld rest c ↔ Vld G c:=
 (Vld.congr fun _ _=>WP hG fun k=>h.imp (k a) (k b)).symm
theorem F9 (hG:∀ u,u ∈ G ↔ u = .imp .fls b ∨ u ∈ rest):Vld rest c ↔ Vld G c:=
 (Vld.congr fun _ _=>WP hG fun _=>aAW b).symm
theorem U0 (hG:∀ u,u ∈ G ↔ u = .imp a b ∨ u ∈ rest) (h:b ∈ rest):Vld rest c ↔ Vld G c:=
 (Vld.congr fun _ _=>WP hG fun k=>mN (k b h)).symm
theorem r_and {G1:List Fm} (hG:∀ u,u ∈ G ↔ u = .and a b ∨ u ∈ rest) (h1:∀ u,u ∈ G1 ↔ u = a ∨ u = b ∨ u ∈ rest):Vld G1 c ↔ Vld G c:=by
 refine Vld.congr fun M w=>?_
 rw [aZ M w hG,aZ M w (rest:=b :: rest) (a:=a) (fun u=>by rw [h1 u,List.mem_cons]),aZ M w (G:=b :: rest) (a:=b) (fun u=>List.mem_cons),f_and,and_assoc]
theorem r_or {G1 G2:List Fm} (hG:∀ u,u ∈ G ↔ u = .or a b ∨ u ∈ rest) (h1:∀ u,u ∈ G1 ↔ u = a ∨ u ∈ rest) (h2:∀ u,u ∈ G2 ↔ u = b ∨ u ∈ rest):Vld G c ↔ Vld G1 c ∧ Vld G2 c:=by
 refine Vld.two fun M w=>?_
 rw [aZ M w hG,aZ M w h1,aZ M w h2,f_or]
 exact or_and_right
theorem T4 {G1:List Fm} (hG:∀ u,u ∈ G ↔ u = .imp (.and a b) y ∨ u ∈ rest) (h1:∀ u,u ∈ G1 ↔ u = .imp a (.imp b y) ∨ u ∈ rest):Vld G1 c ↔ Vld G c:=by
 refine Vld.congr fun M w=>?_
 rw [aZ M w hG,aZ M w h1,aA0]
theorem VS {G1:List Fm} (hG:∀ u,u ∈ G ↔ u = .imp (.or a b) y ∨ u ∈ rest) (h1:∀ u,u ∈ G1 ↔ u = .imp a y ∨ u = .imp b y ∨ u ∈ rest):Vld G1 c ↔ Vld G c:=by
 refine Vld.congr fun M w=>?_
 rw [aZ M w hG,aZ M w (rest:=.imp b y :: rest) (a:=.imp a y) (fun u=>by rw [h1 u,List.mem_cons]),aZ M w (G:=.imp b y :: rest) (a:=.imp b y) (fun u=>List.mem_cons),aCM,and_assoc]
theorem WE {G1:List Fm} (hG:∀ u,u ∈ G ↔ u = .imp x y ∨ u ∈ rest) (h1:∀ u,u ∈ G1 ↔ u = y ∨ u ∈ rest) (hx:x ∈ rest):Vld G1 c ↔ Vld G c:=by
 refine Vld.congr fun M w=>?_
 rw [aZ M w hG,aZ M w h1]
 exact ⟨fun h=>⟨mN h.1,h.2⟩,fun h=>⟨(WL (h.2 x hx)).1 h.1,h.2⟩⟩
end
theorem Vld.mem {G:List Fm} {c:Fm} (h:c ∈ G):Vld G c:=fun _ _ hw=>hw c h
theorem Vld.fls {G:List Fm} {c:Fm} (h:Fm.fls ∈ G):Vld G c:=fun _ _ hw=>(hw _ h).elim
/-! ### A measure that each premise makes smaller -/
def Fm.wt:Fm → Nat
 | .var _=>1
 | .fls=>1
 | .and a b=>a.wt + b.wt + 2
 | .or a b=>a.wt + b.wt + 1
 | .imp a b=>a.wt + b.wt + 1
 | .box _=>1
 | .dia _=>1
theorem Fm.wt_pos (a:Fm):1 ≤ a.wt:=by cases a <;> simp only [Fm.wt] <;> omega
end Go.Vc

namespace Go.Vc
def Fm.w2 (a:Fm):Nat:=2 ^ a.wt
theorem Fm.w2_ge (a:Fm):2 ≤ a.w2:=by
 have:=Nat.pow_le_pow_right (n:=2) (by omega) a.wt_pos
 simpa [Fm.w2] using this
theorem oA {x y:Nat} (hx:2 ≤ x) (hy:2 ≤ y):x + y ≤ x * y:=by
 obtain ⟨a,rfl⟩:=Nat.exists_eq_add_of_le hx
 obtain ⟨b,rfl⟩:=Nat.exists_eq_add_of_le hy
 rw [Nat.add_mul,Nat.mul_add,Nat.mul_add]
 omega
theorem VP (a b:Fm):(Fm.and a b).w2 = 4 * (a.w2 * b.w2):=by
 simp only [Fm.w2,Fm.wt,Nat.pow_add];omega
theorem w2_or (a b:Fm):(Fm.or a b).w2 = 2 * (a.w2 * b.w2):=by
 simp only [Fm.w2,Fm.wt,Nat.pow_add];omega
theorem jD (a b:Fm):(Fm.imp a b).w2 = 2 * (a.w2 * b.w2):=by
 simp only [Fm.w2,Fm.wt,Nat.pow_add];omega
theorem QL (a b:Fm):a.w2 + b.w2 < (Fm.and a b).w2:=by
 rw [VP]
 have:=oA a.w2_ge b.w2_ge
 have:=a.w2_ge
 omega
theorem lt_or (a b:Fm):a.w2 + b.w2 < (Fm.or a b).w2:=by
 rw [w2_or]
 have:=oA a.w2_ge b.w2_ge
 have:=a.w2_ge
 omega
theorem yM (a b:Fm):a.w2 + b.w2 < (Fm.imp a b).w2:=by
 rw [jD]
 have:=oA a.w2_ge b.w2_ge
 have:=a.w2_ge
 omega
theorem P3 (a b y:Fm):(Fm.imp a (.imp b y)).w2 < (Fm.imp (.and a b) y).w2:=by
 rw [jD,jD,jD,VP]
 have e:2 * (4 * (a.w2 * b.w2) * y.w2) = 8 * (a.w2 * (b.w2 * y.w2)):=by rw [Nat.mul_assoc 4,Nat.mul_assoc a.w2];omega
 have e2:2 * (a.w2 * (2 * (b.w2 * y.w2))) = 4 * (a.w2 * (b.w2 * y.w2)):=by rw [Nat.mul_left_comm a.w2];omega
 rw [e,e2]
 have:0 < a.w2 * (b.w2 * y.w2):=Nat.mul_pos (by have:=a.w2_ge;omega) (Nat.mul_pos (by have:=b.w2_ge;omega) (by have:=y.w2_ge;omega))
 omega
theorem TO (a b y:Fm):(Fm.imp a y).w2 + (Fm.imp b y).w2 < (Fm.imp (.or a b) y).w2:=by
 rw [jD,jD,jD,w2_or]
 have h1:=oA a.w2_ge b.w2_ge
 have h2:(a.w2 + b.w2) * y.w2 ≤ a.w2 * b.w2 * y.w2:=Nat.mul_le_mul_right _ h1
 rw [Nat.add_mul] at h2
 have e:2 * (2 * (a.w2 * b.w2) * y.w2) = 4 * (a.w2 * b.w2 * y.w2):=by rw [Nat.mul_assoc 2];omega
 rw [e]
 have:0 < a.w2 * y.w2:=Nat.mul_pos (by have:=a.w2_ge;omega) (by have:=y.w2_ge;omega)
 omega
theorem ZH (x y z:Fm):(Fm.imp y z).w2 + (Fm.imp x y).w2 < (Fm.imp (.imp x y) z).w2:=by
 rw [jD,jD,jD,jD]
 have h1:=oA x.w2_ge z.w2_ge
 have h2:(x.w2 + z.w2) * y.w2 ≤ x.w2 * z.w2 * y.w2:=Nat.mul_le_mul_right _ h1
 rw [Nat.add_mul] at h2
 have e:2 * (2 * (x.w2 * y.w2) * z.w2) = 4 * (x.w2 * z.w2 * y.w2):=by rw [Nat.mul_assoc 2,Nat.mul_right_comm x.w2];omega
 have e2:z.w2 * y.w2 = y.w2 * z.w2:=Nat.mul_comm _ _
 rw [e]
 have:0 < x.w2 * y.w2:=Nat.mul_pos (by have:=x.w2_ge;omega) (by have:=y.w2_ge;omega)
 omega
theorem Fm.wt_size:∀ {a:Fm},a.plain = true → a.size ≤ a.wt ∧ a.wt ≤ 2 * a.size
 | .var _,_=>by simp [Fm.size,Fm.wt]
 | .fls,_=>by simp [Fm.size,Fm.wt]
 | .and a b,h=>by
  simp only [Fm.plain,Bool.and_eq_true] at h
  have h1:=Fm.wt_size h.1
  have h2:=Fm.wt_size h.2
  simp only [Fm.size,Fm.wt];omega
 | .or a b,h=>by
  simp only [Fm.plain,Bool.and_eq_true] at h
  have h1:=Fm.wt_size h.1
  have h2:=Fm.wt_size h.2
  simp only [Fm.size,Fm.wt];omega
 | .imp a b,h=>by
  simp only [Fm.plain,Bool.and_eq_true] at h
  have h1:=Fm.wt_size h.1
  have h2:=Fm.wt_size h.2
  simp only [Fm.size,Fm.wt];omega
theorem wL (b:Bool) (s:Str):(par b s).length ≤ s.length + 2:=by cases b <;> simp [par]
theorem Fm.body_len:∀ {a:Fm},a.plain = true → a.body.length ≤ 5 * a.wt
 | .var _,_=>by simp [Fm.body,Fm.wt]
 | .fls,_=>by simp [Fm.body,Fm.wt]
 | .and a b,h=>by
  simp only [Fm.plain,Bool.and_eq_true] at h
  have h1:=Fm.body_len h.1
  have h2:=Fm.body_len h.2
  have p1:=wL (decide (a.own < 2)) a.body
  have p2:=wL (decide (b.own < 3)) b.body
  simp only [Fm.body,Fm.wt,List.length_append,List.length_cons];omega
 | .or a b,h=>by
  simp only [Fm.plain,Bool.and_eq_true] at h
  have h1:=Fm.body_len h.1
  have h2:=Fm.body_len h.2
  have p1:=wL (decide (a.own < 1)) a.body
  have p2:=wL (decide (b.own < 2)) b.body
  simp only [Fm.body,Fm.wt,List.length_append,List.length_cons];omega
 | .imp a b,h=>by
  simp only [Fm.plain,Bool.and_eq_true] at h
  have h1:=Fm.body_len h.1
  have h2:=Fm.body_len h.2
  have p1:=wL (decide (a.own < 1)) a.body
  have p3:=wL (decide (a.own < 3)) a.body
  have:=b.wt_pos
  simp only [Fm.body,Fm.wt]
  split
  ·split
   ·simp only [List.length_cons,List.length_nil];omega
   ·simp only [List.length_cons];omega
  ·simp only [List.length_append,List.length_cons];omega
theorem XV (n:Nat):n < 2 ^ n:=Nat.lt_two_pow_self
theorem n5 {b:Bool} {s:Str} {c:UInt8} (h:c ∈ par b s):c = 40 ∨ c = 41 ∨ c ∈ s:=by
 cases b
 ·exact .inr (.inr h)
 ·simp only [par,if_true,List.mem_cons,List.mem_append,List.not_mem_nil,or_false] at h
  rcases h with h | h | h
  ·exact .inl h
  ·exact .inr (.inr h)
  ·exact .inr (.inl h)
theorem Fm.body_mem:∀ {a:Fm},a.good → ∀ c ∈ a.body,c ≠ 47 ∧ c ≠ 59
 | .var v,h,c,hc=>by
  simp only [Fm.body,List.mem_singleton] at hc
  subst hc
  have h:v < 6:=h
  exact ⟨vl_ne h (by decide),vl_ne h (by decide)⟩
 | .fls,_,c,hc=>by
  simp only [Fm.body,List.mem_singleton] at hc
  subst hc;decide
 | .and a b,h,c,hc=>by
  simp only [Fm.body,List.mem_append,List.mem_cons] at hc
  rcases hc with hc | rfl | hc
  ·rcases n5 hc with rfl | rfl | hc
   ·decide
   ·decide
   ·exact Fm.body_mem h.1 c hc
  ·decide
  ·rcases n5 hc with rfl | rfl | hc
   ·decide
   ·decide
   ·exact Fm.body_mem h.2 c hc
 | .or a b,h,c,hc=>by
  simp only [Fm.body,List.mem_append,List.mem_cons] at hc
  rcases hc with hc | rfl | hc
  ·rcases n5 hc with rfl | rfl | hc
   ·decide
   ·decide
   ·exact Fm.body_mem h.1 c hc
  ·decide
  ·rcases n5 hc with rfl | rfl | hc
   ·decide
   ·decide
   ·exact Fm.body_mem h.2 c hc
 | .imp a b,h,c,hc=>by
  simp only [Fm.body] at hc
  split at hc
  ·split at hc
   ·simp only [List.mem_singleton] at hc;subst hc;decide
   ·simp only [List.mem_cons] at hc
    rcases hc with rfl | hc
    ·decide
    ·rcases n5 hc with rfl | rfl | hc
     ·decide
     ·decide
     ·exact Fm.body_mem h.1 c hc
  ·simp only [List.mem_append,List.mem_cons] at hc
   rcases hc with hc | rfl | hc
   ·rcases n5 hc with rfl | rfl | hc
    ·decide
    ·decide
    ·exact Fm.body_mem h.1 c hc
   ·decide
   ·exact Fm.body_mem h.2 c hc
 | .box a,h,c,hc=>by
  simp only [Fm.body,List.mem_cons] at hc
  rcases hc with rfl | rfl | hc
  ·decide
  ·decide
  ·rcases n5 hc with rfl | rfl | hc
   ·decide
   ·decide
   ·exact Fm.body_mem (a:=a) h c hc
 | .dia a,h,c,hc=>by
  simp only [Fm.body,List.mem_cons] at hc
  rcases hc with rfl | rfl | hc
  ·decide
  ·decide
  ·rcases n5 hc with rfl | rfl | hc
   ·decide
   ·decide
   ·exact Fm.body_mem (a:=a) h c hc
/-! ### Texts of plain formulas -/
def fT (t:Str):Fm:=(rd t).1
def GT (t:Str):Prop:=∃ a:Fm,a.good ∧ a.plain = true ∧ t = a.body
theorem aF {a:Fm} (h:a.good):fT a.body = a:=by rw [fT,ZM h]
theorem GT.at {t:Str} (h:GT t):(fT t).good ∧ (fT t).plain = true ∧ (fT t).body = t:=by
 obtain ⟨a,h1,h2,rfl⟩:=h
 rw [aF h1]
 exact ⟨h1,h2,rfl⟩
theorem GT.inj {t u:Str} (h:GT t) (k:GT u) (e:fT t = fT u):t = u:=by rw [← h.at.2.2,← k.at.2.2,e]
theorem GT.of {a:Fm} (h:a.good) (k:a.plain = true):GT a.body:=⟨a,h,k,rfl⟩
def wT (t:Str):Nat:=(fT t).w2
def mT (L:List Str):Nat:=(L.map wT).sum
theorem wT_ge (t:Str):2 ≤ wT t:=(fT t).w2_ge
theorem aA9 (A B:List Str):mT (A ++ B) = mT A + mT B:=by simp [mT]
theorem d8 (t:Str) (B:List Str):mT (t :: B) = wT t + mT B:=by simp [mT]
theorem XC (L:List Str):2 * L.length ≤ mT L:=by
 induction L with
 | nil=>simp
 | cons t L ih=>rw [d8,List.length_cons];have:=wT_ge t;omega
theorem aA6 {t:Str}:∀ {L:List Str},t ∈ L → wT t ≤ mT L
 | [],h=>by simp at h
 | u :: L,h=>by
  rw [d8]
  rcases List.mem_cons.1 h with rfl | h
  ·omega
  ·have:=aA6 h;omega
theorem IV (p:Str → Bool):∀ L:List Str,mT (L.filter p) ≤ mT L
 | []=>Nat.le_refl _
 | u :: L=>by
  have:=IV p L
  rw [List.filter_cons]
  split
  ·rw [d8,d8];omega
  ·rw [d8];omega
theorem ZI {t:Str}:∀ {L:List Str},t ∈ L → mT (L.filter fun u=>!decide (u = t)) + wT t ≤ mT L
 | [],h=>by simp at h
 | u :: L,h=>by
  rw [d8,List.filter_cons]
  by_cases e:u = t
  ·subst e
   rw [if_neg (by simp)]
   have:=IV (fun x=>!decide (x = u)) L
   omega
  ·rcases List.mem_cons.1 h with h | h
   ·exact absurd h.symm e
   ·rw [if_pos (by simp [e]),d8]
    have:=ZI h
    omega
theorem Y2 (x:Str):∀ l:List Str,mT (insT x l) ≤ mT l + wT x
 | []=>by rw [insT,d8];omega
 | y :: l=>by
  rw [insT]
  split
  ·rw [d8,d8];have:=Y2 x l;omega
  ·split
   ·rw [d8];omega
   ·rw [d8,d8];omega
theorem ZK (l:List Str):mT (setT l) ≤ mT l:=by
 have:∀ (l a:List Str),mT (l.foldl (fun a x=>insT x a) a) ≤ mT a + mT l:=by
  intro l
  induction l with
  | nil=>intro a;simp [mT]
  | cons x l ih=>intro a;rw [List.foldl_cons,d8];have:=ih (insT x a);have:=Y2 x a;omega
 have:=this l []
 simpa [setT,mT] using this
theorem KC {t:Str} (h:GT t):t.length ≤ 5 * (fT t).wt:=by
 have:=Fm.body_len h.at.2.1
 rwa [h.at.2.2] at this
theorem YR {t:Str} (h:GT t):t.length ≤ 5 * wT t:=by
 have:=KC h
 have:(fT t).wt < wT t:=XV _
 omega
theorem FX {a:Fm} {n:Nat} (h:a.w2 ≤ 2 ^ n):a.wt ≤ n:=by
 rcases Nat.lt_or_ge n a.wt with h1 | h1
 ·have:=Nat.pow_lt_pow_right (a:=2) (by omega) h1
  unfold Fm.w2 at h
  omega
 ·exact h1
structure SqT (L:List Str) (r:Str):Prop where
 left:∀ t ∈ L,GT t
 right:GT r
 small:mT L + wT r ≤ 1099511627776
def VT (L:List Str) (r:Str):Prop:=Vld (L.map fT) (fT r)
theorem SqT.wt_left {L:List Str} {r t:Str} (h:SqT L r) (ht:t ∈ L):(fT t).wt ≤ 40:=by
 have:=aA6 ht
 have:=h.small
 exact FX (n:=40) (by show wT t ≤ _;omega)
theorem SqT.wt_right {L:List Str} {r:Str} (h:SqT L r):(fT r).wt ≤ 40:=by
 have:=h.small
 exact FX (n:=40) (by show wT r ≤ _;omega)
def keyT (L:List Str) (r:Str):Str:=L.flatMap (fun t=>t ++ [47]) ++ 59 :: (r ++ [47])
theorem SB:∀ {a b r s:Str},(∀ c ∈ a,c ≠ 47) → (∀ c ∈ b,c ≠ 47) → a ++ 47 :: r = b ++ 47 :: s → a = b ∧ r = s
 | [],[],_,_,_,_,h=>by simp at h;exact ⟨rfl,h⟩
 | [],x :: b,_,_,_,hb,h=>by simp at h;exact absurd h.1.symm (hb x (by simp))
 | x :: a,[],_,_,ha,_,h=>by simp at h;exact absurd h.1 (ha x (by simp))
 | x :: a,y :: b,_,_,ha,hb,h=>by
  simp only [List.cons_append,List.cons.injEq] at h
  have:=SB (fun c hc=>ha c (by simp [hc])) (fun c hc=>hb c (by simp [hc])) h.2
  exact ⟨by rw [h.1,this.1],this.2⟩
theorem GT.mem {t:Str} (h:GT t):∀ c ∈ t,c ≠ 47 ∧ c ≠ 59:=by
 obtain ⟨a,h1,_,rfl⟩:=h
 exact Fm.body_mem h1
theorem XJ:∀ {L L':List Str} {r r':Str},(∀ t ∈ L,GT t) → (∀ t ∈ L',GT t) → GT r → GT r' → keyT L r = keyT L' r' → L = L' ∧ r = r'
 | [],[],r,r',_,_,h1,h2,h=>by
  simp only [keyT,List.flatMap_nil,List.nil_append,List.cons.injEq,true_and] at h
  exact ⟨rfl,(SB (fun c hc=>(h1.mem c hc).1) (fun c hc=>(h2.mem c hc).1) h).1⟩
 | [],t :: L',_,_,_,h2,_,_,h=>by
  simp only [keyT,List.flatMap_nil,List.nil_append,List.flatMap_cons,List.append_assoc] at h
  have ht:=(h2 t (by simp)).mem
  cases t with
  | nil=>simp at h
  | cons c t=>simp only [List.cons_append,List.cons.injEq] at h;exact absurd h.1.symm (ht c (by simp)).2
 | t :: L,[],_,_,h1,_,_,_,h=>by
  simp only [keyT,List.flatMap_nil,List.nil_append,List.flatMap_cons,List.append_assoc] at h
  have ht:=(h1 t (by simp)).mem
  cases t with
  | nil=>simp at h
  | cons c t=>simp only [List.cons_append,List.cons.injEq] at h;exact absurd h.1 (ht c (by simp)).2
 | t :: L,t' :: L',r,r',h1,h2,h3,h4,h=>by
  simp only [keyT,List.flatMap_cons,List.append_assoc,List.singleton_append] at h
  obtain ⟨e1,e2⟩:=SB (fun c hc=>((h1 t (by simp)).mem c hc).1) (fun c hc=>((h2 t' (by simp)).mem c hc).1) h
  have:=XJ (fun u hu=>h1 u (by simp [hu])) (fun u hu=>h2 u (by simp [hu])) h3 h4 e2
  exact ⟨by rw [e1,this.1],this.2⟩
theorem ZX:∀ {L:List Str},(∀ t ∈ L,GT t) → (L.flatMap (fun t=>t ++ [47])).length ≤ 6 * mT L
 | [],_=>by simp
 | t :: L,h=>by
  have:=ZX (fun u hu=>h u (by simp [hu]):∀ u ∈ L,GT u)
  have:=YR (h t (by simp))
  have:=wT_ge t
  rw [List.flatMap_cons,d8,List.length_append,List.length_append,List.length_singleton]
  omega
end Go.Vc

namespace Go.Vc
abbrev Sq:=List Str × Str
def dropT (t:Str) (L:List Str):List Str:=L.filter fun u=>!decide (u = t)
def ins (L:List Str) (t:Str) (ts:List Str):List Str:=setT (dropT t L ++ ts)
theorem jS {L:List Str} {t:Str} {ts:List Str} {u:Fm}:u ∈ (ins L t ts).map fT ↔ u ∈ ts.map fT ∨ u ∈ (dropT t L).map fT:=by
 simp only [ins,List.mem_map,fX,List.mem_append]
 constructor
 ·rintro ⟨a,h | h,rfl⟩
  ·exact .inr ⟨a,h,rfl⟩
  ·exact .inl ⟨a,h,rfl⟩
 ·rintro (⟨a,h,rfl⟩ | ⟨a,h,rfl⟩)
  ·exact ⟨a,.inr h,rfl⟩
  ·exact ⟨a,.inl h,rfl⟩
theorem UC {L:List Str} {t:Str} (ht:t ∈ L) (u:Fm):u ∈ L.map fT ↔ u = fT t ∨ u ∈ (dropT t L).map fT:=by
 simp only [dropT,List.mem_map,List.mem_filter]
 constructor
 ·rintro ⟨a,h,rfl⟩
  by_cases e:a = t
  ·exact .inl (by rw [e])
  ·exact .inr ⟨a,⟨h,by simp [e]⟩,rfl⟩
 ·rintro (rfl | ⟨a,⟨h,_⟩,rfl⟩)
  ·exact ⟨t,ht,rfl⟩
  ·exact ⟨a,h,rfl⟩
theorem SqT.ins {L:List Str} {r t r':Str} {ts:List Str} (h:SqT L r) (ht:t ∈ L) (hg:∀ u ∈ ts,GT u) (hr:GT r') (hm:mT ts + wT r' < wT t + wT r):SqT (ins L t ts) r' ∧ mT (ins L t ts) + wT r' < mT L + wT r:=by
 have h1:=ZK (dropT t L ++ ts)
 have h2:mT (dropT t L) + wT t ≤ mT L:=ZI ht
 rw [aA9] at h1
 have h3:=h.small
 have h4:mT (Go.Vc.ins L t ts) + wT r' < mT L + wT r:=by unfold Go.Vc.ins;omega
 refine ⟨⟨fun u hu=>?_,hr,by omega⟩,h4⟩
 rcases List.mem_append.1 (fX.1 hu) with hu | hu
 ·exact h.left u (List.mem_filter.1 hu).1
 ·exact hg u hu
structure Prem (L:List Str) (r:Str) (ps:List Sq):Prop where
 iff:VT L r ↔ ∀ p ∈ ps,VT p.1 p.2
 sq:∀ p ∈ ps,SqT p.1 p.2
 lt:∀ p ∈ ps,mT p.1 + wT p.2 < mT L + wT r
def aT (L:List Str) (r t:Str):List Sq × Bool:=
 match fT t with
 | .and a b=>([(ins L t [a.body,b.body],r)],true)
 | .or a b=>([(ins L t [a.body],r),(ins L t [b.body],r)],true)
 | .imp .fls _=>([(ins L t [],r)],true)
 | .imp (.var p) b=>([(ins L t [b.body],r)],decide ((Fm.var p).body ∈ L))
 | .imp (.and x y) b=>([(ins L t [(Fm.imp x (.imp y b)).body],r)],true)
 | .imp (.or x y) b=>([(ins L t [(Fm.imp x b).body,(Fm.imp y b).body],r)],true)
 | _=>([],false)
theorem wT_of {t:Str} {a:Fm} (h:fT t = a):wT t = a.w2:=by rw [wT,h]
theorem cL {a:Fm} (h:a.good):wT a.body = a.w2:=wT_of (aF h)
theorem xV (t:Str):mT [t] = wT t:=by simp [mT]
theorem aBK (t u:Str):mT [t,u] = wT t + wT u:=by simp [mT]
theorem ZJ {a b:Str} (h:GT a) (k:GT b):∀ u ∈ [a,b],GT u:=fun u hu=>by
 simp only [List.mem_cons,List.not_mem_nil,or_false] at hu
 rcases hu with rfl | rfl
 ·exact h
 ·exact k
theorem wM {a:Str} (h:GT a):∀ u ∈ [a],GT u:=fun u hu=>by rw [List.mem_singleton.1 hu];exact h
theorem Prem.one {L A:List Str} {r q:Str} (h:VT L r ↔ VT A q) (hs:SqT A q ∧ mT A + wT q < mT L + wT r):Prem L r [(A,q)]:=
 ⟨by simpa using h,by simpa using hs.1,by simpa using hs.2⟩
theorem Prem.two {L A B:List Str} {r q s:Str} (h:VT L r ↔ VT A q ∧ VT B s) (hs:SqT A q ∧ mT A + wT q < mT L + wT r) (ht:SqT B s ∧ mT B + wT s < mT L + wT r):Prem L r [(A,q),(B,s)]:=
 ⟨by simpa using h,by simpa using ⟨hs.1,ht.1⟩,by simpa using ⟨hs.2,ht.2⟩⟩
theorem aQ {a b:Fm} (h:(Fm.imp a b).plain = true):a.plain = true ∧ b.plain = true:=by simpa [Fm.plain] using h
theorem cC {a b:Fm} (h:(Fm.and a b).plain = true):a.plain = true ∧ b.plain = true:=by simpa [Fm.plain] using h
theorem e6 {a b:Fm} (h:(Fm.or a b).plain = true):a.plain = true ∧ b.plain = true:=by simpa [Fm.plain] using h
theorem sW {a b:Fm} (h:a.plain = true) (k:b.plain = true):(Fm.imp a b).plain = true:=by simp [Fm.plain,h,k]
theorem aCZ {L:List Str} {r t:Str} (h:SqT L r) (ht:t ∈ L) (hk:(aT L r t).2 = true):Prem L r (aT L r t).1:=by
 obtain ⟨hg,hp,-⟩:=(h.left t ht).at
 have hS:=UC ht
 have r2:=wT_ge r
 have hw:wT t = (fT t).w2:=rfl
 unfold aT at hk ⊢
 split at hk
 ·rename_i a b e
  rw [e] at hg hp hS hw
  have g1:=GT.of hg.1 (cC hp).1
  have g2:=GT.of hg.2 (cC hp).2
  refine Prem.one (r_and hS (fun u=>?_)).symm (h.ins ht (ZJ g1 g2) h.right ?_)
  ·rw [jS];simp only [List.map_cons,List.map_nil,aF hg.1,aF hg.2,List.mem_cons,List.not_mem_nil,or_false,or_assoc]
  ·rw [aBK,cL hg.1,cL hg.2,hw];have:=QL a b;omega
 ·rename_i a b e
  rw [e] at hg hp hS hw
  have g1:=GT.of hg.1 (e6 hp).1
  have g2:=GT.of hg.2 (e6 hp).2
  have:=lt_or a b
  have:=a.w2_ge
  have:=b.w2_ge
  refine Prem.two (r_or hS (fun u=>?_) (fun u=>?_)) (h.ins ht (wM g1) h.right ?_) (h.ins ht (wM g2) h.right ?_)
  ·rw [jS];simp only [List.map_cons,List.map_nil,aF hg.1,List.mem_cons,List.not_mem_nil,or_false]
  ·rw [jS];simp only [List.map_cons,List.map_nil,aF hg.2,List.mem_cons,List.not_mem_nil,or_false]
  ·rw [xV,cL hg.1,hw];omega
  ·rw [xV,cL hg.2,hw];omega
 ·rename_i b e
  rw [e] at hg hp hS hw
  refine Prem.one ?_ (h.ins ht (by simp) h.right ?_)
  ·have:=F9 (c:=fT r) hS
   have e2:Vld ((dropT t L).map fT) (fT r) ↔ VT (ins L t []) r:=Vld.congr fun M w=>by
    constructor
    ·intro k u hu;rw [jS] at hu;exact k u (by simpa using hu)
    ·intro k u hu;exact k u (jS.2 (.inr hu))
   exact this.symm.trans e2
  ·rw [show mT [] = 0 from rfl,hw];have:=(Fm.imp .fls b).w2_ge;omega
 ·rename_i p b e
  rw [e] at hg hp hS hw
  have hk:=of_decide_eq_true hk
  have g2:=GT.of hg.2 (aQ hp).2
  refine Prem.one (WE (x:=.var p) hS (fun u=>?_) ?_).symm (h.ins ht (wM g2) h.right ?_)
  ·rw [jS];simp only [List.map_cons,List.map_nil,aF hg.2,List.mem_cons,List.not_mem_nil,or_false]
  ·refine List.mem_map.2 ⟨_,List.mem_filter.2 ⟨hk,?_⟩,aF hg.1⟩
   have:¬ (Fm.var p).body = t:=fun e2=>by rw [← e2,aF hg.1] at e;cases e
   simp [this]
  ·rw [xV,cL hg.2,hw];have:=yM (.var p) b;omega
 ·rename_i x y b e
  rw [e] at hg hp hS hw
  have hp1:=cC (aQ hp).1
  have hgg:(Fm.imp x (.imp y b)).good:=⟨hg.1.1,hg.1.2,hg.2⟩
  have g2:=GT.of hgg (sW hp1.1 (sW hp1.2 (aQ hp).2))
  refine Prem.one (T4 hS (fun u=>?_)).symm (h.ins ht (wM g2) h.right ?_)
  ·rw [jS];simp only [List.map_cons,List.map_nil,aF hgg,List.mem_cons,List.not_mem_nil,or_false]
  ·rw [xV,cL hgg,hw];have:=P3 x y b;omega
 ·rename_i x y b e
  rw [e] at hg hp hS hw
  have hp1:=e6 (aQ hp).1
  have hg1:(Fm.imp x b).good:=⟨hg.1.1,hg.2⟩
  have hg2:(Fm.imp y b).good:=⟨hg.1.2,hg.2⟩
  have g1:=GT.of hg1 (sW hp1.1 (aQ hp).2)
  have g2:=GT.of hg2 (sW hp1.2 (aQ hp).2)
  refine Prem.one (VS hS (fun u=>?_)).symm (h.ins ht (ZJ g1 g2) h.right ?_)
  ·rw [jS];simp only [List.map_cons,List.map_nil,aF hg1,aF hg2,List.mem_cons,List.not_mem_nil,or_false,or_assoc]
  ·rw [aBK,cL hg1,cL hg2,hw];have:=TO x y b;omega
 ·cases hk
theorem aBA {L:List Str} {r:Str} {a b:Fm} (h:SqT L r) (e:fT r = .and a b):Prem L r [(L,a.body),(L,b.body)]:=by
 obtain ⟨hg,hp,-⟩:=h.right.at
 have hw:wT r = (fT r).w2:=rfl
 rw [e] at hg hp hw
 have:=QL a b
 have:=h.small
 have:=a.w2_ge
 have:=b.w2_ge
 have e1:=cL hg.1
 have e2:=cL hg.2
 refine Prem.two ?_ ⟨⟨h.left,GT.of hg.1 (cC hp).1,by omega⟩,by omega⟩ ⟨⟨h.left,GT.of hg.2 (cC hp).2,by omega⟩,by omega⟩
 unfold VT
 rw [e,aF hg.1,aF hg.2]
 exact Vld.and
theorem aA5 {L:List Str} {r:Str} {a b:Fm} (h:SqT L r) (e:fT r = .imp a b):Prem L r [(setT (L ++ [a.body]),b.body)]:=by
 obtain ⟨hg,hp,-⟩:=h.right.at
 have hw:wT r = (fT r).w2:=rfl
 rw [e] at hg hp hw
 have:=yM a b
 have:=h.small
 have e1:=cL hg.1
 have e2:=cL hg.2
 have h1:=ZK (L ++ [a.body])
 rw [aA9,xV] at h1
 refine Prem.one ?_ ⟨⟨fun u hu=>?_,GT.of hg.2 (aQ hp).2,by omega⟩,by omega⟩
 ·unfold VT
  rw [e,aF hg.2]
  refine Vld.imp fun x=>?_
  simp only [List.mem_map,fX,List.mem_append,List.mem_singleton]
  constructor
  ·rintro ⟨y,hy | rfl,rfl⟩
   ·exact .inr ⟨y,hy,rfl⟩
   ·exact .inl (aF hg.1)
  ·rintro (rfl | ⟨y,hy,rfl⟩)
   ·exact ⟨_,.inr rfl,aF hg.1⟩
   ·exact ⟨y,.inl hy,rfl⟩
 ·rcases List.mem_append.1 (fX.1 hu) with hu | hu
  ·exact h.left u hu
  ·rw [List.mem_singleton.1 hu];exact GT.of hg.1 (aQ hp).1
def mG (L:List Str) (r t:Str):Option (Sq × Sq):=
 match fT t with
 | .imp (.imp x y) z=>some ((ins L t [(Fm.imp y z).body],(Fm.imp x y).body),(ins L t [z.body],r))
 | _=>none
theorem LB {L:List Str} {r t:Str} (h:SqT L r) (ht:t ∈ L) {p q:Sq} (hn:mG L r t = some (p,q)):
  (SqT p.1 p.2 ∧ mT p.1 + wT p.2 < mT L + wT r) ∧ (SqT q.1 q.2 ∧ mT q.1 + wT q.2 < mT L + wT r) ∧ (VT p.1 p.2 → (VT q.1 q.2 ↔ VT L r)) ∧ ∃ x z,fT t = .imp x z ∧ (VT p.1 p.2 ↔ Vld (L.map fT) x):=by
 obtain ⟨hg,hp,-⟩:=(h.left t ht).at
 have hS:=UC ht
 have r2:=wT_ge r
 have hw:wT t = (fT t).w2:=rfl
 unfold mG at hn
 split at hn
 ·rename_i x y z e
  rw [e] at hg hp hS hw
  have hp1:=aQ (aQ hp).1
  have hg1:(Fm.imp y z).good:=⟨hg.1.2,hg.2⟩
  have g1:=GT.of hg1 (sW hp1.2 (aQ hp).2)
  have g2:=GT.of hg.1 (aQ hp).1
  have g3:=GT.of hg.2 (aQ hp).2
  simp only [Option.some.injEq,Prod.mk.injEq] at hn
  obtain ⟨rfl,rfl⟩:=hn
  have h1:∀ a,a ∈ (ins L t [(Fm.imp y z).body]).map fT ↔ a = .imp y z ∨ a ∈ (dropT t L).map fT:=fun a=>by
   rw [jS];simp only [List.map_cons,List.map_nil,aF hg1,List.mem_cons,List.not_mem_nil,or_false]
  have h3:∀ a,a ∈ (ins L t [z.body]).map fT ↔ a = z ∨ a ∈ (dropT t L).map fT:=fun a=>by
   rw [jS];simp only [List.map_cons,List.map_nil,aF hg.2,List.mem_cons,List.not_mem_nil,or_false]
  have hA:VT (ins L t [(Fm.imp y z).body]) (Fm.imp x y).body ↔ Vld (L.map fT) (.imp x y):=by
   unfold VT
   rw [aF hg.1]
   exact VX hS h1
  refine ⟨h.ins ht (wM g1) g2 ?_,h.ins ht (wM g3) h.right ?_,fun k=>OY hS h3 (hA.1 k),_,_,e,hA⟩
  ·rw [xV,cL hg1,cL hg.1,hw];have:=ZH x y z;omega
  ·show mT [z.body] + wT r < wT t + wT r
   rw [xV,cL hg.2,hw];have:=yM (.imp x y) z;omega
 ·cases hn
theorem aFC {L:List Str} {r:Str} (h:SqT L r) (hr:¬ r ∈ L) (hf:¬ Fm.fls.body ∈ L) (hno:∀ t ∈ L,(aT L r t).2 = false)
  (hr2:∀ a b,fT r ≠ .and a b ∧ fT r ≠ .imp a b) (hor:∀ a b,fT r = .or a b → ¬ VT L a.body ∧ ¬ VT L b.body)
  (hn:∀ t ∈ L,∀ p q,mG L r t = some (p,q) → ¬ (VT p.1 p.2 ∧ VT q.1 q.2)):¬ VT L r:=by
 by_cases hA:∃ t ∈ L,∃ p q,mG L r t = some (p,q) ∧ VT p.1 p.2
 ·obtain ⟨t,ht,p,q,e,hp⟩:=hA
  obtain ⟨-,-,k,-⟩:=LB h ht e
  exact fun hv=>hn t ht p q e ⟨hp,(k hp).2 hv⟩
 refine stuck (fun a ha=>?_) ?_
 ·obtain ⟨t,ht,rfl⟩:=List.mem_map.1 ha
  have h1:=hno t ht
  obtain ⟨hg,hpl,hb⟩:=(h.left t ht).at
  unfold aT at h1
  split at h1
  ·cases h1
  ·cases h1
  ·cases h1
  ·rename_i p b e
   refine .inr ⟨_,_,e,.inl ⟨p,rfl,fun hm=>?_⟩⟩
   obtain ⟨u,hu,e2⟩:=List.mem_map.1 hm
   have:=(h.left u hu).at.2.2
   rw [e2] at this
   rw [this] at h1
   exact absurd hu (of_decide_eq_false h1)
  ·cases h1
  ·cases h1
  ·rename_i q1 q2 q3 q4 q5 q6
   cases e:fT t with
   | var p=>exact .inl ⟨p,rfl⟩
   | fls=>rw [e] at hb;rw [← hb] at ht;exact absurd ht hf
   | and a b=>exact absurd e (q1 a b)
   | or a b=>exact absurd e (q2 a b)
   | box a=>rw [e] at hpl;cases hpl
   | dia a=>rw [e] at hpl;cases hpl
   | imp x z=>
    refine .inr ⟨x,z,rfl,.inr fun hv=>?_⟩
    cases x with
    | var p=>exact q4 p z e
    | fls=>exact q3 z e
    | and a b=>exact q5 a b z e
    | or a b=>exact q6 a b z e
    | box a=>rw [e] at hpl;cases hpl
    | dia a=>rw [e] at hpl;cases hpl
    | imp x y=>
     have hne:mG L r t = some ((ins L t [(Fm.imp y z).body],(Fm.imp x y).body),(ins L t [z.body],r)):=by unfold mG;rw [e]
     obtain ⟨-,-,-,x',z',e',k⟩:=LB h ht hne
     rw [e] at e'
     cases e'
     exact hA ⟨t,ht,_,_,hne,k.2 hv⟩
 ·obtain ⟨hg,hpl,hb⟩:=h.right.at
  cases e:fT r with
  | var p=>
   refine .inl ⟨p,rfl,fun hm=>hr ?_⟩
   obtain ⟨u,hu,e2⟩:=List.mem_map.1 hm
   have:=(h.left u hu).inj h.right (e2.trans e.symm)
   rwa [← this]
  | fls=>exact .inr (.inl rfl)
  | and a b=>exact absurd e (hr2 a b).1
  | imp a b=>exact absurd e (hr2 a b).2
  | box a=>rw [e] at hpl;cases hpl
  | dia a=>rw [e] at hpl;cases hpl
  | or a b=>
   rw [e] at hg
   have:=hor a b e
   unfold VT at this
   rw [aF hg.1,aF hg.2] at this
   exact .inr (.inr ⟨a,b,rfl,this.1,this.2⟩)
theorem VT.or {L:List Str} {r:Str} {a b:Fm} (h:GT r) (e:fT r = .or a b) (k:VT L a.body ∨ VT L b.body):VT L r:=by
 have hg:=h.at.1
 rw [e] at hg
 unfold VT at k ⊢
 rw [aF hg.1,aF hg.2] at k
 rw [e]
 exact fun M w hw=>k.imp (fun k=>k M w hw) (fun k=>k M w hw)
theorem VT.ax {L:List Str} {r:Str} (k:r ∈ L ∨ Fm.fls.body ∈ L):VT L r:=by
 rcases k with k | k
 ·exact Vld.mem (List.mem_map.2 ⟨r,k,rfl⟩)
 ·exact Vld.fls (List.mem_map.2 ⟨_,k,aF trivial⟩)
open Classical in
noncomputable def vB (L:List Str) (r:Str):Bool:=decide (VT L r)
theorem bY {L:List Str} {r:Str}:vB L r = true ↔ VT L r:=by unfold vB;exact @decide_eq_true_iff _ (Classical.propDecidable _)
theorem nH {L:List Str} {r:Str}:vB L r = false ↔ ¬ VT L r:=by unfold vB;exact @decide_eq_false_iff_not _ (Classical.propDecidable _)
end Go.Vc

namespace Go.Vc
theorem aEL {a b:Str} (h:sv a = sv b):a = b:=by
 simp only [sv,Value.string.injEq,ByteArray.mk.injEq] at h
 exact Array.toList_inj.2 h |> fun e=>by simpa using e
def MapB (Q:Str → Value → Prop) (w:World) (b:Nat):Prop:=∃ es clock,w.heap[b]? = some (.map es clock) ∧ ∀ x ∈ es.toList,∃ t:Str,x.key = sv t ∧ Q t x.val
theorem MapB.ext {Q:Str → Value → Prop} {w w':World} {b:Nat} (h:MapB Q w b) (x:Ext w w'):MapB Q w' b:=by
 obtain ⟨es,clock,hb,h⟩:=h
 exact ⟨es,clock,by rw [Go.RowKit.Below.block x b (cP hb)];exact hb,h⟩
theorem MapB.ne_ow {Q:Str → Value → Prop} {w:World} {b lo k n:Nat} {e:TypeId} {v:Value} {xs:List Value} (h:MapB Q w b) (ho:OwK k lo e w v n xs):∀ c,v.ownBlock = some c → ¬ c = b:=by
 obtain ⟨es,clock,hb,h⟩:=h
 rintro c hc rfl
 obtain ⟨cur,h1⟩:=ho.ty hc
 rw [h1] at hb;cases hb
theorem MapB.ne_blk {Q:Str → Value → Prop} {w:World} {b q:Nat} {e:TypeId} {cs:List Value} (h:MapB Q w b) (hq:Blk e w q cs):¬ q = b:=by
 obtain ⟨es,clock,hb,h⟩:=h
 rintro rfl
 unfold Blk at hq
 rw [hq] at hb;cases hb
theorem MapB.keys {Q:Str → Value → Prop} {es:Array MapEntry} (h:∀ x ∈ es.toList,∃ t:Str,x.key = sv t ∧ Q t x.val):∀ x ∈ es.toList,MapKept.IsKey .string x.key:=fun x hx=>by
 obtain ⟨t,e,_⟩:=h x hx
 rw [e];trivial
section
variable {P:Program} {t k e:TypeId} {Q:Str → Value → Prop}
theorem aC5 {w:World} {K:Value → World → Prop} (h:∀ b w',b = w.heap.size → Ext w w' → MapB Q w' b → K (.map (some b)) w'):xOp P (Instr.makeMap t none) w K:=
 ⟨_,_,rfl,h _ _ rfl (Ext.alloc w _) ⟨#[],0,heap_alloc_new w _,by simp⟩⟩
theorem aDA {w:World} {b:Nat} {s:Str} {z:Value} {K:Value → Prop} (h:MapB Q w b) (ht:P.underlying t = some (.map k e)) (hk:P.underlying k = some .string) (hz:∀ w,(zeroValue e).run P w = .ok z w)
  (h0:K (.tuple #[z,.bool false])) (h1:∀ v,Q s v → K (.tuple #[v,.bool true])):xR P w (Instr.lookup t (.map (some b)) (sv s) true) K:=by
 obtain ⟨es,clock,hb,hm⟩:=h
 have hb':∀ w',Ext w w' → w'.heap[b]? = some (.map es clock):=fun w' x=>by rw [Go.RowKit.Below.block x b (cP hb)];exact hb
 rcases MapKept.findNow_spec (k:=sv s) (d:=.string) trivial es.toList 0 (MapB.keys hm) with ⟨f1,f2⟩ | ⟨j,e0,f1,f2,f3⟩
 ·refine ⟨_,fun w' x=>?_,h0⟩
  simp [Instr.lookup,run_underlying ht,MapKept.run_getObj_map (hb' w' x),MapKept.run_checkKey (k:=sv s) hk trivial,MapKept.run_findKey hk f1,hz,Result.andThen]
 ·obtain ⟨u,e1,hq⟩:=hm e0 (List.mem_of_getElem? f2)
  rw [f3] at e1
  have e1:=aEL e1
  subst e1
  refine ⟨_,fun w' x=>?_,h1 _ hq⟩
  simp [Instr.lookup,run_underlying ht,MapKept.run_getObj_map (hb' w' x),MapKept.run_checkKey (k:=sv s) hk trivial,MapKept.run_findKey hk f1,Result.andThen]
theorem aDP {w:World} {b:Nat} {s:Str} {v:Value} {K:World → Prop} (h:MapB Q w b) (ht:P.underlying t = some (.map k e)) (hk:P.underlying k = some .string) (hv:Q s v)
  (h1:∀ w',MapB Q w' b → Ch (fun c=>c = b) w w' → K w'):xOpU P (Instr.mapUpdate t (.map (some b)) (sv s) v) w K:=by
 obtain ⟨es,clock,hb,hm⟩:=h
 have hset:∀ o,({ w with heap:=w.heap.setIfInBounds b o }:World).heap[b]? = some o ∧ Ch (fun c=>c = b) w { w with heap:=w.heap.setIfInBounds b o }:=fun o=>
  ⟨(MapKept.heap_set hb).1,rfl,rfl,rfl,by simp,fun i _ hi=>(MapKept.heap_set hb).2 i hi⟩
 rcases MapKept.findNow_spec (k:=sv s) (d:=.string) trivial es.toList 0 (MapB.keys hm) with ⟨f1,f2⟩ | ⟨j,e0,f1,f2,f3⟩
 ·refine ⟨_,?_,h1 { w with heap:=w.heap.setIfInBounds b (.map (es.push ⟨sv s,v,clock⟩) (clock + 1)) } ⟨_,_,(hset _).1,fun x hx=>?_⟩ (hset _).2⟩
  ·simp [Instr.mapUpdate,run_underlying ht,MapKept.run_getObj_map hb,MapKept.run_checkKey (k:=sv s) hk trivial,MapKept.run_findKey hk f1,MapKept.run_setObj_map _ hb,Result.andThen]
  ·simp only [Array.toList_push,List.mem_append,List.mem_singleton] at hx
   rcases hx with hx | rfl
   ·exact hm x hx
   ·exact ⟨s,rfl,hv⟩
 ·have hj:j < es.size:=by have:=(List.getElem?_eq_some_iff.1 f2).1;simpa using this
  have hkey:((es[j]?).map (·.key)).getD (sv s) = sv s:=by
   have:es[j]? = some e0:=by simpa using f2
   rw [this];exact f3
  refine ⟨_,?_,h1 { w with heap:=w.heap.setIfInBounds b (.map (es.modify j fun e=>{ e with key:=sv s,val:=v }) clock) } ⟨_,_,(hset _).1,fun x hx=>?_⟩ (hset _).2⟩
  ·simp only [Nat.zero_add] at f1
   simp [Instr.mapUpdate,run_underlying ht,MapKept.run_getObj_map hb,MapKept.run_checkKey (k:=sv s) hk trivial,MapKept.run_findKey hk f1,MapKept.run_setObj_map _ hb,Result.andThen,hkey,MapKept.run_keyThatStays (k:=sv s) (d:=.string) trivial]
  ·rw [Array.toList_modify] at hx
   obtain ⟨i,hi,rfl⟩:=List.getElem_of_mem hx
   rw [List.getElem_modify]
   split
   ·exact ⟨s,rfl,hv⟩
   ·exact hm _ (List.getElem_mem _)
end
end Go.Vc
namespace Go.Proofs.YteifjhpddhppcaaGreatDoor
open Go.Vc
theorem VO {lo:Nat} {v:Value} {L:List Str} {t:Str} {w:World} (hs:Ow lo aB w v (strs L)) (hL:L.length ≤ 1099511627776):
  Cal Tryz.prog MV #[v,sv t] w fun r w'=>Ext w w' ∧ Ow w.heap.size aB w' r (strs (dropT t L)):=by
 apply XO;unfold MX
 refine iNew fun q w1 hq x1 hB=>?_
 refine iCall ((OF (hs.ext x1) hL).mono ?_)
 rintro u w2 ⟨x2,ho⟩
 refine iCall ((CZ (w0:=w1) (p:=fun u=>decide (u = t)) x2 ho hL fun x hx w' hw'=>(iClo rfl ?_)).mono ?_)
 ·show Cal Tryz.prog GH #[sv x,.pointer (some ⟨q,0,none⟩)] w' _
  apply US;unfold F6
  refine iLdB (hB.ext hw') rfl ?_
  exact iEqT ⟨rfl,Ext.refl _⟩
 ·rintro r w3 ⟨x3,ho3⟩
  exact ⟨x1.trans x3,ho3.mono x1.size⟩
end Go.Proofs.YteifjhpddhppcaaGreatDoor

namespace Go.Vc
theorem SlK.cellOk {k:Nat} {w:World} {v:Value} {n:Nat} {xs:List Value} (h:SlK k w v n xs):aC v = true:=by
 obtain ⟨_,a,c,rfl,_⟩:=h
 rfl
theorem aEZ {fs:List Fm} {j:Nat} (h:j < fs.length):fs.getD j .fls = fs[j]:=by simp [List.getD_eq_getElem?_getD,h]
theorem aCO {f:Fm}:∀ g ∈ f.kids,g.size < f.size:=fun g hg=>by
 have:=f.size_kids
 have h2:∀ (l:List Fm),g ∈ l → g.size ≤ sizeL l:=by
  intro l
  induction l with
  | nil=>intro h;simp at h
  | cons a l ih=>
   intro h
   simp only [sizeL,List.map_cons,List.sum_cons] at ih ⊢
   rcases List.mem_cons.1 h with rfl | h
   ·omega
   ·have:=ih h;omega
 have:=h2 _ hg
 omega
theorem N1:∀ {f:Fm},f.good → ∀ g ∈ f.kids,g.good
 | .and a b,h,g,hg=>by simp only [Fm.kids,List.mem_cons,List.not_mem_nil,or_false] at hg;rcases hg with rfl | rfl;exact h.1;exact h.2
 | .or a b,h,g,hg=>by simp only [Fm.kids,List.mem_cons,List.not_mem_nil,or_false] at hg;rcases hg with rfl | rfl;exact h.1;exact h.2
 | .imp a b,h,g,hg=>by simp only [Fm.kids,List.mem_cons,List.not_mem_nil,or_false] at hg;rcases hg with rfl | rfl;exact h.1;exact h.2
 | .box a,h,g,hg=>by simp only [Fm.kids,List.mem_cons,List.not_mem_nil,or_false] at hg;subst hg;exact h
 | .dia a,h,g,hg=>by simp only [Fm.kids,List.mem_cons,List.not_mem_nil,or_false] at hg;subst hg;exact h
end Go.Vc
namespace Go.Proofs.YteifjhpddhppcaaGreatDoor
open Go.Vc
abbrev TxW (lo:Nat) (w:World) (v:Value) (L:List Str):Prop:=Ow lo aB w v (strs L)
theorem VC {v:Value} {f:Fm} {w:World} (hs:FmS w v f) (hn:f.size ≤ 1099511627776):Cal Tryz.prog KP #[v] w fun r w'=>Ext w w' ∧ ∃ vs,Sl w' r vs ∧ FmsS w' vs f.kids:=by
 apply WV;unfold KJ
 refine iFld (j:=0) hs rfl f.size_pos (by decide) (aP hs).1 ?_
 refine iRet (jY f.kind w) fun w1 x1=>?_
 have har:=f.arity_kids
 refine iEq ?_
 refine iCndP (fun h=>?_) (fun h=>?_)
 ·obtain ⟨g,hg⟩:∃ g,f.kids = [g]:=List.length_eq_one_iff.1 (by omega)
  refine iCall ((aO (hs.ext x1) hg hn).mono ?_)
  rintro u w2 ⟨x2,hu⟩
  refine iBs1 rfl (SlK.cellOk hu) fun b w3 hb x3 hB=>?_
  refine ⟨(x1.trans x2).trans x3,_,Sl.ofBlk (n:=1) hB rfl (by decide),by rw [hg];rfl,fun i hi=>?_⟩
  rw [hg] at hi ⊢
  have:i = 0:=by simp at hi;omega
  subst this
  exact ⟨u,rfl,hu.ext x3⟩
 ·refine iEq ?_
  refine iCndP (fun h2=>?_) (fun h2=>?_)
  ·obtain ⟨g,k,hg⟩:∃ g k,f.kids = [g,k]:=by
    have:f.kids.length = 2:=by omega
    match hk:f.kids,this with
    | [g,k],_=>exact ⟨g,k,rfl⟩
   refine iCall ((aO (hs.ext x1) hg hn).mono ?_)
   rintro u w2 ⟨x2,hu⟩
   refine iCall ((aU ((hs.ext x1).ext x2) hg hn).mono ?_)
   rintro u' w3 ⟨x3,hu'⟩
   refine iBs2 rfl (SlK.cellOk hu) (SlK.cellOk hu') fun b w4 hb x4 hB=>?_
   refine ⟨((x1.trans x2).trans x3).trans x4,_,Sl.ofBlk (n:=2) hB rfl (by decide),by rw [hg];rfl,fun i hi=>?_⟩
   rw [hg] at hi ⊢
   rcases i with _ | _ | i
   ·exact ⟨u,rfl,(hu.ext x3).ext x4⟩
   ·exact ⟨u',rfl,hu'.ext x4⟩
   ·simp at hi;omega
  ·refine ⟨x1,[],Sl.nil _,?_,fun i hi=>?_⟩
   ·have:f.kids.length ≤ 2:=by cases f <;> simp [Fm.kids]
    simp;omega
   ·have:f.kids.length ≤ 2:=by cases f <;> simp [Fm.kids]
    omega
theorem cE {v:Value} {f:Fm} {w:World} (hs:FmS w v f) (hg:f.good) (hn:f.size ≤ 1099511627776):Cal Tryz.prog xH #[v] w fun r w'=>Ext w w' ∧ TxW w.heap.size w' r (f.kids.map Fm.body):=by
 apply NX;unfold xS
 refine iCall ((VC hs hn).mono ?_)
 rintro u w1 ⟨x1,vs,hsl,hf⟩
 refine iLenS hsl ?_
 have hkl:f.kids.length ≤ 2:=by cases f <;> simp [Fm.kids]
 have hvl:=hf.1
 refine iLp (fun s:Value × Nat=>[s.1,.int .i64 (s.2:Int)]) (fun s w'=>s.2 ≤ f.kids.length ∧ Ext w1 w' ∧ TxW w1.heap.size w' s.1 ((f.kids.take s.2).map Fm.body)) (fun s=>f.kids.length - s.2) (.slice none 0 0,0) rfl ⟨Nat.zero_le _,Ext.refl _,Ow.nil _ _ _⟩ ?_
 rintro ⟨r,k⟩ w2 Kn ⟨hk,x2,ho⟩ hKn
 have hk:k ≤ f.kids.length:=hk
 have ho:TxW w1.heap.size w2 r ((f.kids.take k).map Fm.body):=ho
 intro _
 simp only [gx]
 refine iLt ?_
 refine iCndP (fun h=>?_) (fun h=>?_)
 ·have hkk:k < f.kids.length:=by omega
  obtain ⟨a,ha1,ha2⟩:=hf.2 k hkk
  rw [aEZ hkk] at ha2
  refine iIa (j:=(k:Int)) (hsl.ext x2) (by omega) (by omega) fun p hp=>?_
  have hp:w2.cell? p = some a:=hp.trans (by rw [Int.toNat_natCast];exact ha1)
  refine iLd hp ?_
  have hm:f.kids[k] ∈ f.kids:=List.getElem_mem _
  have:=aCO _ hm
  refine iRet (bD (ha2.ext x2) (N1 hg _ hm) (by omega)) fun w3 x3=>?_
  have ho3:=ho.ext x3
  refine iApp1 kZ kT rfl ho3 rfl (by rw [bG,List.length_map,List.length_take];omega) (by rw [bG,List.length_map,List.length_take];omega) (x2.trans x3).size fun r' w5 ho5 hg5=>?_
  refine iAdd (by omega) ?_
  refine hKn (r',k + 1) _ ⟨hkk,(x2.trans x3).grown hg5 fun b hb=>(ho3.blk b hb).1,?_⟩ (by show f.kids.length - (k + 1) < f.kids.length - k;omega)
  show TxW _ _ _ _
  rw [List.take_succ_eq_append_getElem hkk,List.map_append,List.map_singleton]
  rw [IE] at ho5
  exact ho5
 ·have:k = f.kids.length:=by omega
  subst this
  rw [List.take_length] at ho
  exact ⟨x1.trans x2,ho.mono x1.size⟩
theorem rN {v va vb:Value} {a b:Fm} {w:World} (hs:Sl w v [va,vb]) (ha:FmS w va a) (hb:FmS w vb b) (hsz:(Fm.imp a b).size ≤ 1099511627776):Cal Tryz.prog yP #[v] w fun r w'=>Ext w w' ∧ FmW w.heap.size w' r (.imp a b):=by
 apply IN;unfold yI
 refine iLenS hs ?_
 refine iSub (by simp) ?_
 refine iIa (j:=1) hs (by omega) (by simp) fun p hp=>?_
 have hp:w.cell? p = some vb:=hp
 refine iLd hp ?_
 refine iLenS hs ?_
 refine iSub (by simp) ?_
 refine iLp (fun s:Value × Nat=>[s.1,.int .i64 ((s.2:Int) - 1)]) (fun s w'=>(s.2 = 1 ∧ s.1 = vb ∧ w' = w) ∨ (s.2 = 0 ∧ Ext w w' ∧ FmW w.heap.size w' s.1 (.imp a b))) (fun s=>s.2) (vb,1) rfl (.inl ⟨rfl,rfl,rfl⟩) ?_
 rintro ⟨u,s⟩ w2 Kn (⟨h1,h2,h3⟩ | ⟨h1,x2,ho⟩) hKn
 ·have h1:s = 1:=h1
  have h2:u = vb:=h2
  subst h1;subst h2;subst h3
  intro _
  simp only [gx]
  refine iLe (iCndT (by decide) ?_)
  refine iIa (j:=0) hs (by omega) (by simp) fun p hp=>?_
  have hp:w2.cell? p = some va:=hp
  refine iLd hp ?_
  refine iCall ((fU (k:=4) (c:=.imp a b) rfl rfl ha hb hsz).mono ?_)
  rintro r w3 ⟨x3,ho⟩
  refine iSub (by simp) ?_
  exact hKn (r,0) _ (.inr ⟨rfl,x3,ho⟩) (by simp)
 ·have h1:s = 0:=h1
  subst h1
  intro _
  simp only [gx]
  refine iLe (iCndF (by decide) ?_)
  exact ⟨x2,ho⟩
theorem R1 {v va vb vc:Value} {a b c:Fm} {w:World} (hs:Sl w v [va,vb,vc]) (ha:FmS w va a) (hb:FmS w vb b) (hc:FmS w vc c) (hsz:(Fm.imp a (.imp b c)).size ≤ 1099511627776):Cal Tryz.prog yP #[v] w fun r w'=>Ext w w' ∧ FmW w.heap.size w' r (.imp a (.imp b c)):=by
 apply IN;unfold yI
 refine iLenS hs ?_
 refine iSub (by simp) ?_
 refine iIa (j:=2) hs (by omega) (by simp) fun p hp=>?_
 have hp:w.cell? p = some vc:=hp
 refine iLd hp ?_
 refine iLenS hs ?_
 refine iSub (by simp) ?_
 refine iLp (fun s:Value × Nat=>[s.1,.int .i64 ((s.2:Int) - 1)]) (fun s w'=>(s.2 = 2 ∧ s.1 = vc ∧ w' = w) ∨ (s.2 = 1 ∧ Ext w w' ∧ FmW w.heap.size w' s.1 (.imp b c)) ∨ (s.2 = 0 ∧ Ext w w' ∧ FmW w.heap.size w' s.1 (.imp a (.imp b c)))) (fun s=>s.2) (vc,2) rfl (.inl ⟨rfl,rfl,rfl⟩) ?_
 have hsz2:(Fm.imp b c).size ≤ 1099511627776:=by simp only [Fm.size] at hsz ⊢;omega
 rintro ⟨u,s⟩ w2 Kn (⟨h1,h2,h3⟩ | ⟨h1,x2,ho⟩ | ⟨h1,x2,ho⟩) hKn
 ·have h1:s = 2:=h1
  have h2:u = vc:=h2
  subst h1;subst h2;subst h3
  intro _
  simp only [gx]
  refine iLe (iCndT (by decide) ?_)
  refine iIa (j:=1) hs (by omega) (by simp) fun p hp=>?_
  have hp:w2.cell? p = some vb:=hp
  refine iLd hp ?_
  refine iCall ((fU (k:=4) (c:=.imp b c) rfl rfl hb hc hsz2).mono ?_)
  rintro r w3 ⟨x3,ho⟩
  refine iSub (by simp) ?_
  exact hKn (r,1) _ (.inr (.inl ⟨rfl,x3,ho⟩)) (by simp)
 ·have h1:s = 1:=h1
  subst h1
  intro _
  simp only [gx]
  refine iLe (iCndT (by decide) ?_)
  refine iIa (j:=0) (hs.ext x2) (by omega) (by simp) fun p hp=>?_
  have hp:w2.cell? p = some va:=hp
  refine iLd hp ?_
  refine iCall ((fU (k:=4) (c:=.imp a (.imp b c)) rfl rfl (ha.ext x2) ho.sl hsz).mono ?_)
  rintro r w3 ⟨x3,ho3⟩
  refine iSub (by simp) ?_
  exact hKn (r,0) _ (.inr (.inr ⟨rfl,x2.trans x3,ho3.mono x2.size⟩)) (by simp)
 ·have h1:s = 0:=h1
  subst h1
  intro _
  simp only [gx]
  refine iLe (iCndF (by decide) ?_)
  exact ⟨x2,ho⟩
end Go.Proofs.YteifjhpddhppcaaGreatDoor

namespace Go.Vc
theorem iNew2 {w:World} {e:TypeId} {a b:Value} {K:Value → World → Prop} (h:∀ q w',q = w.heap.size ∧ w'.heap.size = q + 1 → Ext w w' → Blk e w' q [a,b] → K (.pointer (some ⟨q,0,none⟩)) w'):xNew (Value.cells (.agg #[a,b])) e w K:=
 iNew fun q w' h1 h2 h3=>h q w' h1 h2 (by simpa [Value.cells] using h3)
theorem iLd2 {w:World} {e:TypeId} {q:Nat} {a b:Value} {K:Value → Prop} (hB:Blk e w q [a,b]) (h:K (.agg #[a,b])):xLdA w 2 (.pointer (some ⟨q,0,none⟩)) K:=iLdA hB rfl (by simpa using h)
theorem iSt2 {P:Program} {w:World} {e:TypeId} {q:Nat} {cs:List Value} {a b:Value} {K:World → Prop} (hB:Blk e w q cs) (hl:cs.length = 2) (ha:aC a = true) (hb:aC b = true)
  (h:∀ w',Blk e w' q [a,b] → Ch (fun d=>d = q) w w' → K w'):xStA P w 2 (.pointer (some ⟨q,0,none⟩)) (.agg #[a,b]) K:=by
 obtain ⟨w',h1,h2,h3⟩:=lQ (P:=P) [a,b] 0 w cs hB (by simp [hl]) (fun v hv=>by simp at hv;rcases hv with rfl | rfl <;> assumption)
 refine ⟨_,w',rfl,rfl,?_,h w' ?_ (h2.ch rfl)⟩
 ·simpa [Value.cells] using h1
 ·rw [List.take_zero,List.nil_append,List.drop_of_length_le (by simp [hl]),List.append_nil] at h3;exact h3
theorem iBsA2 {w:World} {e:TypeId} {z0 z1 x y x' y':Value} {K:Value → World → Prop} (h:∀ b w',b = w.heap.size ∧ w'.heap.size = b + 1 → Ext w w' → Blk e w' b [x,y,x',y'] → K (.slice (some ⟨b,0,none⟩) 2 2) w'):
  xBs e (Value.cells (.agg #[z0,z1])) 2 2 [(0,.agg #[x,y]),(1,.agg #[x',y'])] w K:=by
 refine ⟨#[x,y,x',y'],?_,h _ _ ⟨rfl,by simp⟩ (Ext.alloc w _) (Blk.new w #[x,y,x',y'] e)⟩
 simp [Instr.fill,Value.cells,show Array.range 4 = #[0,1,2,3] from rfl]
theorem SlK.ofBlk {k:Nat} {e:TypeId} {w:World} {b n:Nat} {cs:List Value} (h:Blk e w b cs) (hn:cs.length = n * k) (hm:n ≤ 9223372036854775807):SlK k w (.slice (some ⟨b,0,none⟩) n n) n cs:=(OwK.ofBlk (lo:=0) h (Nat.zero_le _) hn hm).sl
theorem aCE {L:List Str} {k:Nat} (h:k < L.length) (f:Str → Str):(L.take (k + 1)).flatMap f = (L.take k).flatMap f ++ f (gt L k):=by
 rw [List.take_succ_eq_append_getElem h,List.flatMap_append,gt_eq h];simp
theorem aDL (L:List Str) (k:Nat) (f:Str → Str):((L.take k).flatMap f).length ≤ (L.flatMap f).length:=by
 have:L.flatMap f = (L.take k).flatMap f ++ (L.drop k).flatMap f:=by rw [← List.flatMap_append,List.take_append_drop]
 rw [this,List.length_append];omega
end Go.Vc
namespace Go.Proofs.YteifjhpddhppcaaGreatDoor
open Go.Vc
theorem aN {lo lo':Nat} {v vt:Value} {L ts:List Str} {r t:Str} {w:World} (hv:TxW lo w v L) (ht:TxW lo' w vt ts) (hl:L.length + ts.length ≤ 1099511627776):
  Cal Tryz.prog qN #[.agg #[v,sv r],sv t,vt] w fun u w'=>Ext w w' ∧ ∃ v',u = .agg #[v',sv r] ∧ TxW w.heap.size w' v' (ins L t ts):=by
 apply H6;unfold p9
 refine iNew2 fun q1 w1 hq1 x1 hB1=>?_
 refine iNew2 fun q2 w2 hq2 x2 hB2=>?_
 have hB1:=hB1.ext x2
 refine iFa (iLdB hB1 rfl ?_)
 refine iFa (iLdB hB1 rfl ?_)
 intro w3 x3
 have X3:=(x1.trans x2).trans x3
 have hd:(dropT t L).length ≤ L.length:=List.length_filter_le _ _
 refine iCall ((VO (hv.ext X3) (by omega)).mono ?_)
 rintro u w4 ⟨x4,ho4⟩
 refine ⟨x4,fun w5 x5=>?_⟩
 refine iCall ((mJ (A:=dropT t L) (B:=ts) (ho4.ext x5).sl (ht.ext ((X3.trans x4).trans x5)).sl ho4.cell ht.cell (by omega)).mono ?_)
 rintro u' w6 ⟨x6,ho6⟩
 refine ⟨x6,?_⟩
 refine dD ho6.cell rfl ?_
 intro w7 x7
 have X7:=((x3.trans x4).trans (x5.trans x6)).trans x7
 have hB7:=hB2.ext X7
 refine iSt2 hB7 rfl ho6.cell rfl fun w8 hB8 hc8=>?_
 intro w9 x9
 refine iLd2 (hB8.ext x9) ?_
 have ho8:TxW w5.heap.size w8 u' (ins L t ts):=(ho6.ext x7).ch hc8 fun c hc e=>by
  have h1:=(ho6.blk c hc).1
  have h2:=x5.size
  have h3:=x4.size
  have h4:=x3.size
  omega
 have hX:Ext w w8:=((x1.trans x2).trans X7).thenCh hc8 fun c hc=>by have:=x1.size;omega
 refine ⟨hX.trans x9,u',rfl,(ho8.ext x9).mono ?_⟩
 have h2:=x5.size
 have h3:=x4.size
 have h4:=X3.size
 omega
theorem mC {lo lo':Nat} {v vt:Value} {L ts:List Str} {r:Str} {w:World} (hv:TxW lo w v L) (ht:TxW lo' w vt ts) (hl:L.length + ts.length ≤ 1099511627776):
  Cal Tryz.prog nK #[.agg #[v,sv r],vt] w fun u w'=>Ext w w' ∧ ∃ v',u = .agg #[v',sv r] ∧ TxW w.heap.size w' v' (setT (L ++ ts)):=by
 apply N0;unfold yW
 refine iNew2 fun q1 w1 hq1 x1 hB1=>?_
 refine iNew2 fun q2 w2 hq2 x2 hB2=>?_
 have hB1:=hB1.ext x2
 refine iFa (iLdB hB1 rfl ?_)
 refine iFa (iLdB hB1 rfl ?_)
 intro w3 x3
 have X3:=(x1.trans x2).trans x3
 refine iCall ((mJ (A:=L) (B:=ts) (hv.ext X3).sl (ht.ext X3).sl hv.cell ht.cell (by omega)).mono ?_)
 rintro u' w6 ⟨x6,ho6⟩
 refine ⟨x6,?_⟩
 refine dD ho6.cell rfl ?_
 intro w7 x7
 have X7:=(x3.trans x6).trans x7
 have hB7:=hB2.ext X7
 refine iSt2 hB7 rfl ho6.cell rfl fun w8 hB8 hc8=>?_
 intro w9 x9
 refine iLd2 (hB8.ext x9) ?_
 have ho8:TxW w3.heap.size w8 u' (setT (L ++ ts)):=(ho6.ext x7).ch hc8 fun c hc e=>by
  have h1:=(ho6.blk c hc).1
  have h4:=x3.size
  omega
 have hX:Ext w w8:=((x1.trans x2).trans X7).thenCh hc8 fun c hc=>by have:=x1.size;omega
 exact ⟨hX.trans x9,u',rfl,(ho8.ext x9).mono X3.size⟩
theorem aV {v:Value} {r r':Str} {w:World} (hc:aC v = true):Ret Tryz.prog qL #[.agg #[v,sv r],sv r'] w (.agg #[v,sv r']):=by
 apply HL;unfold p8
 refine iNew2 fun q1 w1 hq1 x1 hB1=>?_
 refine iNew2 fun q2 w2 hq2 x2 hB2=>?_
 have hB1:=hB1.ext x2
 refine iFa (iLdB hB1 rfl ?_)
 refine dD hc rfl ?_
 refine iSt2 hB2 rfl hc rfl fun w8 hB8 hc8=>?_
 refine iLd2 hB8 ⟨rfl,(x1.trans x2).thenCh hc8 fun c hc=>by have:=x1.size;omega⟩
theorem KU {v u:Value} {L:List Str} {r:Str} {w:World} (hv:SlT w v L) (hu:SlT w u [r]) (hl:(L.flatMap (fun t=>t ++ [47])).length + r.length ≤ 1152921504606846976):
  Ret Tryz.prog vX #[.agg #[v,u]] w (sv (keyT L r)):=by
 apply LO;unfold vK
 refine iNew2 fun q w1 hq x1 hB=>?_
 refine iFa (iLdB hB rfl ?_)
 refine bO (hv.ext x1) ?_
 have hln:=hv.len
 rw [bG] at hln
 refine iLp (fun k:Nat=>[sv ((L.take k).flatMap fun t=>t ++ [47]),.int .i64 (k:Int)]) (fun k w'=>k ≤ L.length ∧ w' = w1) (fun k=>L.length - k) 0 rfl ⟨Nat.zero_le _,rfl⟩ ?_
 rintro k w2 Kn ⟨hk,rfl⟩ hKn
 intro _
 simp only [gx]
 refine iLt ?_
 refine iCndP (fun h=>?_) (fun h=>?_)
 ·have hk':k < L.length:=by omega
  have e:=aCE hk' fun t=>t ++ [47]
  have hle:=aDL L (k + 1) fun t=>t ++ [47]
  rw [e,List.length_append,List.length_append,List.length_singleton] at hle
  refine iIaG (hv.ext x1) rfl hk' ?_
  refine iCat (b:=[47]) (by simp only [List.length_singleton];omega) ?_
  refine iCat (by rw [List.length_append,List.length_singleton];omega) ?_
  refine iAdd (by omega) ?_
  rw [← e]
  exact hKn (k + 1) _ ⟨hk',rfl⟩ (by omega)
 ·have:k = L.length:=by omega
  subst this
  rw [List.take_length]
  refine iCat (b:=[59]) (by simp only [List.length_singleton];omega) ?_
  refine iFa (iLdB hB rfl ?_)
  refine bO (hu.ext x1) ?_
  refine iLp (fun k:Nat=>[sv (if k = 0 then (L.flatMap fun t=>t ++ [47]) ++ [59] else keyT L r),.int .i64 (k:Int)]) (fun k w'=>k ≤ 1 ∧ w' = w2) (fun k=>1 - k) 0 rfl ⟨Nat.zero_le _,rfl⟩ ?_
  rintro k w3 Kn ⟨hk,rfl⟩ hKn
  intro _
  simp only [gx]
  refine iLt ?_
  refine iCndP (fun h=>?_) (fun h=>?_)
  ·have hk0:k = 0:=by simp at h;omega
   subst hk0
   rw [if_pos rfl]
   refine iIaG (hu.ext x1) rfl (by simp) ?_
   refine iCat (b:=[47]) (by show r.length + 1 ≤ _;omega) ?_
   refine iCat (by show ((L.flatMap fun t=>t ++ [47]) ++ [59]).length + (r ++ [47]).length ≤ _;simp only [List.length_append,List.length_singleton];omega) ?_
   refine iAdd (by omega) ?_
   refine cast ?_ (hKn 1 w3 ⟨Nat.le_refl _,rfl⟩ (by omega))
   rw [if_neg (by omega)]
   simp [keyT,gt]
  ·have hk1:k = 1:=by simp at h;omega
   subst hk1
   rw [if_neg (by omega)]
   exact ⟨rfl,x1⟩
def GlR (w:World) (x:Value) (ps:List Sq):Prop:=∃ xs,SlK 2 w x ps.length xs ∧ ∀ i p,ps[i]? = some p → ∃ v,xs[i * 2 + 0]? = some v ∧ xs[i * 2 + 1]? = some (sv p.2) ∧ TxW 0 w v p.1
theorem GlR.ext {w w':World} {x:Value} {ps:List Sq} (h:GlR w x ps) (k:Ext w w'):GlR w' x ps:=by
 obtain ⟨xs,h1,h2⟩:=h
 exact ⟨xs,h1.ext k,fun i p hp=>by obtain ⟨v,a,b,c⟩:=h2 i p hp;exact ⟨v,a,b,c.ext k⟩⟩
theorem GlR.one {w:World} {e:TypeId} {b lo:Nat} {v:Value} {p:Sq} (hB:Blk e w b [v,sv p.2]) (hv:TxW lo w v p.1):GlR w (.slice (some ⟨b,0,none⟩) 1 1) [p]:=
 ⟨_,SlK.ofBlk (n:=1) hB rfl (by decide),fun i q hq=>by
  rcases i with _ | i
  ·simp only [List.getElem?_cons_zero,Option.some.injEq] at hq
   subst hq
   exact ⟨v,rfl,rfl,hv.mono (Nat.zero_le _)⟩
  ·simp at hq⟩
theorem GlR.two {w:World} {e:TypeId} {b lo lo':Nat} {v u:Value} {p q:Sq} (hB:Blk e w b [v,sv p.2,u,sv q.2]) (hv:TxW lo w v p.1) (hu:TxW lo' w u q.1):GlR w (.slice (some ⟨b,0,none⟩) 2 2) [p,q]:=
 ⟨_,SlK.ofBlk (n:=2) hB rfl (by decide),fun i s hs=>by
  rcases i with _ | _ | i
  ·simp only [List.getElem?_cons_zero,Option.some.injEq] at hs
   subst hs
   exact ⟨v,rfl,rfl,hv.mono (Nat.zero_le _)⟩
  ·simp only [Nat.zero_add,List.getElem?_cons_succ,List.getElem?_cons_zero,Option.some.injEq] at hs
   subst hs
   exact ⟨u,rfl,rfl,hu.mono (Nat.zero_le _)⟩
  ·simp at hs⟩
end Go.Proofs.YteifjhpddhppcaaGreatDoor

namespace Go.Proofs.YteifjhpddhppcaaGreatDoor
open Go.Vc
theorem FJ {lo:Nat} {v va vb:Value} {L:List Str} {r t:Str} {a b:Fm} {w:World} (hv:TxW lo w v L) (ha:FmS w va a) (hb:FmS w vb b) (e:fT t = .imp a b) (hga:a.good) (hgb:b.good) (hp:a.plain = true) (hn:(Fm.imp a b).size ≤ 1000000) (hl:L.length ≤ 549755813888):
  Cal Tryz.prog qG #[.agg #[v,sv r],sv t,va,vb] w fun u w'=>Ext w w' ∧ ∃ x,u = .tuple #[x,.bool (aT L r t).2] ∧ ((aT L r t).2 = true → GlR w' x (aT L r t).1):=by
 apply HM;unfold qP
 refine iNew2 fun q w1 hq x1 hB=>?_
 refine iFld (j:=0) (ha.ext x1) rfl a.size_pos (by decide) (aP ha).1 ?_
 have hba:=a.size_pos
 have hbb:=b.size_pos
 have one:∀ {w':World} {u:Value} {c:Fm} {bb:Nat} {e:TypeId},Blk e w' bb [u,sv r] → TxW 0 w' u (ins L t [c.body]) → GlR w' (.slice (some ⟨bb,0,none⟩) 1 1) [(ins L t [c.body],r)]:=fun h k=>GlR.one (p:=(_,r)) h k
 cases a with
 | box a=>cases hp
 | dia a=>cases hp
 | imp a c=>
  refine iEq (iCndF rfl (iEq (iCndF rfl (iEq (iCndF rfl (iEq (iCndF rfl ?_)))))))
  have hT:aT L r t = ([],false):=by unfold aT;rw [e]
  rw [hT]
  exact ⟨x1,_,rfl,fun h=>by cases h⟩
 | fls=>
  refine iEq (iCndT rfl ?_)
  have hT:aT L r t = ([(ins L t [],r)],true):=by unfold aT;rw [e]
  rw [hT]
  refine iLd2 hB ?_
  refine iCall ((aN (lo':=0) (ts:=[]) (hv.ext x1) (Ow.nil _ _ _) (by simp only [List.length_nil];omega)).mono ?_)
  rintro u w2 ⟨x2,v',rfl,ho⟩
  refine iBsA fun bb w3 hb3 x3 hB3=>?_
  exact ⟨(x1.trans x2).trans x3,_,rfl,fun _=>GlR.one (p:=(ins L t [],r)) hB3 (ho.ext x3)⟩
 | var p=>
  refine iEq (iCndF rfl (iEq (iCndT rfl ?_)))
  have hT:aT L r t = ([(ins L t [b.body],r)],decide ((Fm.var p).body ∈ L)):=by unfold aT;rw [e]
  rw [hT]
  refine iLd2 hB ?_
  simp only [Fm.size] at hn
  refine iRetQ (fun w' x'=>bD ((hb.ext x1).ext x') hgb (by omega)) ?_
  refine iFa (iLdB hB rfl ?_)
  intro w4 x4
  refine iBs1 rfl rfl fun bb w5 hb5 x5 hB5=>⟨x5,fun w6 x6=>?_⟩
  have X6:=x1.trans (x4.trans (x5.trans x6))
  refine iCall ((aN (ts:=[b.body]) (hv.ext X6) (Ow.ofBlk (n:=1) (hB5.ext x6) (Nat.zero_le _) rfl (by decide)) (by simp only [List.length_singleton];omega)).mono ?_)
  rintro u w7 ⟨x7,v',rfl,ho⟩
  refine ⟨x7,?_⟩
  have X7:=X6.trans x7
  refine iRetQ (fun w' x'=>bD (f:=.var p) ((ha.ext X7).ext x') hga (by simp [Fm.size])) ?_
  refine iRetQ (fun w' x'=>bP ((hv.ext X7).ext x').sl) ?_
  intro w8 x8
  refine iBsA fun b2 w9 hb9 x9 hB9=>⟨x9,fun w10 x10=>?_⟩
  have y:=(x8.trans x9).trans x10
  exact ⟨X7.trans y,_,rfl,fun _=>one (hB9.ext x10) ((ho.ext y).mono (Nat.zero_le _))⟩
 | and c d=>
  refine iEq (iCndF rfl (iEq (iCndF rfl (iEq (iCndT rfl ?_)))))
  have hT:aT L r t = ([(ins L t [(Fm.imp c (.imp d b)).body],r)],true):=by unfold aT;rw [e]
  rw [hT]
  refine iLd2 hB ?_
  simp only [Fm.size] at hn
  intro w11 x11
  have X11:=x1.trans x11
  refine iCall ((aO (f:=.and c d) (ha.ext X11) rfl (by simp only [Fm.size];omega)).mono ?_)
  rintro u1 w12 ⟨x12,hu1⟩
  refine ⟨x12,fun w13 x13=>?_⟩
  have X13:=(X11.trans x12).trans x13
  refine iCall ((aU (f:=.and c d) (ha.ext X13) rfl (by simp only [Fm.size];omega)).mono ?_)
  rintro u2 w14 ⟨x14,hu2⟩
  refine ⟨x14,fun w15 x15=>?_⟩
  have X15:=(X13.trans x14).trans x15
  refine iBs3 rfl (SlK.cellOk hu1) (SlK.cellOk hu2) (SlK.cellOk hb) fun b1 w16 hb16 x16 hB16=>⟨x16,fun w17 x17=>?_⟩
  have y17:=x16.trans x17
  have X17:=X15.trans y17
  refine iCall ((R1 (Sl.ofBlk (n:=3) (hB16.ext x17) rfl (by decide)) (hu1.ext ((x13.trans (x14.trans x15)).trans y17)) (hu2.ext (x15.trans y17)) (hb.ext X17) (by simp only [Fm.size];omega)).mono ?_)
  rintro u3 w18 ⟨x18,ho3⟩
  refine ⟨x18,?_⟩
  refine iRetQ (fun w' x'=>bD (f:=.imp c (.imp d b)) (OwK.sl (OwK.ext ho3 x')) ⟨hga.1,hga.2,hgb⟩ (by simp only [Fm.size];omega)) ?_
  intro w19 x19
  refine iBs1 rfl rfl fun b2 w20 hb20 x20 hB20=>⟨x20,fun w21 x21=>?_⟩
  have X21:=(X17.trans x18).trans (x19.trans (x20.trans x21))
  refine iCall ((aN (ts:=[(Fm.imp c (.imp d b)).body]) (hv.ext X21) (Ow.ofBlk (n:=1) (hB20.ext x21) (Nat.zero_le _) rfl (by decide)) (by simp only [List.length_singleton];omega)).mono ?_)
  rintro u w22 ⟨x22,v',rfl,ho⟩
  intro w23 x23
  refine iBsA fun b3 w24 hb24 x24 hB24=>fun w25 x25=>?_
  have y:=(x23.trans x24).trans x25
  exact ⟨(X21.trans x22).trans y,_,rfl,fun _=>one (hB24.ext x25) ((ho.ext y).mono (Nat.zero_le _))⟩
 | or c d=>
  refine iEq (iCndF rfl (iEq (iCndF rfl (iEq (iCndF rfl (iEq (iCndT rfl ?_)))))))
  have hT:aT L r t = ([(ins L t [(Fm.imp c b).body,(Fm.imp d b).body],r)],true):=by unfold aT;rw [e]
  rw [hT]
  refine iLd2 hB ?_
  simp only [Fm.size] at hn
  intro w11 x11
  have X11:=x1.trans x11
  refine iCall ((aO (f:=.or c d) (ha.ext X11) rfl (by simp only [Fm.size];omega)).mono ?_)
  rintro u1 w12 ⟨x12,hu1⟩
  refine ⟨x12,fun w13 x13=>?_⟩
  have X13:=(X11.trans x12).trans x13
  refine iBs2 rfl (SlK.cellOk hu1) (SlK.cellOk hb) fun b1 w14 hb14 x14 hB14=>⟨x14,fun w15 x15=>?_⟩
  have y15:=x14.trans x15
  have X15:=X13.trans y15
  refine iCall ((rN (a:=c) (b:=b) (Sl.ofBlk (n:=2) (hB14.ext x15) rfl (by decide)) (hu1.ext (x13.trans y15)) (hb.ext X15) (by simp only [Fm.size];omega)).mono ?_)
  rintro u3 w16 ⟨x16,ho3⟩
  refine ⟨x16,?_⟩
  refine iRetQ (fun w' x'=>bD (f:=.imp c b) (OwK.sl (OwK.ext ho3 x')) ⟨hga.1,hgb⟩ (by simp only [Fm.size];omega)) ?_
  intro w17 x17
  have X17:=X15.trans (x16.trans x17)
  refine iCall ((aU (f:=.or c d) (ha.ext X17) rfl (by simp only [Fm.size];omega)).mono ?_)
  rintro u2 w18 ⟨x18,hu2⟩
  refine ⟨x18,fun w19 x19=>?_⟩
  have X19:=(X17.trans x18).trans x19
  refine iBs2 rfl (SlK.cellOk hu2) (SlK.cellOk hb) fun b2 w20 hb20 x20 hB20=>⟨x20,fun w21 x21=>?_⟩
  have y21:=x20.trans x21
  have X21:=X19.trans y21
  refine iCall ((rN (a:=d) (b:=b) (Sl.ofBlk (n:=2) (hB20.ext x21) rfl (by decide)) (hu2.ext (x19.trans y21)) (hb.ext X21) (by simp only [Fm.size];omega)).mono ?_)
  rintro u4 w22 ⟨x22,ho4⟩
  refine ⟨x22,?_⟩
  refine iRetQ (fun w' x'=>bD (f:=.imp d b) (OwK.sl (OwK.ext ho4 x')) ⟨hga.2,hgb⟩ (by simp only [Fm.size];omega)) ?_
  intro w23 x23
  refine iBs2 rfl rfl rfl fun b3 w24 hb24 x24 hB24=>⟨x24,fun w25 x25=>?_⟩
  have X25:=(X21.trans x22).trans (x23.trans (x24.trans x25))
  refine iCall ((aN (ts:=[(Fm.imp c b).body,(Fm.imp d b).body]) (hv.ext X25) (Ow.ofBlk (n:=2) (hB24.ext x25) (Nat.zero_le _) rfl (by decide)) (by simp only [List.length_cons,List.length_nil];omega)).mono ?_)
  rintro u w26 ⟨x26,v',rfl,ho⟩
  intro w27 x27
  refine iBsA fun b4 w28 hb28 x28 hB28=>fun w29 x29=>?_
  have y:=(x27.trans x28).trans x29
  exact ⟨(X25.trans x26).trans y,_,rfl,fun _=>GlR.one (p:=(_,r)) (hB28.ext x29) ((ho.ext y).mono (Nat.zero_le _))⟩
theorem KV {lo:Nat} {v va:Value} {L:List Str} {r t:Str} {w:World} (hv:TxW lo w v L) (ha:FmS w va (fT t)) (hg:(fT t).good) (hp:(fT t).plain = true) (hn:(fT t).size ≤ 1000000) (hl:L.length ≤ 549755813888):
  Cal Tryz.prog u0 #[.agg #[v,sv r],sv t,va] w fun u w'=>Ext w w' ∧ ∃ x,u = .tuple #[x,.bool (aT L r t).2] ∧ ((aT L r t).2 = true → GlR w' x (aT L r t).1):=by
 apply MH;unfold vW
 refine iNew2 fun q w1 hq x1 hB=>?_
 refine iCall ((cE (ha.ext x1) hg (by omega)).mono ?_)
 rintro u w2 ⟨x2,ho⟩
 have X2:=x1.trans x2
 have hB:=hB.ext x2
 refine iFld (j:=0) (ha.ext X2) rfl (fT t).size_pos (by decide) (aP ha).1 ?_
 cases e:fT t with
 | box a=>rw [e] at hp;cases hp
 | dia a=>rw [e] at hp;cases hp
 | var p=>
  refine iEq (iCndF rfl (iEq (iCndF rfl (iEq (iCndF rfl ?_)))))
  have hT:aT L r t = ([],false):=by unfold aT;rw [e]
  rw [hT]
  exact ⟨X2,_,rfl,fun h=>by cases h⟩
 | fls=>
  refine iEq (iCndF rfl (iEq (iCndF rfl (iEq (iCndF rfl ?_)))))
  have hT:aT L r t = ([],false):=by unfold aT;rw [e]
  rw [hT]
  exact ⟨X2,_,rfl,fun h=>by cases h⟩
 | and a b=>
  rw [e] at ho
  refine iEq (iCndT rfl ?_)
  have hT:aT L r t = ([(ins L t [a.body,b.body],r)],true):=by unfold aT;rw [e]
  rw [hT]
  refine iLd2 hB ?_
  refine iCall ((aN (ts:=[a.body,b.body]) (hv.ext X2) ho (by simp only [List.length_cons,List.length_nil];omega)).mono ?_)
  rintro u w3 ⟨x3,v',rfl,ho3⟩
  refine iBsA fun b4 w4 hb4 x4 hB4=>?_
  exact ⟨(X2.trans x3).trans x4,_,rfl,fun _=>GlR.one (p:=(_,r)) hB4 (ho3.ext x4)⟩
 | imp a b=>
  refine iEq (iCndF rfl (iEq (iCndF rfl (iEq (iCndT rfl ?_)))))
  refine iLd2 hB ?_
  rw [e] at hg hp hn ha
  intro w3 x3
  have X3:=X2.trans x3
  refine iCall ((aO (f:=.imp a b) (ha.ext X3) rfl (by omega)).mono ?_)
  rintro u1 w4 ⟨x4,hu1⟩
  refine ⟨x4,fun w5 x5=>?_⟩
  have X5:=(X3.trans x4).trans x5
  refine iCall ((aU (f:=.imp a b) (ha.ext X5) rfl (by omega)).mono ?_)
  rintro u2 w6 ⟨x6,hu2⟩
  refine ⟨x6,fun w7 x7=>?_⟩
  have X7:=(X5.trans x6).trans x7
  refine iCall ((FJ (hv.ext X7) (hu1.ext ((x5.trans x6).trans x7)) (hu2.ext x7) e hg.1 hg.2 (aQ hp).1 hn hl).mono ?_)
  rintro u3 w8 ⟨x8,x,rfl,hx⟩
  refine iE20 (iE21 ?_)
  intro w9 x9
  exact ⟨(X7.trans x8).trans x9,x,rfl,fun h=>(hx h).ext x9⟩
 | or a b=>
  rw [e] at ho
  refine iEq (iCndF rfl (iEq (iCndT rfl ?_)))
  have hT:aT L r t = ([(ins L t [a.body],r),(ins L t [b.body],r)],true):=by unfold aT;rw [e]
  rw [hT]
  refine iLd2 hB ?_
  refine iIaG (L:=[a.body,b.body]) ho.sl (j:=0) rfl (by simp) ?_
  refine iLd2 hB ?_
  refine iIaG (L:=[a.body,b.body]) ho.sl (j:=1) rfl (by simp) ?_
  show ∀ w5,Ext w2 w5 → _
  have fin:∀ {w':World} {u1 u2:Value} {bb:Nat} {e:TypeId},Blk e w' bb [u1,sv r,u2,sv r] → TxW 0 w' u1 (ins L t [a.body]) → TxW 0 w' u2 (ins L t [b.body]) → GlR w' (.slice (some ⟨bb,0,none⟩) 2 2) [(ins L t [a.body],r),(ins L t [b.body],r)]:=fun h k l=>GlR.two (p:=(_,r)) (q:=(_,r)) h k l
  have row:∀ {w':World} {e:Nat} {s:Str},Blk aB w' e [sv s] → TxW 0 w' (.slice (some ⟨e,0,none⟩) 1 1) [s]:=fun h=>Ow.ofBlk (n:=1) h (Nat.zero_le _) rfl (by decide)
  have hl1:∀ s:Str,L.length + [s].length ≤ 1099511627776:=fun s=>by simp only [List.length_singleton];omega
  intro w5 x5
  have X5:=X2.trans x5
  refine ⟨?_,?_⟩
  ·refine iBs1 rfl rfl fun b1 w6 hb6 x6 hB6=>⟨x6,fun w7 x7=>⟨?_,?_⟩⟩
   ·have X7:=X5.trans (x6.trans x7)
    refine iCall ((aN (ts:=[a.body]) (hv.ext X7) (row (hB6.ext x7)) (hl1 _)).mono ?_)
    rintro u w8 ⟨x8,v',rfl,ho8⟩
    refine ⟨x8,fun w9 x9=>?_⟩
    refine iBs1 rfl rfl fun b2 w10 hb10 x10 hB10=>⟨x10,fun w11 x11=>?_⟩
    have y11:=(x9.trans x10).trans x11
    have X11:=(X7.trans x8).trans y11
    refine iCall ((aN (ts:=[b.body]) (hv.ext X11) (row (hB10.ext x11)) (hl1 _)).mono ?_)
    rintro u w12 ⟨x12,v'',rfl,ho12⟩
    intro w13 x13
    refine iBsA2 fun b3 w14 hb14 x14 hB14=>fun w15 x15=>?_
    have y15:=(x13.trans x14).trans x15
    exact ⟨(X11.trans x12).trans y15,_,rfl,fun _=>fin (hB14.ext x15) ((ho8.ext ((y11.trans x12).trans y15)).mono (Nat.zero_le _)) ((ho12.ext y15).mono (Nat.zero_le _))⟩
   ·refine iBs1 rfl rfl fun b2 w8 hb8 x8 hB8=>⟨x8,fun w9 x9=>?_⟩
    have X9:=(X5.trans (x6.trans x7)).trans (x8.trans x9)
    refine iCall ((aN (ts:=[a.body]) (hv.ext X9) (row (hB6.ext (x7.trans (x8.trans x9)))) (hl1 _)).mono ?_)
    rintro u w10 ⟨x10,v',rfl,ho10⟩
    refine ⟨x10,fun w11 x11=>?_⟩
    have X11:=(X9.trans x10).trans x11
    refine iCall ((aN (ts:=[b.body]) (hv.ext X11) (row (hB8.ext (x9.trans (x10.trans x11)))) (hl1 _)).mono ?_)
    rintro u w12 ⟨x12,v'',rfl,ho12⟩
    intro w13 x13
    refine iBsA2 fun b3 w14 hb14 x14 hB14=>fun w15 x15=>?_
    have y15:=(x13.trans x14).trans x15
    exact ⟨(X11.trans x12).trans y15,_,rfl,fun _=>fin (hB14.ext x15) ((ho10.ext ((x11.trans x12).trans y15)).mono (Nat.zero_le _)) ((ho12.ext y15).mono (Nat.zero_le _))⟩
  ·refine iBs1 rfl rfl fun b1 w6 hb6 x6 hB6=>⟨x6,fun w7 x7=>?_⟩
   refine iBs1 rfl rfl fun b2 w8 hb8 x8 hB8=>⟨x8,fun w9 x9=>?_⟩
   have X9:=(X5.trans (x6.trans x7)).trans (x8.trans x9)
   refine iCall ((aN (ts:=[a.body]) (hv.ext X9) (row (hB8.ext x9)) (hl1 _)).mono ?_)
   rintro u w10 ⟨x10,v',rfl,ho10⟩
   refine ⟨x10,fun w11 x11=>?_⟩
   have X11:=(X9.trans x10).trans x11
   refine iCall ((aN (ts:=[b.body]) (hv.ext X11) (row (hB6.ext (x7.trans ((x8.trans x9).trans (x10.trans x11))))) (hl1 _)).mono ?_)
   rintro u w12 ⟨x12,v'',rfl,ho12⟩
   intro w13 x13
   refine iBsA2 fun b3 w14 hb14 x14 hB14=>fun w15 x15=>?_
   have y15:=(x13.trans x14).trans x15
   exact ⟨(X11.trans x12).trans y15,_,rfl,fun _=>fin (hB14.ext x15) ((ho10.ext ((x11.trans x12).trans y15)).mono (Nat.zero_le _)) ((ho12.ext y15).mono (Nat.zero_le _))⟩
end Go.Proofs.YteifjhpddhppcaaGreatDoor

namespace Go.Vc
theorem SlK.tr {Q:Str → Value → Prop} {k mb:Nat} {w w':World} {v:Value} {n:Nat} {xs:List Value} (h:SlK k w v n xs) (hm:MapB Q w mb) (hc:Ch (fun c=>c = mb) w w'):SlK k w' v n xs:=by
 obtain ⟨h0,a,c,hv,h2,h3,h4⟩:=h
 obtain ⟨es,clock,hb,_⟩:=hm
 refine ⟨h0,a,c,hv,h2,h3,?_⟩
 rcases h4 with rfl | ⟨b,o,ha,hcell⟩
 ·exact .inl rfl
 ·refine .inr ⟨b,o,ha,fun i hi=>?_⟩
  have h5:=hcell i hi
  rw [List.getElem?_eq_getElem (by omega)] at h5 ⊢
  have hne:b ≠ mb:=by
   rintro rfl
   simp only [World.cell?,hb] at h5
   cases h5
  have hlt:b < w.heap.size:=by
   rcases Nat.lt_or_ge b w.heap.size with h | h
   ·exact h
   ·simp only [World.cell?,Array.getElem?_eq_none h] at h5
    cases h5
  simp only [World.cell?] at h5 ⊢
  rw [hc.block b hlt hne]
  exact h5
def DQ (Q:Str → Value → Prop) (mb:Nat) (w:World) (b:Bool) (v:Value) (w':World):Prop:=v = .bool b ∧ MapB Q w' mb ∧ Ch (fun c=>c = mb) w w'
theorem DQ.ext {Q:Str → Value → Prop} {mb:Nat} {w0 w w1 w2:World} {b:Bool} {v:Value} (h:DQ Q mb w b v w1) (x:Ext w0 w) (y:Ext w1 w2):DQ Q mb w0 b v w2:=
 ⟨h.1,h.2.1.ext y,((x.ch (S:=fun c=>c = mb)).trans h.2.2 fun _ e=>.inl e).trans (y.ch (S:=fun _=>False)) fun _ e=>e.elim⟩
theorem DQ.thenCh {Q:Str → Value → Prop} {mb:Nat} {w0 w w1:World} {b:Bool} {v:Value} (h:DQ Q mb w b v w1) (x:Ch (fun c=>c = mb) w0 w):DQ Q mb w0 b v w1:=
 ⟨h.1,h.2.1,x.trans h.2.2 fun _ e=>.inl e⟩
theorem DQ.val {Q:Str → Value → Prop} {mb:Nat} {w w1:World} {b b':Bool} {v:Value} (h:DQ Q mb w b v w1) (e:b = b'):DQ Q mb w b' v w1:=e ▸ h
theorem cQ {mb:Nat} {w0 w w1:World} (x:Ext w0 w) (h:Ch (fun c=>c = mb) w w1):Ch (fun c=>c = mb) w0 w1:=(x.ch (S:=fun c=>c = mb)).trans h fun _ e=>.inl e
def KnQ (k:Str) (v:Value):Prop:=∃ L r,k = keyT L r ∧ (∀ t ∈ L,GT t) ∧ GT r ∧ v = .bool (vB L r)
end Go.Vc
namespace Go.Proofs.YteifjhpddhppcaaGreatDoor
open Go.Vc
theorem TxW.tr {Q:Str → Value → Prop} {lo mb:Nat} {w w':World} {v:Value} {L:List Str} (h:TxW lo w v L) (hm:MapB Q w mb) (hc:Ch (fun c=>c = mb) w w'):TxW lo w' v L:=h.ch hc (hm.ne_ow h.toK)
theorem ND {Q:Str → Value → Prop} {x fv:Value} {ps:List Sq} {mb:Nat} {w:World} (B:Nat → Bool) (hm:MapB Q w mb) (hx:GlR w x ps)
  (hf:∀ i p,ps[i]? = some p → ∀ w',MapB Q w' mb → Ch (fun c=>c = mb) w w' → ∀ v,TxW 0 w' v p.1 → callV Tryz.prog fv [.agg #[v,sv p.2]] w' (DQ Q mb w' (B i))):
  Cal Tryz.prog bS #[x,fv] w fun u w'=>∃ b,DQ Q mb w b u w' ∧ (b = true ↔ ∃ i,i < ps.length ∧ B i = true):=by
 apply dE;unfold bT
 have hx0:=hx
 obtain ⟨xs,hs,hps⟩:=hx
 have hln:=hs.len
 refine iCall (Cal.mono (R:=fun r w'=>∃ z:Int,r = .int .i64 z ∧ (0 ≤ z ↔ ∃ i,i < ps.length ∧ B i = true) ∧ MapB Q w' mb ∧ Ch (fun c=>c = mb) w w') ?_ ?_)
 ·apply dU;unfold cA
  refine iLenK hs ?_
  refine iLp (fun i:Nat=>[.int .i64 (i:Int)]) (fun i w'=>i ≤ ps.length ∧ MapB Q w' mb ∧ Ch (fun c=>c = mb) w w' ∧ ∀ j,j < i → B j = false) (fun i=>ps.length - i) 0 rfl ⟨Nat.zero_le _,hm,(Ext.refl w).ch,fun j hj=>by omega⟩ ?_
  rintro i w2 Kn ⟨hi,hm2,hc2,hno⟩ hKn
  intro _
  simp only [gx]
  refine iLt ?_
  refine iCndP (fun h=>?_) (fun h=>?_)
  ·have hil:i < ps.length:=by omega
   obtain ⟨v,h1,h2,h3⟩:=hps i ps[i] (List.getElem?_eq_getElem hil)
   refine iLdK (cs:=#[v,sv (ps[i]).2]) (hs.tr hm hc2) rfl hil rfl (fun j hj=>?_) ?_
   ·rcases j with _ | _ | j
    ·exact h1
    ·exact h2
    ·omega
   refine (hf i ps[i] (List.getElem?_eq_getElem hil) w2 hm2 hc2 v (TxW.tr h3 hm hc2)).mono ?_
   rintro u w3 ⟨rfl,hm3,hc3⟩
   have hc3:=hc2.trans hc3 fun _ e=>.inl e
   refine iCnd (fun h3=>?_) (fun h3=>?_)
   ·exact ⟨_,rfl,⟨fun _=>⟨i,hil,h3⟩,fun _=>by omega⟩,hm3,hc3⟩
   ·refine iAdd (by omega) ?_
    refine hKn (i + 1) _ ⟨by omega,hm3,hc3,fun j hj=>?_⟩ (by omega)
    by_cases hji:j = i
    ·subst hji;exact h3
    ·exact hno j (by omega)
  ·refine ⟨-1,by first | trivial | rfl,⟨fun h=>by omega,fun ⟨j,hj,hB⟩=>?_⟩,hm2,hc2⟩
   rw [hno j (by omega)] at hB;cases hB
 ·rintro r w1 ⟨z,rfl,hz,hm1,hc1⟩
  refine iLe ?_
  exact ⟨_,⟨rfl,hm1,hc1⟩,by rw [decide_eq_true_eq];exact hz⟩
theorem uT {Q:Str → Value → Prop} {x fv:Value} {L:List Str} {mb lo:Nat} {w:World} (B:Nat → Bool) (hm:MapB Q w mb) (hx:TxW lo w x L)
  (hf:∀ i,i < L.length → ∀ w',MapB Q w' mb → Ch (fun c=>c = mb) w w' → callV Tryz.prog fv [sv (gt L i)] w' (DQ Q mb w' (B i))):
  Cal Tryz.prog eV #[x,fv] w fun u w'=>∃ b,DQ Q mb w b u w' ∧ (b = true ↔ ∃ i,i < L.length ∧ B i = true):=by
 apply kU;unfold eG
 have hln:=hx.sl.len
 rw [bG] at hln
 refine iCall (Cal.mono (R:=fun r w'=>∃ z:Int,r = .int .i64 z ∧ (0 ≤ z ↔ ∃ i,i < L.length ∧ B i = true) ∧ MapB Q w' mb ∧ Ch (fun c=>c = mb) w w') ?_ ?_)
 ·apply fP;unfold cS
  refine bO hx.sl ?_
  refine iLp (fun i:Nat=>[.int .i64 (i:Int)]) (fun i w'=>i ≤ L.length ∧ MapB Q w' mb ∧ Ch (fun c=>c = mb) w w' ∧ ∀ j,j < i → B j = false) (fun i=>L.length - i) 0 rfl ⟨Nat.zero_le _,hm,(Ext.refl w).ch,fun j hj=>by omega⟩ ?_
  rintro i w2 Kn ⟨hi,hm2,hc2,hno⟩ hKn
  intro _
  simp only [gx]
  refine iLt ?_
  refine iCndP (fun h=>?_) (fun h=>?_)
  ·have hil:i < L.length:=by omega
   refine iIaG (TxW.tr hx hm hc2).sl rfl hil ?_
   refine (hf i hil w2 hm2 hc2).mono ?_
   rintro u w3 ⟨rfl,hm3,hc3⟩
   have hc3:=hc2.trans hc3 fun _ e=>.inl e
   refine iCnd (fun h3=>?_) (fun h3=>?_)
   ·exact ⟨_,rfl,⟨fun _=>⟨i,hil,h3⟩,fun _=>by omega⟩,hm3,hc3⟩
   ·refine iAdd (by omega) ?_
    refine hKn (i + 1) _ ⟨by omega,hm3,hc3,fun j hj=>?_⟩ (by omega)
    by_cases hji:j = i
    ·subst hji;exact h3
    ·exact hno j (by omega)
  ·refine ⟨-1,by first | trivial | rfl,⟨fun h=>by omega,fun ⟨j,hj,hB⟩=>?_⟩,hm2,hc2⟩
   rw [hno j (by omega)] at hB;cases hB
 ·rintro r w1 ⟨z,rfl,hz,hm1,hc1⟩
  refine iLe ?_
  exact ⟨_,⟨rfl,hm1,hc1⟩,by rw [decide_eq_true_eq];exact hz⟩
structure Dec (w:World) (db mb:Nat):Prop where
 blk:Blk 121 w db [.map (some mb)]
 map:MapB KnQ w mb
theorem Dec.ext {w w':World} {db mb:Nat} (h:Dec w db mb) (x:Ext w w'):Dec w' db mb:=⟨h.blk.ext x,h.map.ext x⟩
theorem Dec.tr {w w':World} {db mb:Nat} (h:Dec w db mb) (hm:MapB KnQ w' mb) (hc:Ch (fun c=>c = mb) w w'):Dec w' db mb:=⟨h.blk.ch hc (h.map.ne_blk h.blk),hm⟩
abbrev dp (db:Nat):Value:=.pointer (some ⟨db,0,none⟩)
def Pv (db mb:Nat) (L:List Str) (r:Str):Prop:=∀ (w:World) (v:Value),Dec w db mb → TxW 0 w v L → Cal Tryz.prog oC #[dp db,.agg #[v,sv r]] w (DQ KnQ mb w (vB L r))
theorem u_kn:Tryz.prog.underlying 119 = some (.map 9 4):=by kernel_rfl
theorem u_kns:Tryz.prog.underlying 9 = some .string:=by kernel_rfl
theorem z_kn:(Tryz.prog.info? 4).map (fun i=>i.zero) = some (some (.bool false)):=by kernel_rfl
theorem aDM (w:World):(zeroValue 4).run Tryz.prog w = .ok (.bool false) w:=by
 obtain ⟨i,hi,hz⟩:=Option.map_eq_some_iff.1 z_kn
 simp [zeroValue,iZ hi,hz]
theorem qH {db mb:Nat} {x:Value} {ps:List Sq} {w:World} (hD:Dec w db mb) (hx:GlR w x ps) (IH:∀ p ∈ ps,Pv db mb p.1 p.2):
  Cal Tryz.prog tK #[dp db,x] w fun u w'=>∃ b,DQ KnQ mb w b u w' ∧ (b = true ↔ ∀ p ∈ ps,VT p.1 p.2):=by
 apply JS;unfold sR
 refine iNew fun q w1 hq x1 hB=>?_
 have hD1:=hD.ext x1
 refine iCall ((ND (B:=fun i=>!(match ps[i]? with | some p=>vB p.1 p.2 | none=>true)) hD1.map (hx.ext x1) fun i p hp w' hm' hc' v hv=>(iClo rfl ?_)).mono ?_)
 ·show Cal Tryz.prog pC #[.agg #[v,sv p.2],.pointer (some ⟨q,0,none⟩)] w' _
  apply FH;unfold oQ
  refine iNew2 fun q2 w2 hq2 x2 hB2=>?_
  have hB':Blk 81 w2 q [dp db]:=(hB.ch hc' (hD1.map.ne_blk hB)).ext x2
  refine iLdB hB' rfl ?_
  refine iLd2 hB2 ?_
  refine iCall ((IH p (List.mem_of_getElem? hp) w2 v ((hD1.tr hm' hc').ext x2) (hv.ext x2)).mono ?_)
  rintro u w3 h3
  obtain ⟨rfl,-,-⟩:=id h3
  refine iNot ?_
  rw [hp]
  exact ⟨rfl,(h3.ext x2 (Ext.refl _)).2⟩
 ·rintro u w2 ⟨b,h2,hb⟩
  obtain ⟨rfl,-,-⟩:=id h2
  refine iNot ⟨!b,⟨rfl,(h2.ext x1 (Ext.refl _)).2⟩,?_⟩
  rw [Bool.not_eq_true',Bool.eq_false_iff,Ne,hb]
  constructor
  ·intro h p hp
   obtain ⟨i,hi,rfl⟩:=List.getElem_of_mem hp
   refine Classical.byContradiction fun hn=>h ⟨i,hi,?_⟩
   rw [List.getElem?_eq_getElem hi]
   simp only [Bool.not_eq_true']
   exact nH.2 hn
  ·rintro h ⟨i,hi,hB⟩
   rw [List.getElem?_eq_getElem hi] at hB
   simp only [Bool.not_eq_true'] at hB
   exact nH.1 hB (h _ (List.getElem_mem _))
theorem ET {db mb:Nat} {v vc:Value} {L:List Str} {r:Str} {w:World} (hD:Dec w db mb) (hv:TxW 0 w v L) (hc:FmS w vc (fT r)) (h:SqT L r) (IH:∀ L' r',SqT L' r' → mT L' + wT r' < mT L + wT r → Pv db mb L' r')
  (hr:¬ r ∈ L) (hf:¬ Fm.fls.body ∈ L) (hno:∀ t ∈ L,(aT L r t).2 = false) (hr2:∀ a b,fT r ≠ .and a b ∧ fT r ≠ .imp a b):
  Cal Tryz.prog pP #[dp db,.agg #[v,sv r],vc] w (DQ KnQ mb w (vB L r)):=by
 apply E7;unfold oZ
 refine iNew fun q w1 hq x1 hB=>?_
 refine iNew2 fun q2 w2 hq2 x2 hB2=>?_
 have X2:=x1.trans x2
 have hB:Blk 81 w2 q [dp db]:=hB.ext x2
 have hD2:=hD.ext X2
 have hv2:TxW 0 w2 v L:=hv.ext X2
 obtain ⟨hrg,hrp,hrb⟩:=h.right.at
 have hsz:=Fm.wt_size hrp
 have hwr:=h.wt_right
 have hll:=XC L
 have hsm:=h.small
 refine iJnX (fun xs w'=>∃ b,xs = [.bool b] ∧ MapB KnQ w' mb ∧ Ch (fun c=>c = mb) w2 w' ∧ (b = true ↔ ∃ a c,fT r = .or a c ∧ (VT L a.body ∨ VT L c.body))) (fun J hJ=>?_) ?_
 ·refine iFld (j:=0) (hc.ext X2) rfl (fT r).size_pos (by decide) (aP hc).1 ?_
  refine iEq ?_
  refine iCndP (fun hk=>?_) (fun hk=>?_)
  ·obtain ⟨a,c,e⟩:∃ a c,fT r = .or a c:=by
    cases e:fT r <;> rw [e] at hk <;> simp [Fm.kind] at hk
    exact ⟨_,_,rfl⟩
   refine iCall ((cE (hc.ext X2) hrg (by omega)).mono ?_)
   rintro u w5 ⟨x5,ho⟩
   rw [e] at ho
   have hD5:=hD2.ext x5
   have hw:=wT_of e
   have hlo:=lt_or a c
   have hga:a.good ∧ c.good:=by rw [e] at hrg;exact hrg
   have hpa:=e6 (by rw [e] at hrp;exact hrp)
   have wa:=cL hga.1
   have wc:=cL hga.2
   have a2:=a.w2_ge
   have c2:=c.w2_ge
   refine iCall ((uT (L:=[a.body,c.body]) (B:=fun i=>vB L (gt [a.body,c.body] i)) hD5.map ho fun i hi w' hm' hc'=>(iClo rfl ?_)).mono ?_)
   ·show Cal Tryz.prog mU #[sv (gt [a.body,c.body] i),.pointer (some ⟨q,0,none⟩),.pointer (some ⟨q2,0,none⟩)] w' _
    apply BU;unfold mM
    have hB':Blk 81 w' q [dp db]:=(hB.ext x5).ch hc' (hD5.map.ne_blk (hB.ext x5))
    have hB2':Blk 85 w' q2 [v,sv r]:=(hB2.ext x5).ch hc' (hD5.map.ne_blk (hB2.ext x5))
    refine iLdB hB' rfl ?_
    refine iLd2 hB2' ?_
    intro w6 x6
    refine iRet (aV hv.cell) fun w7 x7=>⟨x7,fun w8 x8=>?_⟩
    have y:=x6.trans (x7.trans x8)
    have hsq:SqT L (gt [a.body,c.body] i) ∧ mT L + wT (gt [a.body,c.body] i) < mT L + wT r:=by
     have:i = 0 ∨ i = 1:=by simp at hi;omega
     rcases this with rfl | rfl
     ·exact ⟨⟨h.left,GT.of hga.1 hpa.1,by show mT L + wT a.body ≤ _;omega⟩,by show mT L + wT a.body < _;omega⟩
     ·exact ⟨⟨h.left,GT.of hga.2 hpa.2,by show mT L + wT c.body ≤ _;omega⟩,by show mT L + wT c.body < _;omega⟩
    refine iCall ((IH L _ hsq.1 hsq.2 w8 v ((hD5.tr hm' hc').ext y) ((TxW.tr (hv2.ext x5) hD5.map hc').ext y)).mono ?_)
    rintro u w9 h9
    intro w10 x10
    exact h9.ext y x10
   ·rintro u w6 ⟨b,h6,hb⟩
    obtain ⟨rfl,hm6,hc6⟩:=h6
    refine hJ _ _ ⟨b,rfl,hm6,cQ x5 hc6,?_⟩
    rw [hb]
    constructor
    ·rintro ⟨i,hi,hB⟩
     have:i = 0 ∨ i = 1:=by simp at hi;omega
     rcases this with rfl | rfl
     ·exact ⟨a,c,e,.inl (bY.1 hB)⟩
     ·exact ⟨a,c,e,.inr (bY.1 hB)⟩
    ·rintro ⟨a',c',e',hV⟩
     rw [e] at e'
     cases e'
     rcases hV with hV | hV
     ·exact ⟨0,by simp,bY.2 hV⟩
     ·exact ⟨1,by simp,bY.2 hV⟩
  ·refine hJ _ _ ⟨false,rfl,hD2.map,(Ext.refl _).ch,⟨fun h=>(by cases h),fun ⟨a,c,e,_⟩=>?_⟩⟩
   rw [e] at hk
   exact absurd rfl hk
 ·rintro xs w4 ⟨b,rfl,hm4,hc4,hb⟩
  intro _
  simp only [gx]
  have hD4:=hD2.tr hm4 hc4
  cases b
  rotate_left
  ·refine iCndT rfl ⟨?_,hm4,cQ X2 hc4⟩
   obtain ⟨a,c,e,hV⟩:=hb.1 rfl
   rw [bY.2 (VT.or h.right e hV)]
  refine iCndF rfl ?_
  have hB4:Blk 81 w4 q [dp db]:=hB.ch hc4 (hD2.map.ne_blk hB)
  have hB24:Blk 85 w4 q2 [v,sv r]:=hB2.ch hc4 (hD2.map.ne_blk hB2)
  have hv4:=TxW.tr hv2 hD2.map hc4
  refine iFa (iLdB hB24 rfl ?_)
  refine iCall ((uT (B:=fun i=>match mG L r (gt L i) with | some (p,q)=>vB p.1 p.2 && vB q.1 q.2 | none=>false) hm4 hv4 fun i hi w' hm' hc'=>(iClo rfl ?_)).mono ?_)
  ·show Cal Tryz.prog mL #[sv (gt L i),.pointer (some ⟨q,0,none⟩),.pointer (some ⟨q2,0,none⟩)] w' _
   apply BT;unfold mW
   have hti:gt L i ∈ L:=by rw [gt_eq hi];exact List.getElem_mem _
   obtain ⟨htg,htp,htb⟩:=(h.left _ hti).at
   have htw:=h.wt_left hti
   have hts:=Fm.wt_size htp
   have htl:=KC (h.left _ hti)
   refine iCall ((rC (by omega) w').mono ?_)
   rintro u w5 ⟨x5,ho5⟩
   have ho5:FmW w'.heap.size w5 u (fT (gt L i)):=ho5
   have hD':=hD4.tr hm' hc'
   have hB':Blk 81 w' q [dp db]:=hB4.ch hc' (hD4.map.ne_blk hB4)
   have hB2':Blk 85 w' q2 [v,sv r]:=hB24.ch hc' (hD4.map.ne_blk hB24)
   have hv':=TxW.tr hv4 hD4.map hc'
   cases hn:mG L r (gt L i) with
   | none=>
    have hnx:¬ ∃ x y z,fT (gt L i) = .imp (.imp x y) z:=by
     rintro ⟨x,y,z,e⟩
     unfold mG at hn
     rw [e] at hn
     cases hn
    refine iJnB true w5 (fun J hJ=>?_) (fun w6 x6=>?_)
    ·refine iFld (j:=0) ho5.sl rfl (fT (gt L i)).size_pos (by decide) (aP ho5.sl).1 ?_
     refine iNe ?_
     refine iCndP (fun _=>hJ _ (Ext.refl _)) (fun hk=>?_)
     obtain ⟨x,z,e⟩:∃ x z,fT (gt L i) = .imp x z:=by
      cases e:fT (gt L i) <;> rw [e] at hk <;> simp [Fm.kind] at hk
      exact ⟨_,_,rfl⟩
     refine iCall ((aO (f:=fT (gt L i)) (g:=x) (gs:=[z]) ho5.sl (by rw [e];rfl) (by omega)).mono ?_)
     rintro u2 w6 ⟨x6,hu2⟩
     refine iFld (j:=0) hu2 rfl x.size_pos (by decide) (aP hu2).1 ?_
     refine iNe ?_
     rw [decide_eq_true (p:=¬ ((x.kind:Int) = 4)) (fun hk2=>?_)]
     ·exact hJ _ x6
     ·cases x <;> simp [Fm.kind] at hk2
      exact hnx ⟨_,_,_,e⟩
    ·intro _
     simp only [gx]
     refine iCndT rfl ⟨rfl,hm'.ext (x5.trans x6),(x5.trans x6).ch⟩
   | some pq=>
    obtain ⟨p,s⟩:=pq
    obtain ⟨⟨sp,lp⟩,⟨ss,ls⟩,-,-⟩:=LB h hti hn
    obtain ⟨x,y,z,e,hpq⟩:∃ x y z,fT (gt L i) = .imp (.imp x y) z ∧ ((ins L (gt L i) [(Fm.imp y z).body],(Fm.imp x y).body),(ins L (gt L i) [z.body],r)) = (p,s):=by
     unfold mG at hn
     split at hn
     ·rename_i x y z e
      exact ⟨x,y,z,e,Option.some.inj hn⟩
     ·cases hn
    simp only [Prod.mk.injEq] at hpq
    obtain ⟨rfl,rfl⟩:=hpq
    rw [e] at htg htp hts htw
    simp only [Fm.size] at hts
    refine iJnB false w5 (fun J hJ=>?_) (fun w6 x6=>?_)
    ·refine iFld (j:=0) ho5.sl rfl (fT (gt L i)).size_pos (by decide) (aP ho5.sl).1 ?_
     rw [e]
     refine iNe (iCndF rfl ?_)
     refine iCall ((aO (f:=fT (gt L i)) (g:=.imp x y) (gs:=[z]) ho5.sl (by rw [e];rfl) (by rw [e];simp only [Fm.size];omega)).mono ?_)
     rintro u2 w6 ⟨x6,hu2⟩
     refine iFld (j:=0) hu2 rfl (Fm.imp x y).size_pos (by decide) (aP hu2).1 ?_
     refine iNe ?_
     exact hJ _ x6
    intro _
    simp only [gx]
    refine iCndF rfl ?_
    rw [e] at ho5
    refine iCall ((aO (f:=.imp (.imp x y) z) (OwK.sl (OwK.ext ho5 x6)) rfl (by simp only [Fm.size];omega)).mono ?_)
    rintro ux w7 ⟨x7,hux⟩
    refine iCall ((aU (f:=.imp (.imp x y) z) (OwK.sl (OwK.ext ho5 (x6.trans x7))) rfl (by simp only [Fm.size];omega)).mono ?_)
    rintro uz w8 ⟨x8,huz⟩
    have hux:=hux.ext x8
    have X8:Ext w' w8:=x5.trans ((x6.trans x7).trans x8)
    refine iJnX (fun xs w9=>∃ b,xs = [.bool b] ∧ b = (vB (ins L (gt L i) [(Fm.imp y z).body]) (Fm.imp x y).body && vB (ins L (gt L i) [z.body]) r) ∧ MapB KnQ w9 mb ∧ Ch (fun c=>c = mb) w' w9) (fun J hJ=>?_) ?_
    ·refine iLdB (hB'.ext X8) rfl ?_
     refine iLd2 (hB2'.ext X8) ?_
     intro w9 x9
     refine iCall ((aU (f:=.imp x y) (hux.ext x9) rfl (by simp only [Fm.size];omega)).mono ?_)
     rintro uy w10 ⟨x10,huy⟩
     refine ⟨x10,fun w11 x11=>?_⟩
     have y11:=x9.trans (x10.trans x11)
     refine iBs2 rfl (SlK.cellOk huy) (SlK.cellOk huz) fun b1 w12 hb12 x12 hB12=>⟨x12,fun w13 x13=>?_⟩
     have y13:=y11.trans (x12.trans x13)
     refine iCall ((rN (a:=y) (b:=z) (Sl.ofBlk (n:=2) (hB12.ext x13) rfl (by decide)) (huy.ext (x11.trans (x12.trans x13))) (huz.ext y13) (by simp only [Fm.size];omega)).mono ?_)
     rintro u3 w14 ⟨x14,ho14⟩
     refine ⟨x14,?_⟩
     refine iRetQ (fun w'' x'=>bD (f:=.imp y z) (OwK.sl (OwK.ext ho14 x')) ⟨htg.1.2,htg.2⟩ (by simp only [Fm.size];omega)) ?_
     intro w15 x15
     refine iBs1 rfl rfl fun b2 w16 hb16 x16 hB16=>⟨x16,fun w17 x17=>?_⟩
     have y17:=y13.trans (x14.trans (x15.trans (x16.trans x17)))
     have X17:=X8.trans y17
     refine iCall ((aN (ts:=[(Fm.imp y z).body]) (hv'.ext X17) (Ow.ofBlk (lo:=0) (n:=1) (hB16.ext x17) (Nat.zero_le _) rfl (by decide)) (by simp only [List.length_singleton];omega)).mono ?_)
     rintro u4 w18 ⟨x18,v4,rfl,ho18⟩
     refine ⟨x18,?_⟩
     refine iRetQ (fun w'' x'=>bD (f:=.imp x y) ((hux.ext (y17.trans x18)).ext x') htg.1 (by simp only [Fm.size];omega)) ?_
     intro w19 x19
     refine iRet (aV ho18.cell) fun w20 x20=>⟨x20,fun w21 x21=>?_⟩
     have y21:=x19.trans (x20.trans x21)
     have X21:=(X17.trans x18).trans y21
     refine iCall ((IH _ _ sp lp w21 v4 (hD'.ext X21) ((ho18.ext y21).mono (Nat.zero_le _))).mono ?_)
     rintro u5 w22 h22
     obtain ⟨rfl,hm22,hc22⟩:=id h22
     have hD22:=(hD'.ext X21).tr hm22 hc22
     have hm21:=hm'.ext X21
     have tb:∀ {e:TypeId} {q:Nat} {cs:List Value},Blk e w' q cs → Blk e w22 q cs:=fun hq=>(hq.ext X21).ch hc22 (hm21.ne_blk (hq.ext X21))
     refine iCnd (fun hb=>?_) (fun hb=>?_)
     ·refine iLdB (tb hB') rfl ?_
      refine iLd2 (tb hB2') ?_
      have huz22:FmS w22 uz z:=SlK.tr (huz.ext ((y17.trans x18).trans y21)) hm21 hc22
      refine iRetQ (fun w'' x'=>bD (f:=z) (huz22.ext x') htg.2 (by omega)) ?_
      intro w23 x23
      refine iBs1 rfl rfl fun b3 w24 hb24 x24 hB24=>⟨x24,fun w25 x25=>?_⟩
      have y25:=x23.trans (x24.trans x25)
      have hv25:=(TxW.tr (hv'.ext X21) hm21 hc22).ext y25
      refine iCall ((aN (ts:=[z.body]) hv25 (Ow.ofBlk (lo:=0) (n:=1) (hB24.ext x25) (Nat.zero_le _) rfl (by decide)) (by simp only [List.length_singleton];omega)).mono ?_)
      rintro u6 w26 ⟨x26,v6,rfl,ho26⟩
      refine ⟨x26,fun w27 x27=>?_⟩
      have y27:=y25.trans (x26.trans x27)
      refine iCall ((IH _ _ ss ls w27 v6 (hD22.ext y27) ((ho26.ext x27).mono (Nat.zero_le _))).mono ?_)
      rintro u7 w28 h28
      intro w29 x29
      obtain ⟨rfl,hm29,hc29⟩:=(h28.ext y27 x29).thenCh (h22.ext X21 (Ext.refl _)).2.2
      exact hJ _ _ ⟨_,rfl,by rw [hb,Bool.true_and],hm29,hc29⟩
     ·intro w23 x23 w24 x24 w25 x25 w26 x26
      have h26:=h22.ext X21 (x23.trans (x24.trans (x25.trans x26)))
      exact hJ _ _ ⟨false,rfl,by rw [hb,Bool.false_and],h26.2.1,h26.2.2⟩
    ·rintro xs w9 ⟨b,rfl,hb,hm9,hc9⟩
     intro _
     simp only [gx]
     exact ⟨by rw [hb],hm9,hc9⟩
  ·rintro u w5 ⟨b,h5,hb5⟩
   refine (h5.thenCh (cQ X2 hc4)).val ?_
   cases b
   ·refine (nH.2 (aFC h hr hf hno hr2 (fun a c e=>?_) (fun t ht p s hn hV=>?_))).symm
    ·have hbb:=mt hb.2 (by decide)
     exact ⟨fun k=>hbb ⟨a,c,e,.inl k⟩,fun k=>hbb ⟨a,c,e,.inr k⟩⟩
    ·have hb5:=mt hb5.2 (by decide)
     obtain ⟨i,hi,rfl⟩:=List.getElem_of_mem ht
     refine hb5 ⟨i,hi,?_⟩
     rw [gt_eq hi,hn]
     simp only [Bool.and_eq_true]
     exact ⟨bY.2 hV.1,bY.2 hV.2⟩
   ·obtain ⟨i,hi,hBi⟩:=hb5.1 rfl
    have hti:gt L i ∈ L:=by rw [gt_eq hi];exact List.getElem_mem _
    split at hBi
    ·rename_i p s hn
     rw [Bool.and_eq_true] at hBi
     exact (bY.2 (((LB h hti hn).2.2.1 (bY.1 hBi.1)).1 (bY.1 hBi.2))).symm
    ·cases hBi
end Go.Proofs.YteifjhpddhppcaaGreatDoor

namespace Go.Vc
theorem vB_of {b:Bool} {L:List Str} {r:Str} {ps:List Sq} (P:Prem L r ps) (hb:b = true ↔ ∀ p ∈ ps,VT p.1 p.2):b = vB L r:=
 Bool.eq_iff_iff.2 (hb.trans (P.iff.symm.trans bY.symm))
end Go.Vc
namespace Go.Proofs.YteifjhpddhppcaaGreatDoor
open Go.Vc
theorem BQ {db mb:Nat} {v:Value} {L:List Str} {r:Str} {w:World} (hD:Dec w db mb) (hv:TxW 0 w v L) (h:SqT L r) (IH:∀ L' r',SqT L' r' → mT L' + wT r' < mT L + wT r → Pv db mb L' r'):
  Cal Tryz.prog iH #[dp db,.agg #[v,sv r]] w (DQ KnQ mb w (vB L r)):=by
 apply CP;unfold n6
 refine iNew2 fun q w1 hq x1 hB=>?_
 have hv1:TxW 0 w1 v L:=hv.ext x1
 obtain ⟨hrg,hrp,hrb⟩:=h.right.at
 have hrs:=Fm.wt_size hrp
 have hrw:=h.wt_right
 have hrl:=KC h.right
 have hll:=XC L
 have hsm:=h.small
 refine iJnB (decide (r ∈ L) || decide (Fm.fls.body ∈ L)) w1 (fun J hJ=>?_) (fun w3 x3=>?_)
 ·refine iFa (iLdB hB rfl ?_)
  refine iFa (iLdB hB rfl ?_)
  refine iRet (bP hv1.sl) fun w4 x4=>?_
  refine iCndP (fun hk=>?_) (fun hk=>?_)
  ·rw [decide_eq_true hk,Bool.true_or] at hJ;exact hJ _ x4
  ·rw [decide_eq_false hk,Bool.false_or] at hJ
   refine iFa (iLdB (hB.ext x4) rfl ?_)
   refine iRet (bP (t:=[70]) (hv1.ext x4).sl) fun w5 x5=>?_
   exact hJ _ (x4.trans x5)
 intro _
 simp only [gx]
 have X3:=x1.trans x3
 cases hb:decide (r ∈ L) || decide (Fm.fls.body ∈ L)
 rotate_left
 ·refine iCndT rfl ⟨?_,(hD.ext X3).map,X3.ch⟩
  rw [Bool.or_eq_true,decide_eq_true_eq,decide_eq_true_eq] at hb
  rw [bY.2 (VT.ax hb)]
 rw [Bool.or_eq_false_iff,decide_eq_false_iff_not,decide_eq_false_iff_not] at hb
 refine iCndF rfl ?_
 refine iFa (iLdB (hB.ext x3) rfl ?_)
 refine iCall ((rC (by omega) w3).mono ?_)
 rintro vc w6 ⟨x6,hc⟩
 have hc:FmW w3.heap.size w6 vc (fT r):=hc
 refine iCall ((cE hc.sl hrg (by omega)).mono ?_)
 rintro vt w7 ⟨x7,ht⟩
 have X7:=X3.trans (x6.trans x7)
 have hB7:Blk 85 w7 q [v,sv r]:=hB.ext (x3.trans (x6.trans x7))
 have hv7:TxW 0 w7 v L:=hv.ext X7
 have hD7:=hD.ext X7
 have hc7:FmS w7 vc (fT r):=hc.sl.ext x7
 refine iFld (j:=0) hc7 rfl (fT r).size_pos (by decide) (aP hc7).1 ?_
 refine iEq (iCndP (fun hk=>?_) (fun hk=>?_))
 ·obtain ⟨a,b,e⟩:∃ a b,fT r = .and a b:=by
   cases e:fT r <;> rw [e] at hk <;> simp [Fm.kind] at hk
   exact ⟨_,_,rfl⟩
  rw [e] at ht
  have P:=aBA h e
  refine iLd2 hB7 ?_
  refine iIaG (L:=[a.body,b.body]) ht.sl (j:=0) rfl (by simp) ?_
  refine iLd2 hB7 ?_
  refine iIaG (L:=[a.body,b.body]) ht.sl (j:=1) rfl (by simp) ?_
  show ∀ w8,Ext w7 w8 → _
  intro w8 x8
  refine iRet (aV (r':=a.body) hv.cell) fun w9 x9=>⟨x9,fun w10 x10=>?_⟩
  refine iRet (aV (r':=b.body) hv.cell) fun w11 x11=>?_
  intro w12 x12
  refine iBsA2 fun bb w13 hb13 x13 hB13=>fun w14 x14=>?_
  have y:=((x8.trans x9).trans (x10.trans x11)).trans (x12.trans (x13.trans x14))
  refine iCall ((qH (hD7.ext y) (ps:=[(L,a.body),(L,b.body)]) (GlR.two (p:=(L,a.body)) (q:=(L,b.body)) (hB13.ext x14) (hv7.ext y) (hv7.ext y)) fun p hp=>IH _ _ (P.sq p hp) (P.lt p hp)).mono ?_)
  rintro u w15 ⟨b,h15,hb15⟩
  intro w16 x16
  exact (h15.ext (X7.trans y) x16).val (vB_of P hb15)
 refine iEq (iCndP (fun hk2=>?_) (fun hk2=>?_))
 ·obtain ⟨a,b,e⟩:∃ a b,fT r = .imp a b:=by
   cases e:fT r <;> rw [e] at hk2 <;> simp [Fm.kind] at hk2
   exact ⟨_,_,rfl⟩
  rw [e] at ht
  have P:=aA5 h e
  refine iLd2 hB7 ?_
  refine iIaG (L:=[a.body,b.body]) ht.sl (j:=0) rfl (by simp) ?_
  refine iIaG (L:=[a.body,b.body]) ht.sl (j:=1) rfl (by simp) ?_
  show ∀ w17,Ext w7 w17 → _
  intro w17 x17
  refine iBs1 rfl rfl fun bb w18 hb18 x18 hB18=>⟨x18,fun w19 x19=>?_⟩
  have y19:=x17.trans (x18.trans x19)
  refine iCall ((mC (ts:=[a.body]) (hv7.ext y19) (Ow.ofBlk (lo:=0) (n:=1) (hB18.ext x19) (Nat.zero_le _) rfl (by decide)) (by simp only [List.length_singleton];omega)).mono ?_)
  rintro u w20 ⟨x20,v',rfl,ho⟩
  refine ⟨x20,fun w21 x21=>?_⟩
  refine iRet (aV (r':=b.body) ho.cell) fun w22 x22=>?_
  intro w23 x23
  have y23:=x21.trans (x22.trans x23)
  have Y:=(X7.trans y19).trans (x20.trans y23)
  have psq:SqT (setT (L ++ [a.body])) b.body:=P.sq _ (List.mem_singleton_self _)
  have plt:mT (setT (L ++ [a.body])) + wT b.body < mT L + wT r:=P.lt _ (List.mem_singleton_self _)
  refine iCall ((IH _ _ psq plt w23 v' (hD.ext Y) ((ho.ext y23).mono (Nat.zero_le _))).mono ?_)
  rintro u w24 h24
  intro w25 x25
  refine (h24.ext Y x25).val (vB_of P ?_)
  simp only [List.mem_singleton,forall_eq]
  exact bY
 ·have hr2:∀ a b,fT r ≠ .and a b ∧ fT r ≠ .imp a b:=fun a b=>⟨fun e=>hk (by rw [e];rfl),fun e=>hk2 (by rw [e];rfl)⟩
  refine iFa (iLdB hB7 rfl ?_)
  refine bO hv7.sl ?_
  refine iLp (fun i:Nat=>[.int .i64 (i:Int)]) (fun i w'=>i ≤ L.length ∧ Ext w7 w' ∧ ∀ j,j < i → (aT L r (gt L j)).2 = false) (fun i=>L.length - i) 0 rfl ⟨Nat.zero_le _,Ext.refl _,fun j hj=>by omega⟩ ?_
  rintro i w8 Kn ⟨hi,x8,hno⟩ hKn
  intro _
  simp only [gx]
  have hv8:TxW 0 w8 v L:=hv7.ext x8
  have hB8:=hB7.ext x8
  refine iLt ?_
  refine iCndP (fun hlt=>?_) (fun hlt=>?_)
  ·have hil:i < L.length:=by omega
   have hti:gt L i ∈ L:=by rw [gt_eq hil];exact List.getElem_mem _
   obtain ⟨htg,htp,htb⟩:=(h.left _ hti).at
   have htw:=h.wt_left hti
   have hts:=Fm.wt_size htp
   have htl:=KC (h.left _ hti)
   refine iIaG hv8.sl rfl hil ?_
   refine iLd2 hB8 ?_
   intro w9 x9
   refine iCall ((rC (t:=gt L i) (by omega) w9).mono ?_)
   rintro va w10 ⟨x10,ha⟩
   have ha:FmW w9.heap.size w10 va (fT (gt L i)):=ha
   refine ⟨x10,fun w11 x11=>?_⟩
   have y11:=x8.trans (x9.trans (x10.trans x11))
   refine iCall ((KV (hv7.ext y11) (ha.sl.ext x11) htg htp (by omega) (by omega)).mono ?_)
   rintro u w12 ⟨x12,x,rfl,hx⟩
   refine iE20 (iE21 ?_)
   intro w13 x13
   have y13:=y11.trans (x12.trans x13)
   refine iCnd (fun hk=>?_) (fun hk=>?_)
   ·have P:=aCZ h hti hk
    refine iCall ((qH (hD7.ext y13) ((hx hk).ext x13) fun p hp=>IH _ _ (P.sq p hp) (P.lt p hp)).mono ?_)
    rintro u w14 ⟨b,h14,hb14⟩
    exact (h14.ext (X7.trans y13) (Ext.refl _)).val (vB_of P hb14)
   ·refine iAdd (by omega) ?_
    refine hKn (i + 1) _ ⟨hil,y13,fun j hj=>?_⟩ (by omega)
    by_cases hji:j = i
    ·subst hji;exact hk
    ·exact hno j (by omega)
  ·refine iLd2 hB8 ?_
   refine iCall ((ET (hD7.ext x8) hv8 (hc7.ext x8) h IH hb.1 hb.2 (fun t ht=>?_) hr2).mono ?_)
   ·obtain ⟨j,hj,rfl⟩:=List.getElem_of_mem ht
    rw [← gt_eq hj]
    exact hno j (by omega)
   ·rintro u w9 h9
    exact h9.ext (X7.trans x8) (Ext.refl _)
theorem BR {db mb:Nat} {L:List Str} {r:Str} (h:SqT L r) (hd:∀ (w:World) (v:Value),Dec w db mb → TxW 0 w v L → Cal Tryz.prog iH #[dp db,.agg #[v,sv r]] w (DQ KnQ mb w (vB L r))):Pv db mb L r:=by
 intro w v hD hv
 apply EH;unfold nQ
 have hkl:=ZX h.left
 have hrl:=YR h.right
 have hsm:=h.small
 refine iNew2 fun q w1 hq x1 hB=>?_
 refine iFa (iLdB hB rfl ?_)
 refine iFa (iLdB hB rfl ?_)
 refine iBs1 rfl rfl fun b w2 hb x2 hB2=>?_
 refine dD hv.cell rfl ?_
 have X2:=x1.trans x2
 refine iRet (KU (r:=r) (hv.ext X2).sl (Sl.ofBlk (n:=1) hB2 rfl (by decide)) (by omega)) fun w3 x3=>?_
 have X3:=X2.trans x3
 have hD3:=hD.ext X3
 refine iNil ?_
 refine iFa (iLdB hD3.blk rfl ?_)
 refine aDA hD3.map u_kn u_kns aDM ?_ ?_
 ·refine iE20 (iE21 (iCndF rfl ?_))
  refine iLd2 (hB.ext (x2.trans x3)) ?_
  refine iCall ((hd w3 v hD3 (hv.ext X3)).mono ?_)
  rintro u w4 h4
  obtain ⟨rfl,hm4,hc4⟩:=id h4
  have hD4:=hD3.tr hm4 hc4
  refine iNil ?_
  refine iFa (iLdB hD4.blk rfl ?_)
  refine aDP hm4 u_kn u_kns ⟨L,r,rfl,h.left,h.right,rfl⟩ fun w5 hm5 hc5=>?_
  exact ⟨rfl,hm5,(cQ X3 hc4).trans hc5 fun _ e=>.inl e⟩
 ·rintro u ⟨L',r',e,g1,g2,rfl⟩
  obtain ⟨rfl,rfl⟩:=XJ h.left g1 h.right g2 e
  exact iE20 (iE21 (iCndT rfl ⟨rfl,hD3.map,X3.ch⟩))
theorem ok_Pv {db mb:Nat}:∀ (n:Nat) (L:List Str) (r:Str),SqT L r → mT L + wT r < n → Pv db mb L r:=by
 intro n
 induction n with
 | zero=>intro L r _ h;omega
 | succ n ih=>
  intro L r h hn
  exact BR h fun w v hD hv=>BQ hD hv h fun L' r' h' hlt=>ih L' r' h' (by omega)
theorem sO (w:World):Cal Tryz.prog vR #[] w fun v w'=>Ext w w' ∧ ∃ db mb,v = dp db ∧ Dec w' db mb ∧ w.heap.size ≤ mb:=by
 apply LR;unfold vL
 refine aC5 (Q:=KnQ) fun b w1 hb x1 hm=>?_
 refine bB (cs:=#[.map (some b)]) (by simp [Instr.fill,Value.cells]) ?_
 refine iNew fun q w2 hq x2 hB=>?_
 exact ⟨x1.trans x2,q,b,rfl,⟨by simpa [Value.cells] using hB,hm.ext x2⟩,by omega⟩
theorem xU {v:Value} {L:List Str} {r:Str} {w:World} (hv:TxW 0 w v L) (h:SqT (setT L) r) (hl:L.length ≤ 549755813888):Ret Tryz.prog AB #[v,sv r] w (.bool (vB (setT L) r)):=by
 apply O0;unfold A0
 refine iCall ((sO w).mono ?_)
 rintro d w1 ⟨x1,db,mb,rfl,hD,hmb⟩
 refine iCall (Cal.mono (R:=DQ KnQ mb w1 (vB (setT L) r)) ?_ ?_)
 ·show Cal Tryz.prog gI #[dp db,v,sv r] w1 _
  apply l8;unfold gJ
  refine iCall ((mJ (A:=L) (B:=[]) (hv.ext x1).sl (Sl.nil w1) hv.cell rfl (by simp only [List.length_nil];omega)).mono ?_)
  rintro u w2 ⟨x2,ho⟩
  rw [List.append_nil] at ho
  refine dD ho.cell rfl ?_
  refine iCall ((ok_Pv _ _ _ h (Nat.lt_succ_self _) w2 u (hD.ext x2) (ho.mono (Nat.zero_le _))).mono ?_)
  rintro u w3 h3
  exact h3.ext x2 (Ext.refl _)
 ·rintro u w2 ⟨rfl,_,hc⟩
  exact ⟨rfl,x1.thenCh hc fun c e=>by omega⟩
end Go.Proofs.YteifjhpddhppcaaGreatDoor

namespace Go.Vc
def msF (G:List Fm):Nat:=(G.map Fm.w2).sum
theorem F3 (a:Fm) (G:List Fm):msF (a :: G) = a.w2 + msF G:=by simp [msF]
theorem RZ (A B:List Fm):msF (A ++ B) = msF A + msF B:=by simp [msF]
theorem rJ (a:Fm):msF [a] = a.w2:=by simp [msF]
theorem SS (a b:Fm):msF [a,b] = a.w2 + b.w2:=by simp [msF]
theorem aDG (G:List Fm):2 * G.length ≤ msF G:=by
 induction G with
 | nil=>simp
 | cons a G ih=>rw [F3,List.length_cons];have:=a.w2_ge;omega
theorem YQ {a:Fm}:∀ {G:List Fm},a ∈ G → a.w2 ≤ msF G
 | [],h=>by simp at h
 | b :: G,h=>by
  rw [F3]
  rcases List.mem_cons.1 h with rfl | h
  ·omega
  ·have:=YQ h;omega
def restF (fs:List Fm) (i:Nat):List Fm:=fs.take i ++ fs.drop (i + 1)
theorem MT {fs:List Fm} {i:Nat} (hi:i < fs.length):fs = fs.take i ++ fs[i] :: fs.drop (i + 1):=by
 have:=List.take_append_drop i fs
 rw [List.drop_eq_getElem_cons hi] at this
 exact this.symm
theorem WD {fs:List Fm} {i:Nat} (hi:i < fs.length):msF (restF fs i) + fs[i].w2 = msF fs:=by
 have h:=congrArg msF (MT hi)
 rw [RZ,F3] at h
 rw [restF,RZ];omega
theorem f8 {fs:List Fm} {i:Nat} (hi:i < fs.length) (u:Fm):u ∈ fs ↔ u = fs[i] ∨ u ∈ restF fs i:=by
 have h:=MT hi
 rw [restF,List.mem_append]
 constructor
 ·intro hu
  rw [h,List.mem_append,List.mem_cons] at hu
  rcases hu with hu | hu | hu
  ·exact .inr (.inl hu)
  ·exact .inl hu
  ·exact .inr (.inr hu)
 ·rintro (rfl | hu | hu)
  ·exact List.getElem_mem _
  ·exact List.mem_of_mem_take hu
  ·exact List.mem_of_mem_drop hu
def withF (fs more:List Fm):List Fm:=more.foldl (fun acc x=>if x ∈ acc then acc else acc ++ [x]) fs
theorem tT {u:Fm}:∀ {more fs:List Fm},u ∈ withF fs more ↔ u ∈ more ∨ u ∈ fs
 | [],fs=>by simp [withF]
 | x :: more,fs=>by
  rw [show withF fs (x :: more) = withF (if x ∈ fs then fs else fs ++ [x]) more from rfl,tT,List.mem_cons]
  split
  ·rename_i h
   constructor
   ·rintro (h1 | h1)
    ·exact .inl (.inr h1)
    ·exact .inr h1
   ·rintro ((rfl | h1) | h1)
    ·exact .inr h
    ·exact .inl h1
    ·exact .inr h1
  ·rw [List.mem_append,List.mem_singleton]
   constructor
   ·rintro (h1 | h1 | h1)
    ·exact .inl (.inr h1)
    ·exact .inr h1
    ·exact .inl (.inl h1)
   ·rintro ((h1 | h1) | h1)
    ·exact .inr (.inr h1)
    ·exact .inl h1
    ·exact .inr (.inl h1)
theorem NR:∀ (more fs:List Fm),msF (withF fs more) ≤ msF fs + msF more
 | [],fs=>by simp [withF]
 | x :: more,fs=>by
  rw [show withF fs (x :: more) = withF (if x ∈ fs then fs else fs ++ [x]) more from rfl,F3]
  have:=NR more (if x ∈ fs then fs else fs ++ [x])
  split at this
  ·rename_i h;rw [if_pos h];omega
  ·rename_i h;rw [if_neg h];rw [RZ,rJ] at this;omega
theorem Z7 (fs l:List Fm) (x:Fm):withF fs (l ++ [x]) = if x ∈ withF fs l then withF fs l else withF fs l ++ [x]:=by unfold withF;rw [List.foldl_append];rfl
structure SqF (G:List Fm) (c:Fm):Prop where
 left:∀ a ∈ G,a.plain = true
 right:c.plain = true
 small:msF G + c.w2 ≤ 1099511627776
theorem SqF.wt_left {G:List Fm} {c a:Fm} (h:SqF G c) (ha:a ∈ G):a.wt ≤ 40:=by
 have:=YQ ha
 have:=h.small
 exact FX (n:=40) (by omega)
theorem SqF.wt_right {G:List Fm} {c:Fm} (h:SqF G c):c.wt ≤ 40:=by
 have:=h.small
 exact FX (n:=40) (by omega)
theorem SqF.sz_left {G:List Fm} {c a:Fm} (h:SqF G c) (ha:a ∈ G):a.size ≤ 40:=by
 have:=h.wt_left ha
 have:=Fm.wt_size (h.left a ha)
 omega
theorem SqF.sz_right {G:List Fm} {c:Fm} (h:SqF G c):c.size ≤ 40:=by
 have:=h.wt_right
 have:=Fm.wt_size h.right
 omega
abbrev LtF (G:List Fm) (c:Fm) (G':List Fm) (c':Fm):Prop:=SqF G c ∧ msF G + c.w2 < msF G' + c'.w2
theorem SqF.inst {fs:List Fm} {c c':Fm} {i:Nat} (h:SqF fs c) (hi:i < fs.length) {ts:List Fm} (hg:∀ u ∈ ts,u.plain = true) (hr:c'.plain = true) (hm:msF ts + c'.w2 < fs[i].w2 + c.w2):LtF (withF (restF fs i) ts) c' fs c:=by
 have h1:=NR ts (restF fs i)
 have h2:=WD hi
 have h3:=h.small
 refine ⟨⟨fun u hu=>?_,hr,by omega⟩,by omega⟩
 rcases tT.1 hu with hu | hu
 ·exact hg u hu
 ·exact h.left u ((f8 hi u).2 (.inr hu))
theorem SqF.rest {fs:List Fm} {c:Fm} {i:Nat} (h:SqF fs c) (hi:i < fs.length):LtF (restF fs i) c fs c:=by
 have h2:=WD hi
 have h3:=h.small
 have:=fs[i].w2_ge
 exact ⟨⟨fun u hu=>h.left u ((f8 hi u).2 (.inr hu)),h.right,by omega⟩,by omega⟩
theorem all1 {a:Fm} (h:a.plain = true):∀ u ∈ [a],u.plain = true:=fun u hu=>by rw [List.mem_singleton.1 hu];exact h
theorem all2 {a b:Fm} (h:a.plain = true) (k:b.plain = true):∀ u ∈ [a,b],u.plain = true:=fun u hu=>by
 simp only [List.mem_cons,List.not_mem_nil,or_false] at hu
 rcases hu with rfl | rfl
 ·exact h
 ·exact k
theorem k7 {a b:Fm} (h:(Fm.imp a b).plain = true):a.plain = true ∧ b.plain = true:=by simpa [Fm.plain] using h
theorem PK {a b:Fm} (h:(Fm.and a b).plain = true):a.plain = true ∧ b.plain = true:=by simpa [Fm.plain] using h
theorem pl_or {a b:Fm} (h:(Fm.or a b).plain = true):a.plain = true ∧ b.plain = true:=by simpa [Fm.plain] using h
theorem KG {a b:Fm} (h:a.plain = true) (k:b.plain = true):(Fm.imp a b).plain = true:=by simp [Fm.plain,h,k]
theorem lG {G:List Fm} {a u:Fm}:u ∈ withF G [a] ↔ u = a ∨ u ∈ G:=by rw [tT,List.mem_singleton]
theorem JF {G:List Fm} {a b u:Fm}:u ∈ withF G [a,b] ↔ u = a ∨ u = b ∨ u ∈ G:=by rw [tT];simp only [List.mem_cons,List.not_mem_nil,or_false,or_assoc]
def cY (rest:List Fm) (a:Fm):Bool:=
 match a with
 | .or x y=>decide (x ∈ rest) || decide (y ∈ rest)
 | .imp x y=>decide (x = .fls) || decide (y ∈ rest)
 | _=>false
section
variable {fs:List Fm} {c:Fm} {i:Nat} (h:SqF fs c) (hi:i < fs.length)
 include h hi
theorem aBV (hu:cY (restF fs i) fs[i] = true):LtF (restF fs i) c fs c ∧ (Vld (restF fs i) c ↔ Vld fs c):=by
 refine ⟨h.rest hi,?_⟩
 have hS:=f8 hi
 unfold cY at hu
 split at hu
 ·rename_i x y e
  rw [e] at hS
  rw [Bool.or_eq_true,decide_eq_true_eq,decide_eq_true_eq] at hu
  exact V9 hS hu
 ·rename_i x y e
  rw [e] at hS
  rw [Bool.or_eq_true,decide_eq_true_eq,decide_eq_true_eq] at hu
  rcases hu with rfl | hu
  ·exact F9 hS
  ·exact U0 hS hu
 ·cases hu
theorem aEY {a b:Fm} (e:fs[i] = .and a b):LtF (withF (restF fs i) [a,b]) c fs c ∧ (Vld (withF (restF fs i) [a,b]) c ↔ Vld fs c):=by
 have hp:=h.left _ (List.getElem_mem hi)
 have hS:=f8 hi
 rw [e] at hp hS
 refine ⟨h.inst hi (all2 (PK hp).1 (PK hp).2) h.right ?_,r_and hS fun u=>JF⟩
 rw [SS,e];have:=QL a b;omega
theorem f_or2 {a b:Fm} (e:fs[i] = .or a b):LtF (withF (restF fs i) [a]) c fs c ∧ LtF (withF (restF fs i) [b]) c fs c ∧ (Vld fs c ↔ Vld (withF (restF fs i) [a]) c ∧ Vld (withF (restF fs i) [b]) c):=by
 have hp:=h.left _ (List.getElem_mem hi)
 have hS:=f8 hi
 rw [e] at hp hS
 have:=lt_or a b
 have:=a.w2_ge
 have:=b.w2_ge
 refine ⟨h.inst hi (all1 (pl_or hp).1) h.right ?_,h.inst hi (all1 (pl_or hp).2) h.right ?_,r_or hS (fun u=>lG) (fun u=>lG)⟩
 ·rw [rJ,e];omega
 ·rw [rJ,e];omega
theorem Z9 {x y b:Fm} (e:fs[i] = .imp (.and x y) b):LtF (withF (restF fs i) [.imp x (.imp y b)]) c fs c ∧ (Vld (withF (restF fs i) [.imp x (.imp y b)]) c ↔ Vld fs c):=by
 have hp:=h.left _ (List.getElem_mem hi)
 have hS:=f8 hi
 rw [e] at hp hS
 have hp1:=PK (k7 hp).1
 refine ⟨h.inst hi (all1 (KG hp1.1 (KG hp1.2 (k7 hp).2))) h.right ?_,T4 hS fun u=>lG⟩
 rw [rJ,e];have:=P3 x y b;omega
theorem aB6 {x y b:Fm} (e:fs[i] = .imp (.or x y) b):LtF (withF (restF fs i) [.imp x b,.imp y b]) c fs c ∧ (Vld (withF (restF fs i) [.imp x b,.imp y b]) c ↔ Vld fs c):=by
 have hp:=h.left _ (List.getElem_mem hi)
 have hS:=f8 hi
 rw [e] at hp hS
 have hp1:=pl_or (k7 hp).1
 refine ⟨h.inst hi (all2 (KG hp1.1 (k7 hp).2) (KG hp1.2 (k7 hp).2)) h.right ?_,VS hS fun u=>JF⟩
 rw [SS,e];have:=TO x y b;omega
theorem aBU {x b:Fm} (e:fs[i] = .imp x b) (hx:x ∈ restF fs i):LtF (withF (restF fs i) [b]) c fs c ∧ (Vld (withF (restF fs i) [b]) c ↔ Vld fs c):=by
 have hp:=h.left _ (List.getElem_mem hi)
 have hS:=f8 hi
 rw [e] at hp hS
 refine ⟨h.inst hi (all1 (k7 hp).2) h.right ?_,WE hS (fun u=>lG) hx⟩
 rw [rJ,e];have:=yM x b;omega
theorem YW {x y z:Fm} (e:fs[i] = .imp (.imp x y) z):LtF (withF (restF fs i) [.imp y z,x]) y fs c ∧ LtF (withF (restF fs i) [z]) c fs c ∧ (Vld (withF (restF fs i) [.imp y z,x]) y ↔ Vld fs (.imp x y)) ∧ (Vld fs (.imp x y) → (Vld (withF (restF fs i) [z]) c ↔ Vld fs c)):=by
 have hp:=h.left _ (List.getElem_mem hi)
 have hS:=f8 hi
 rw [e] at hp hS
 have hp1:=k7 (k7 hp).1
 refine ⟨h.inst hi (all2 (KG hp1.2 (k7 hp).2) hp1.1) hp1.2 ?_,h.inst hi (all1 (k7 hp).2) h.right ?_,aC1 hS fun u=>JF,fun k=>OY hS (fun u=>lG) k⟩
 ·rw [SS,e];have:=ZH x y z;have:=yM x y;omega
 ·rw [rJ,e];have:=yM (.imp x y) z;omega
end
section
variable {fs:List Fm} {c:Fm} (h:SqF fs c)
 include h
theorem YL {a b:Fm} (e:c = .and a b):LtF fs a fs c ∧ LtF fs b fs c ∧ (Vld fs c ↔ Vld fs a ∧ Vld fs b):=by
 subst e
 have:=QL a b
 have:=a.w2_ge
 have:=b.w2_ge
 have:=h.small
 have hp:=PK h.right
 exact ⟨⟨⟨h.left,hp.1,by omega⟩,by omega⟩,⟨⟨h.left,hp.2,by omega⟩,by omega⟩,Vld.and⟩
theorem aAA {a b:Fm} (e:c = .or a b):LtF fs a fs c ∧ LtF fs b fs c ∧ (Vld fs a ∨ Vld fs b → Vld fs c):=by
 subst e
 have:=lt_or a b
 have:=a.w2_ge
 have:=b.w2_ge
 have:=h.small
 have hp:=pl_or h.right
 exact ⟨⟨⟨h.left,hp.1,by omega⟩,by omega⟩,⟨⟨h.left,hp.2,by omega⟩,by omega⟩,fun k M w hw=>k.imp (fun k=>k M w hw) (fun k=>k M w hw)⟩
theorem XN {a b:Fm} (e:c = .imp a b):LtF (withF fs [a]) b fs c ∧ (Vld fs c ↔ Vld (withF fs [a]) b):=by
 subst e
 have:=yM a b
 have h1:=NR [a] fs
 rw [rJ] at h1
 have:=h.small
 have hp:=k7 h.right
 refine ⟨⟨⟨fun u hu=>?_,hp.2,by omega⟩,by omega⟩,Vld.imp fun u=>lG⟩
 rcases lG.1 hu with rfl | hu
 ·exact hp.1
 ·exact h.left u hu
def Inert (fs:List Fm) (a:Fm):Prop:=(∃ p,a = .var p) ∨ ∃ x y,a = .imp x y ∧ ((∃ p,x = .var p ∧ Fm.var p ∉ fs) ∨ ∃ x1 x2,x = .imp x1 x2)
theorem aEP (hc:¬ c ∈ fs) (hin:∀ i (hi:i < fs.length),Inert fs fs[i]) (hr2:∀ a b,c ≠ .and a b ∧ c ≠ .imp a b) (hor:∀ a b,c = .or a b → ¬ Vld fs a ∧ ¬ Vld fs b)
  (hn:∀ i (hi:i < fs.length) x y z,fs[i] = .imp (.imp x y) z → ¬ (Vld (withF (restF fs i) [.imp y z,x]) y ∧ Vld (withF (restF fs i) [z]) c)):¬ Vld fs c:=by
 by_cases hA:∃ i,∃ hi:i < fs.length,∃ x y z,fs[i] = .imp (.imp x y) z ∧ Vld fs (.imp x y)
 ·obtain ⟨i,hi,x,y,z,e,hp⟩:=hA
  obtain ⟨-,-,k1,k2⟩:=YW h hi e
  exact fun hv=>hn i hi x y z e ⟨k1.2 hp,(k2 hp).2 hv⟩
 ·refine stuck (fun a ha=>?_) ?_
  ·obtain ⟨i,hi,rfl⟩:=List.getElem_of_mem ha
   rcases hin i hi with hv | ⟨x,y,e,hx⟩
   ·exact .inl hv
   ·refine .inr ⟨x,y,e,hx.imp id ?_⟩
    rintro ⟨x1,x2,rfl⟩ hv
    exact hA ⟨i,hi,x1,x2,y,e,hv⟩
  ·have hp:=h.right
   cases c with
   | var p=>exact .inl ⟨p,rfl,hc⟩
   | fls=>exact .inr (.inl rfl)
   | and a b=>exact absurd rfl (hr2 a b).1
   | imp a b=>exact absurd rfl (hr2 a b).2
   | box a=>cases hp
   | dia a=>cases hp
   | or a b=>exact .inr (.inr ⟨a,b,rfl,hor a b rfl⟩)
end
theorem aC2 {fs:List Fm} {c:Fm} {i:Nat} (h:SqF fs c) (hi:i < fs.length) (hf:Fm.fls ∉ fs) (hu:cY (restF fs i) fs[i] = false) (h1:∀ a b,fs[i] ≠ .and a b) (h2:∀ a b,fs[i] ≠ .or a b)
  (h3:∀ x y,fs[i] = .imp x y → (∀ a b,x ≠ .and a b) ∧ (∀ a b,x ≠ .or a b) ∧ x ∉ restF fs i):Inert fs fs[i]:=by
 have hp:=h.left _ (List.getElem_mem hi)
 cases e:fs[i] with
 | var p=>exact .inl ⟨p,rfl⟩
 | fls=>exact absurd (e ▸ List.getElem_mem hi) hf
 | and a b=>exact absurd e (h1 a b)
 | or a b=>exact absurd e (h2 a b)
 | box a=>rw [e] at hp;cases hp
 | dia a=>rw [e] at hp;cases hp
 | imp x y=>
  obtain ⟨k1,k2,k3⟩:=h3 x y e
  refine .inr ⟨x,y,rfl,?_⟩
  cases x with
  | var p=>
   refine .inl ⟨p,rfl,fun hm=>?_⟩
   rcases (f8 hi _).1 hm with h | h
   ·rw [e] at h;cases h
   ·exact k3 h
  | fls=>rw [e] at hu;simp [cY] at hu
  | and a b=>exact absurd rfl (k1 a b)
  | or a b=>exact absurd rfl (k2 a b)
  | imp a b=>exact .inr ⟨a,b,rfl⟩
  | box a=>rw [e] at hp;cases hp
  | dia a=>rw [e] at hp;cases hp
open Classical in
noncomputable def vF (G:List Fm) (c:Fm):Bool:=decide (Vld G c)
theorem d6 {G:List Fm} {c:Fm}:vF G c = true ↔ Vld G c:=by unfold vF;exact @decide_eq_true_iff _ (Classical.propDecidable _)
theorem NC {G:List Fm} {c:Fm}:vF G c = false ↔ ¬ Vld G c:=by unfold vF;exact @decide_eq_false_iff_not _ (Classical.propDecidable _)
theorem vF_eq {G G':List Fm} {c c':Fm} (h:Vld G c ↔ Vld G' c'):vF G c = vF G' c':=Bool.eq_iff_iff.2 (d6.trans (h.trans d6.symm))
theorem aB8 {G A B:List Fm} {c a b:Fm} (h:Vld G c ↔ Vld A a ∧ Vld B b):vF G c = (vF A a && vF B b):=Bool.eq_iff_iff.2 (d6.trans (h.trans (by rw [Bool.and_eq_true,d6,d6])))
end Go.Vc

namespace Go.Vc
theorem SlK.cellOk' {k:Nat} {w:World} {v:Value} {n:Nat} {xs:List Value} (h:SlK k w v n xs):aC v = true:=by
 obtain ⟨_,a,c,rfl,_⟩:=h
 rfl
section
variable {P:Program} {w:World}
theorem iBs00 {e:TypeId} {z:Value} {K:Value → World → Prop} (h:∀ b w',b = w.heap.size → w'.heap.size = b + 1 → Ext w w' → Blk e w' b [] → K (.slice (some ⟨b,0,none⟩) 0 0) w'):xBs e (Value.cells z) 1 0 [] w K:=
 ⟨_,rfl,h _ _ rfl (by simp) (Ext.alloc w _) (by simpa [show Array.range 0 = #[] from rfl] using Blk.new w (Array.range 0 |>.map fun _=>z) e)⟩
theorem iAppF {t ty e:TypeId} {z x:Value} {bytes b:Nat} {ys:List Value} {K:Value → World → Prop} (ht:P.underlying t = some (.slice e)) (hi:(P.info? e).map (fun i=>(i.zero,i.size,i.bytes)) = some (some z,1,bytes)) (hz:aC z = true)
  (hB:Blk e w b []) (hs:Sl w x ys) (hb:ys.length * bytes ≤ 140737488355328) (hm:ys.length ≤ 9223372036854775807)
  (h:∀ v' w',Ext w w' → Ow b e w' v' ys → K v' w'):xOp P (Builtin.append_ #[t,t] ty #[.slice (some ⟨b,0,none⟩) 0 0,x]) w K:=by
 obtain ⟨i,hi,h3⟩:=Option.map_eq_some_iff.1 hi
 simp only [Prod.mk.injEq] at h3
 obtain ⟨hz0,hsz,hby⟩:=h3
 obtain ⟨a,c,rfl,hlc,hcm,hcells⟩:=hs
 have hlt:=hB.lt
 by_cases hy:ys = []
 ·subst hy
  refine ⟨.slice (some ⟨b,0,none⟩) 0 0,w,?_,h _ _ (Ext.refl _) (Ow.ofBlk (n:=0) hB (Nat.le_refl _) rfl (by decide))⟩
  cases a with
  | none=>simp [Builtin.append_,run_underlying ht,sizeOf,typeInfo,hi,Builtin.lenOf,Builtin.firstCells,storeCells]
  | some ad=>simp [Builtin.append_,run_underlying ht,sizeOf,typeInfo,hi,Builtin.lenOf,Builtin.firstCells,storeCells,loadCells,loadCellsFrom]
 ·have hlen:0 < ys.length:=List.length_pos_iff.2 hy
  rcases hcells with rfl | ⟨bb,o,rfl,hc⟩
  ·exact absurd rfl hy
  have hnews:∀ j u,ys[j]? = some u → w.cell? ((⟨bb,o,none⟩:Addr).add j) = some u:=fun j u hu=>by
   have hj:j < ys.length:=(List.getElem?_eq_some_iff.1 hu).1
   rw [bE,hc j hj,hu]
  have hr:=run_append_grow (P:=P) w t ty e i z ht hi hz0 ⟨b,0,none⟩ 0 0 [] (by simp) (by simp) ⟨bb,o,none⟩ ys.length c ys (by rw [hsz,Nat.mul_one]) hnews (by omega) (by omega) (by rw [hby];exact growslice_fits (by omega) (by simpa using hb))
  have hge:=grownCap_ge w (0 + ys.length) 0 e
  have hgm:=grownCap_le_maxLen w (0 + ys.length) 0 e (by simpa [maxLen] using hm)
  refine ⟨_,_,hr,h _ _ (Z6 ⟨rfl,rfl,rfl,by simp,fun k hk _=>heap_alloc_old w.drew _ hk⟩) ?_⟩
  rw [Nat.zero_add] at hge hgm ⊢
  refine ⟨(Nat.mul_one _).symm,.inr ⟨w.heap.size,_,_,rfl,Nat.le_of_lt hlt,heap_alloc_new w.drew _,hge,hgm,?_,?_⟩⟩
  ·simp only [Array.size_append,List.size_toArray,List.length_nil,size_zeroCells,aX hz]
   simp
   omega
  ·simp
end
end Go.Vc
namespace Go.Proofs.YteifjhpddhppcaaGreatDoor
open Go.Vc
theorem FmsS.mk' {w:World} {vs:List Value} {fs:List Fm} (hl:vs.length = fs.length) (h:∀ (i:Nat) (a:Fm),fs[i]? = some a → ∃ v,vs[i]? = some v ∧ FmS w v a):FmsS w vs fs:=
 ⟨hl,fun i hi=>by
  obtain ⟨v,h1,h2⟩:=h i fs[i] (List.getElem?_eq_getElem hi)
  exact ⟨v,h1,by simpa [List.getD_eq_getElem?_getD,hi] using h2⟩⟩
theorem FmsS.at {w:World} {vs:List Value} {fs:List Fm} (h:FmsS w vs fs) {i:Nat} {a:Fm} (hi:fs[i]? = some a):∃ v,vs[i]? = some v ∧ FmS w v a:=by
 obtain ⟨hlt,rfl⟩:=List.getElem?_eq_some_iff.1 hi
 obtain ⟨v,h1,h2⟩:=h.2 i hlt
 exact ⟨v,h1,by simpa [List.getD_eq_getElem?_getD,hlt] using h2⟩
theorem FmsS.app {w:World} {vs us:List Value} {fs gs:List Fm} (h:FmsS w vs fs) (k:FmsS w us gs):FmsS w (vs ++ us) (fs ++ gs):=
 FmsS.mk' (by rw [List.length_append,List.length_append,h.1,k.1]) fun i a hi=>by
  rcases Nat.lt_or_ge i fs.length with hl | hl
  ·rw [List.getElem?_append_left hl] at hi
   rw [List.getElem?_append_left (by have:=h.1;omega)]
   exact h.at hi
  ·rw [List.getElem?_append_right hl] at hi
   rw [List.getElem?_append_right (by have:=h.1;omega),h.1]
   exact k.at hi
theorem FmsS.take {w:World} {vs:List Value} {fs:List Fm} (h:FmsS w vs fs) (n:Nat):FmsS w (vs.take n) (fs.take n):=
 FmsS.mk' (by rw [List.length_take,List.length_take,h.1]) fun i a hi=>by
  rw [List.getElem?_take] at hi ⊢
  split at hi
  ·rw [if_pos ‹_›];exact h.at hi
  ·cases hi
theorem FmsS.drop {w:World} {vs:List Value} {fs:List Fm} (h:FmsS w vs fs) (n:Nat):FmsS w (vs.drop n) (fs.drop n):=
 FmsS.mk' (by rw [List.length_drop,List.length_drop,h.1]) fun i a hi=>by
  rw [List.getElem?_drop] at hi ⊢
  exact h.at hi
theorem FmsS.cells {w:World} {vs:List Value} {fs:List Fm} (h:FmsS w vs fs):∀ u ∈ vs,aC u = true:=fun u hu=>by
 obtain ⟨i,hi,rfl⟩:=List.getElem_of_mem hu
 obtain ⟨v,h1,h2⟩:=h.2 i (by have:=h.1;omega)
 rw [List.getElem?_eq_getElem hi] at h1
 cases h1
 exact h2.cellOk'
theorem FmsS.nil (w:World):FmsS w [] []:=⟨rfl,fun i hi=>by simp at hi⟩
theorem FmsS.one {w:World} {v:Value} {a:Fm} (h:FmS w v a):FmsS w [v] [a]:=FmsS.mk' rfl fun i b hi=>by
 rcases i with _ | i
 ·simp only [List.getElem?_cons_zero,Option.some.injEq] at hi
  subst hi
  exact ⟨v,rfl,h⟩
 ·simp at hi
theorem FmsS.two {w:World} {v u:Value} {a b:Fm} (h:FmS w v a) (k:FmS w u b):FmsS w [v,u] [a,b]:=(FmsS.one h).app (FmsS.one k)
def FsR (w:World) (v:Value) (fs:List Fm):Prop:=∃ vs,Sl w v vs ∧ FmsS w vs fs
theorem FsR.ext {w w':World} {v:Value} {fs:List Fm} (h:FsR w v fs) (x:Ext w w'):FsR w' v fs:=by
 obtain ⟨vs,h1,h2⟩:=h
 exact ⟨vs,h1.ext x,h2.ext x⟩
theorem FsR.blk1 {w:World} {e:TypeId} {b:Nat} {v:Value} {a:Fm} (hB:Blk e w b [v]) (h:FmS w v a):FsR w (.slice (some ⟨b,0,none⟩) 1 1) [a]:=⟨_,Sl.ofBlk (n:=1) hB rfl (by decide),FmsS.one h⟩
theorem FsR.blk2 {w:World} {e:TypeId} {b:Nat} {v u:Value} {a c:Fm} (hB:Blk e w b [v,u]) (h:FmS w v a) (k:FmS w u c):FsR w (.slice (some ⟨b,0,none⟩) 2 2) [a,c]:=⟨_,Sl.ofBlk (n:=2) hB rfl (by decide),FmsS.two h k⟩
theorem iLenF {w:World} {v:Value} {fs:List Fm} {K:Value → Prop} (hs:FsR w v fs) (h:K (.int .i64 (fs.length:Nat))):xLenS v K:=by
 obtain ⟨vs,h1,h2⟩:=hs
 exact iLenS h1 (by rw [h2.1];exact h)
theorem FsR.len {w:World} {v:Value} {fs:List Fm} (hs:FsR w v fs):fs.length ≤ 9223372036854775807:=by
 obtain ⟨vs,h1,h2⟩:=hs
 rw [← h2.1];exact h1.len
theorem iFsAt {w0 w:World} {v:Value} {fs:List Fm} {z:Int} {j:Nat} {k:IntKind} {K:Value → Prop} (hs:FsR w0 v fs) (x:Ext w0 w) (hz:z = (j:Int)) (hj:j < fs.length) (h:∀ u,FmS w0 u fs[j] → K u):xIa 1 v (.int k z) fun p=>xLd w p K:=by
 obtain ⟨vs,h1,h2⟩:=hs
 obtain ⟨u,e1,e2⟩:=h2.at (List.getElem?_eq_getElem hj)
 subst hz
 refine iIa (j:=(j:Int)) (h1.ext x) (by omega) (by have:=h2.1;omega) fun p hp=>?_
 exact iLd (hp.trans (by rw [Int.toNat_natCast];exact e1)) (h u e2)
theorem d7 {v va:Value} {fs:List Fm} {f:Fm} {w:World} (hs:FsR w v fs) (ha:FmS w va f) (hn:∀ x ∈ fs,x.size ≤ 1000000):Ret Tryz.prog uB #[v,va] w (.bool (decide (f ∈ fs))):=by
 apply UJ;unfold GW
 have hln:=hs.len
 refine iLp (fun i:Nat=>[.int .i64 (i:Int)]) (fun i w'=>i ≤ fs.length ∧ Ext w w' ∧ ∀ j,j < i → fs[j]? ≠ some f) (fun i=>fs.length - i) 0 rfl ⟨Nat.zero_le _,Ext.refl _,fun j hj=>by omega⟩ ?_
 rintro i w2 Kn ⟨hi,h2,hno⟩ hKn
 intro _
 simp only [gx]
 refine iLenF (hs.ext h2) ?_
 refine iLt ?_
 refine iCndP (fun h=>?_) (fun h=>?_)
 ·have hil:i < fs.length:=by omega
  refine iFsAt hs h2 rfl hil fun u hu=>?_
  have:=hn _ (List.getElem_mem hil)
  refine iRet (xC (hu.ext h2) (ha.ext h2) (by omega)) fun w3 h3=>?_
  refine iCndP (fun h4=>?_) (fun h4=>?_)
  ·rw [decide_eq_true (show f ∈ fs by rw [← h4];exact List.getElem_mem _)]
   exact ⟨by first | trivial | rfl,h2.trans h3⟩
  ·refine iAdd (by omega) ?_
   refine hKn (i + 1) _ ⟨hil,h2.trans h3,fun j hj=>?_⟩ (by omega)
   by_cases hji:j = i
   ·subst hji
    rw [List.getElem?_eq_getElem hil]
    exact fun e=>h4 (Option.some.inj e)
   ·exact hno j (by omega)
 ·rw [decide_eq_false (show ¬ f ∈ fs from fun hm=>by
   obtain ⟨j,hj,e⟩:=List.getElem_of_mem hm
   exact hno j (by omega) (by rw [List.getElem?_eq_getElem hj,e]))]
  exact ⟨by first | trivial | rfl,h2⟩
theorem AA {v vm:Value} {fs more:List Fm} {w:World} (hs:FsR w v fs) (hm:FsR w vm more) (hn:∀ x ∈ fs,x.size ≤ 1000000) (hn2:∀ x ∈ more,x.size ≤ 1000000) (hl:fs.length + more.length ≤ 1099511627776):
  Cal Tryz.prog lO #[v,vm] w fun r w'=>Ext w w' ∧ FsR w' r (withF fs more):=by
 apply TH;unfold EN
 refine iBs00 fun b w1 hb hb1 x1 hB=>?_
 obtain ⟨vs,hsl,hf⟩:=hs
 have hvl:=hf.1
 refine iAppF m9 nC rfl hB (hsl.ext x1) (by omega) (by omega) fun v1 w2 x2 ho=>?_
 have X2:=x1.trans x2
 refine iLp (fun s:Value × Nat=>[s.1,.int .i64 (s.2:Int)]) (fun s w'=>s.2 ≤ more.length ∧ Ext w w' ∧ ∃ us,Ow b eO w' s.1 us ∧ FmsS w us (withF fs (more.take s.2)) ∧ us.length ≤ fs.length + s.2) (fun s=>more.length - s.2) (v1,0) rfl ⟨Nat.zero_le _,X2,vs,ho,hf,by show vs.length ≤ fs.length + 0;omega⟩ ?_
 rintro ⟨u,k⟩ w3 Kn ⟨hk,X3,us,ho,hfu,hul⟩ hKn
 have hk:k ≤ more.length:=hk
 have ho:Ow b eO w3 u us:=ho
 have hfu:FmsS w us (withF fs (more.take k)):=hfu
 have hul:us.length ≤ fs.length + k:=hul
 intro _
 simp only [gx]
 refine iLenF (hm.ext X3) ?_
 refine iLt ?_
 refine iCndP (fun h=>?_) (fun h=>?_)
 ·have hkl:k < more.length:=by omega
  have hw:withF fs (more.take (k + 1)) = if more[k] ∈ withF fs (more.take k) then withF fs (more.take k) else withF fs (more.take k) ++ [more[k]]:=by
   rw [List.take_succ_eq_append_getElem hkl,Z7]
  refine iFsAt hm X3 rfl hkl fun a ha=>?_
  refine iRet (d7 ⟨us,ho.sl,hfu.ext X3⟩ (ha.ext X3) (fun x hx=>?_)) fun w4 x4=>?_
  ·rcases tT.1 hx with hx | hx
   ·exact hn2 x (List.mem_of_mem_take hx)
   ·exact hn x hx
  have X4:=X3.trans x4
  have ho4:=ho.ext x4
  refine iNot ?_
  by_cases hin:more[k] ∈ withF fs (more.take k)
  ·rw [if_pos hin] at hw
   refine iCndF (by simp [hin]) ?_
   refine iAdd (by omega) ?_
   exact hKn (u,k + 1) _ ⟨hkl,X4,us,ho4,by show FmsS _ _ (withF fs (more.take (k + 1)));rw [hw];exact hfu,by show us.length ≤ fs.length + (k + 1);omega⟩ (by show more.length - (k + 1) < more.length - k;omega)
  ·rw [if_neg hin] at hw
   refine iCndT (by simp [hin]) ?_
   refine iFsAt hm X4 rfl hkl fun a' ha'=>?_
   refine iApp1 m9 nC rfl ho4 ha'.cellOk' (by omega) (by omega) (by have:=X4.size;omega) fun u' w5 ho5 hg5=>?_
   have hX5:Ext w w5:=X4.grown hg5 fun c hc=>by have:=(ho4.blk c hc).1;omega
   refine iAdd (by omega) ?_
   refine hKn (u',k + 1) _ ⟨hkl,hX5,us ++ [a'],ho5,?_,by show (us ++ [a']).length ≤ fs.length + (k + 1);rw [List.length_append,List.length_singleton];omega⟩ (by show more.length - (k + 1) < more.length - k;omega)
   show FmsS _ _ (withF fs (more.take (k + 1)))
   rw [hw]
   exact hfu.app (FmsS.one ha')
 ·have:k = more.length:=by omega
  subst this
  rw [List.take_length] at hfu
  exact ⟨X3,us,ho.sl,hfu.ext X3⟩
end Go.Proofs.YteifjhpddhppcaaGreatDoor
