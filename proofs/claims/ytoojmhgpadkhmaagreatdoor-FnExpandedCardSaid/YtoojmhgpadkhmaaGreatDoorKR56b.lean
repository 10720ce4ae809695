/- The proof of FnExpandedCard, part 2 of 7. Conditions: none. -/
import Derived.Test.YtoojmhgpadkhmaaGreatDoorKR56a
import Derived.Laws.Concat
import Derived.Laws.Strings
import Derived.Laws.RangeString
import Derived.Laws.RangeAny
import Derived.Lib.OthersKept
import Derived.Laws.StructEq
import Derived.Test.YtoojmhgpadkhmaaGreatDoorRows
import Derived.Shelf.Strings.Search2
import Derived.Shelf.Strconv.Itoa3
import Derived.Lib.Builder
import Derived.Lib.AppendStr
import Derived.Lib.UnsafeStr
import Derived.Lib.IndexLaws
import Derived.WalkKit
import Derived.Laws.Externs
namespace Go.Proofs.YtoojmhgpadkhmaaGreatDoor
open Go.Shelf
open Go.RowKit (Below)
open Go.Proofs.Tryz(prog)
variable{w a:World}{v i U:Value}{x n C:Nat}{y J:List Value}{z:Value->Prop}{u H:TypeId}{t:Value->World->Prop}{m:List Nat}{g:Nat->Prop}{h:Array Value}{o:Int}{q:UInt8}{K:Bool}{G:List Int}{S:List Value->World->Prop}{X:(List Value->World->Prop)->Prop}
set_option maxRecDepth 100000
section
variable(a b c d:Value)(w:World)(R:RT)
def tC:=lA a λc=>lp (λd e f=>NV->lB .i64 (gx e 0) c λc=>eA c (wA 2 a (gx e 0) λa=>HA f 2 a λa=>TB prog b [a] f λa b=>eA a (R (gx e 0) b) (oA .i64 (gx e 0) (iv 1) λa=>d [a] b)) (R (iv (-1)) f)) [(iv 0)] w
def DU:=BB .i64 a (iv 2) λb=>jn (λc=>eA b (c [tt] w) (BB .i64 a (iv 3) λb=>jn (λd=>eA b (d [tt] w) (BB .i64 a (iv 4) λb=>d [b] w)) (λb d=>NV->c [(gx b 0)] d))) (λb c=>NV->eA (gx b 0) (R (iv 2) c) (BB .i64 a (iv 5) λb=>jn (λd=>eA b (d [tt] c) (BB .i64 a (iv 6) λa=>d [a] c)) (λa b=>NV->eA (gx a 0) (R (iv 1) b) (R (iv 0) b))))
def BU:=PA (Value.cells a) 211 w λa b=>jn (λc=>FA 0 a λd=>kA b d λd=>cq 53 [d,(iv 0),(iv 8)] b λd=>VA d λd=>eA d (∀d,bA b d->c [tt] d) (FA 1 a λd=>kA b d λd=>cq 166 [d] b λd=>FA 0 a λe=>kA b e λe=>zI .i64 d e λd=>eA d (∀d,bA b d->c [tt] d) (FA 1 a λd=>kA b d λd=>cq 583 [d] b λd=>VA d λd=> ∀e,bA b e->c [d] e))) (λb c=>NV->eA (gx b 0) (R ff c) (HA c 2 a λa=>cf 584 [a] c λa b=>PA (Value.cells (.agg #[(iv 0),sn])) 128 b λb c=>sD prog c 2 b a λa=>jn (λc=>HA a 2 b λd=>cf 585 [d,(iv 0)] a λa d=>eA a (HA d 2 b λa=>cf 585 [a,(iv 2)] d λa e=>eA a (HA e 2 b λa=>cf 585 [a,(iv 8)] e λa b=>c [a] b) (c [ff] e)) (c [ff] d)) (λa b=>NV->R (gx a 0) b)))
def XR:=cf 129 [a,(.func (.func 586) #[] #[])] w λa b=>VA a λa=>R a b
def R6:=lp (λc d e=>NV->lB .i64 (gx d 1) b λb=>eA b (iY .i64 (gx d 0) a λa=>lB .i64 (iv 4096) a λb=>eA b (R ff e) (oA .i64 (gx d 1) (iv 1) λb=>c [a,b] e)) (R tt e)) [(iv 1),(iv 0)] w
def KL:=PA (Value.cells a) 211 w λa b=>HA b 2 a λc=>cf 587 [c] b λb c=>oA .i64 b (iv 1) λb=>lp (λd e f=>NV->lB .i64 (gx e 1) b λb=>eA b (HA f 2 a λa=>cf 588 [a,(gx e 1)] f λa b=>eA a (xB 2 (Value.cells (iv 0)) 1 1 [(0,(gx e 1))] b λa g=>nD prog (Builtin.append_ #[42,42] 42 #[(gx e 0),a]) g λa g=>oA .i64 (gx e 1) (iv 1) λh=>d [a,h] g) (oA .i64 (gx e 1) (iv 1) λa=>d [(gx e 0),a] b)) (R (gx e 0) f)) [sn,(iv 0)] c
def EU:=PA (Value.cells (.agg #[(iv 0),sn])) 211 w λb c=>cf 166 [a] c λc d=>zB #[(iv 0),sn] #[(0,1),(1,1)] [(0,c),(1,a)] λa=>sD prog d 2 b a λa=>HA a 2 b λb=>R b a
def dC:=lA a λc=>lp (λd e f=>NV->lB .i64 (gx e 0) c λc=>eA c (wA 2 a (gx e 0) λa=>HA f 2 a λa=>TB prog b [a] f λa b=>eA a (R (gx e 0) b) (oA .i64 (gx e 0) (iv 1) λa=>d [a] b)) (R (iv (-1)) f)) [(iv 0)] w
def qY:=lA a λb=>lp (λc d e=>NV->lB .i64 (gx d 0) b λb=>eA b (wA 1 a (gx d 0) λb=>kA e b λb=>jn (λf=>cf 52 [b] e λg h=>VA g λg=>eA g (f [tt] h) (lB .i64 (iv 0) (gx d 0) λg=>eA g (KB .i64 (gx d 0) (iv 1) λg=>wA 1 a g λa=>kA h a λa=>xA .geq a b λa=>f [a] h) (f [ff] h))) (λa b=>NV->eA (gx a 0) (R ff b) (oA .i64 (gx d 0) (iv 1) λa=>c [a] b))) (R tt e)) [(iv 0)] w
def WM:=lA a λb=>lp (λc d e=>NV->lB .i64 (gx d 1) b λb=>eA b (wA 1 a (gx d 1) λa=>kA e a λa=>lA a λb=>lp (λf g h=>NV->lB .i64 (gx g 1) b λb=>eA b (cf 392 [a,(gx g 1)] h λa b=>cf 74 [a] b λa b=>xB 9 (Value.cells es) 1 1 [(0,a)] b λa b=>nD prog (Builtin.append_ #[31,31] 31 #[(gx g 0),a]) b λa b=>oA .i64 (gx g 1) (iv 1) λi=>f [a,i] b) (oA .i64 (gx d 1) (iv 1) λa=>c [(gx g 0),a] h)) [(gx d 0),(iv 0)] e) (cf 138 [(gx d 0)] e λ_ a=>cf 139 [(gx d 0)] a λa b=>R a b)) [sn,(iv 0)] w
def fG:=PA (Value.cells a) 123 w λa b=>FA 0 a λc=>kA b c λc=>FA 1 a λa=>kA b a λa=>xB 31 (Value.cells sn) 1 2 [(0,c),(1,a)] b λa b=>cf 137 [a] b λa b=>R a b
def uC:=lA a λc=>lp (λd e f=>NV->lB .i64 (gx e 0) c λc=>eA c (wA 2 a (gx e 0) λa=>HA f 2 a λa=>TB prog b [a] f λa b=>eA a (R (gx e 0) b) (oA .i64 (gx e 0) (iv 1) λa=>d [a] b)) (R (iv (-1)) f)) [(iv 0)] w
def MI:=PA (Value.cells a) 306 w λa c=>FA 1 a λa=>kA c a λa=>kA c b λb=>cf 453 [a,b] c λa b=>R a b
def U6:=cf 592 [a,b] w λa b=>R a b
def RM:=jn (λb=>xA .eql a (.string ⟨#[84]⟩) λc=>eA c (b [tt] w) (xA .eql a (.string ⟨#[83,52]⟩) λc=>eA c (b [tt] w) (xA .eql a (.string ⟨#[83,53]⟩) λa=>b [a] w))) (λa b=>NV->R (gx a 0) b)
def UC:=cf 593 [a,b] w λa b=>hH .i64 (iv 0) a λa=>R a b
def sH:=PA (Value.cells a) 308 w λa c=>jn (λd=>HA c 3 a λe=>kA c b λf=>cf 296 [e,f] c λc e=>eA c (HA e 3 a λa=>kA e b λb=>cf 457 [a,b] e λa b=>VA a λa=>d [a] b) (d [ff] e)) (λa b=>NV->R (gx a 0) b)
def aO:=PA (Value.cells a) 308 w λa c=>FA 2 a λd=>kA c d λd=>wA 1 d b λb=>kA c b λb=>FA 1 a λa=>kA c a λa=>BB .i64 a (iv 5) λa=>TE true b a λa=> ∀b,bA c b->R a b
def OJ:=PA (Value.cells a) 217 w λa c=>PA (Value.cells b) 2 c λb c=>jn (λd=>kA c a λe=>IA e λe=>FA 0 e λe=>kA c e λe=>xA .eql e (.string ⟨#[68]⟩) λe=>eA e (kA c a λe=>kA c b λf=>cf 303 [e,f] c λe f=>lB .i64 e (iv 0) λe=>d [e] f) (d [ff] c)) (λc d=>NV->eA (gx c 0) (R ff d) (kA d a λc=>IA c λc=>FA 2 c λc=>kA d c λc=>cf 455 [c,(.func (.func 594) #[] #[b,a])] d λa b=>VA a λa=>R a b))
def wG:=lA a λc=>lp (λd e f=>NV->lB .i64 (gx e 0) c λc=>eA c (wA 1 a (gx e 0) λa=>kA f a λa=>TB prog b [a] f λa b=>eA a (R (gx e 0) b) (oA .i64 (gx e 0) (iv 1) λa=>d [a] b)) (R (iv (-1)) f)) [(iv 0)] w
def WL:=PA (Value.cells a) 308 w λa d=>HA d 3 a λe=>kA d b λb=>cq 296 [e,b] d λb=>HA d 3 a λa=>kA d c λc=>cq 296 [a,c] d λa=>TE false b a λa=> ∀b,bA d b->R a b
def VL:=PA (Value.cells a) 217 w λa d=>PA (Value.cells b) 2 d λb d=>PA (Value.cells c) 2 d λc d=>kA d a λe=>IA e λe=>FA 2 e λe=>kA d e λe=>cf 455 [e,(.func (.func 595) #[] #[b,a,c])] d λa b=>VA a λa=>R a b
def XL:=PA (Value.cells a) 308 w λa d=>jn (λe=>HA d 3 a λf=>kA d b λb=>cf 296 [f,b] d λb d=>eA b (HA d 3 a λa=>kA d c λb=>cf 296 [a,b] d λa b=>VA a λa=>e [a] b) (e [ff] d)) (λa b=>NV->R (gx a 0) b)
def iO:=PA (Value.cells a) 123 w λa b=>FA 0 a λc=>kA b c λc=>lA c λd=>lp (λe f g=>NV->lB .i64 (gx f 1) d λd=>eA d (wA 1 c (gx f 1) λc=>kA g c λc=>xA .add c (.string ⟨#[47]⟩) λc=>xA .add (gx f 0) c λc=>oA .i64 (gx f 1) (iv 1) λd=>e [c,d] g) (xA .add (gx f 0) (.string ⟨#[59]⟩) λc=>FA 1 a λa=>kA g a λa=>lA a λd=>lp (λe f h=>NV->lB .i64 (gx f 1) d λd=>eA d (wA 1 a (gx f 1) λa=>kA h a λa=>xA .add a (.string ⟨#[47]⟩) λa=>xA .add (gx f 0) a λa=>oA .i64 (gx f 1) (iv 1) λd=>e [a,d] h) (R (gx f 0) h)) [c,(iv 0)] g)) [es,(iv 0)] b
def cV:=lA a λb=>lB .i64 (iv 16) b λb=>eA b (R ff w) (lp (λb c d=>NV->lA a λe=>lB .i64 (gx c 0) e λe=>eA e (wA 1 a (gx c 0) λe=>kA d e λe=>cf 46 [e] d λe f=>YA e 0 λ_=>YA e 1 λe=>jn (λg=>VA e λe=>eA e (∀e,bA f e->g [tt] e) (lB .i64 (iv 0) (gx c 0) λe=>eA e (wA 1 a (gx c 0) λe=>kA f e λe=>KB .i64 (gx c 0) (iv 1) λh=>wA 1 a h λa=>kA f a λa=>xA .leq e a λa=> ∀e,bA f e->g [a] e) (∀a,bA f a->g [ff] a))) (λa e=>NV->eA (gx a 0) (R ff e) (oA .i64 (gx c 0) (iv 1) λa=>b [a] e))) (R tt d)) [(iv 0)] w)
def DS:=PA (Value.cells a) 123 w λa b=>xB 9 (Value.cells es) 1 0 [] b λb c=>FA 0 a λd=>kA c d λd=>FA 1 a λa=>kA c a λa=>cf 612 [d,a] c λa c=>lp (λd e f=>NV->lA a λg=>lB .i64 (gx e 1) g λg=>eA g (wA 1 a (gx e 1) λa=>kA f a λa=>cf 46 [a] f λa g=>YA a 0 λh=>YA a 1 λ_=>cf 613 [h] g λa g=>cf 612 [(gx e 0),a] g λa g=>oA .i64 (gx e 1) (iv 1) λh=>d [a,h] g) (R (gx e 0) f)) [b,(iv 0)] c
def EY:=QF .u64 a λa=>qU cK .i64 (iv 1) a λa=>R a w
def pF:=wA 2 c (iv 0) λd=>FA 0 d λd=>kA w d λd=>BB .i64 d (iv 1) λe=>eA e (R ff w) (BB .i64 d (iv 2) λe=>eA e (jn (λe=>cf 222 [c] w λf g=>cf 487 [a,b,f] g λf g=>eA f (cf 223 [c] g λf h=>cf 487 [a,b,f] h λf h=>e [f] h) (e [ff] g)) (λe f=>NV->R (gx e 0) f)) (BB .i64 d (iv 3) λe=>eA e (jn (λe=>cf 222 [c] w λf g=>cf 487 [a,b,f] g λf g=>eA f (e [tt] g) (cf 223 [c] g λf g=>cf 487 [a,b,f] g λf g=>e [f] g)) (λe f=>NV->R (gx e 0) f)) (BB .i64 d (iv 4) λd=>eA d (jn (λd=>cf 222 [c] w λe f=>cf 487 [a,b,e] f λe f=>VA e λe=>eA e (d [tt] f) (cf 223 [c] f λe f=>cf 487 [a,b,e] f λe f=>d [e] f)) (λd e=>NV->R (gx d 0) e)) (cf 48 [c] w λc d=>lp (λe f g=>NV->IA a λh=>FA 1 h λh=>kA g h λh=>lA h λh=>lB .i64 (gx f 0) h λh=>eA h (IA a λa=>FA 1 a λa=>kA g a λa=>wA 1 a (gx f 0) λa=>kA g a λa=>xA .eql a c λa=>eA a (cf 540 [b,(gx f 0)] g λa b=>R a b) (oA .i64 (gx f 0) (iv 1) λa=>e [a] g)) (R ff g)) [(iv 0)] d))))
def iV:=jn (λc=>IA a λd=>FA 0 d λd=>kA w d λd=>xA .neq d (.string ⟨#[84]⟩) λd=>eA d (IA a λd=>FA 0 d λd=>kA w d λd=>xA .neq d (.string ⟨#[83,52]⟩) λd=>eA d (IA a λd=>FA 0 d λd=>kA w d λd=>xA .neq d (.string ⟨#[83,53]⟩) λd=>c [d] w) (c [ff] w)) (c [ff] w)) (λc d=>NV->eA (gx c 0) (R tt d) (lp (λc e f=>NV->IA a λg=>FA 1 g λg=>kA f g λg=>lA g λg=>lB .i64 (gx e 0) g λg=>eA g (jn (λg=>IA a λh=>FA 2 h λh=>kA f h λh=>wA 1 h (gx e 0) λh=>kA f h λh=>BB .i64 h (iv 5) λh=>eA h (cf 540 [b,(gx e 0)] f λh i=>eA h (IA a λh=>FA 4 h λh=>kA i h λh=>wA 1 h b λh=>kA i h λh=>cf 540 [h,(gx e 0)] i λh j=>VA h λh=>g [h] j) (g [ff] i)) (g [ff] f)) (λg h=>NV->eA (gx g 0) (R ff h) (jn (λg=>IA a λi=>FA 2 i λi=>kA h i λi=>wA 1 i (gx e 0) λi=>kA h i λi=>BB .i64 i (iv 6) λi=>eA i (cf 540 [b,(gx e 0)] h λi j=>VA i λi=>eA i (IA a λa=>FA 4 a λa=>kA j a λa=>wA 1 a b λa=>kA j a λa=>cf 540 [a,(gx e 0)] j λa b=>g [a] b) (g [ff] j)) (g [ff] h)) (λa b=>NV->eA (gx a 0) (R ff b) (oA .i64 (gx e 0) (iv 1) λa=>c [a] b))))) (R tt f)) [(iv 0)] d))
def HS:=lp (λd e f=>NV->IA a λg=>FA 1 g λg=>kA f g λg=>lA g λg=>lB .i64 (gx e 0) g λg=>eA g (cf 537 [a,b,(gx e 0)] f λg h=>VA g λg=>eA g (oA .i64 (gx e 0) (iv 1) λg=>d [g] h) (lp (λg i j=>NV->jn (λk=>lA c λl=>lB .i64 (gx i 1) l λl=>eA l (VA (gx i 0) λl=>k [l] j) (k [ff] j)) (λj k=>NV->eA (gx j 0) (wA 1 c (gx i 1) λj=>kA k j λj=>cf 538 [a,b,j,(gx e 0)] k λj l=>oA .i64 (gx i 1) (iv 1) λm=>g [j,m] l) (VA (gx i 0) λg=>eA g (R ff k) (oA .i64 (gx e 0) (iv 1) λe=>d [e] k)))) [ff,(iv 0)] h)) (IA a λd=>FA 0 d λd=>kA f d λd=>xA .neq d (.string ⟨#[68]⟩) λd=>eA d (R tt f) (lp (λd e g=>NV->lA c λh=>lB .i64 (gx e 0) h λh=>eA h (wA 1 c (gx e 0) λc=>kA g c λc=>cf 539 [a,b,c] g λa b=>eA a (R tt b) (oA .i64 (gx e 0) (iv 1) λa=>d [a] b)) (R ff g)) [(iv 0)] f))) [(iv 0)] w
def LU:=xB 2 (Value.cells (iv 0)) 1 0 [] w λb c=>lp (λd e f=>NV->lB .i64 (iv 0) (gx e 0) λg=>eA g (Fi .i64 (gx e 0) (iv 2) λg=>BB .i64 g (iv 1) λg=>jn (λh=>eA g (xB 2 (Value.cells (iv 0)) 1 1 [(0,(gx e 2))] f λg i=>nD prog (Builtin.append_ #[42,42] 42 #[(gx e 1),g]) i λg i=>h [g] i) (h [(gx e 1)] f)) (λg h=>NV->oA .i64 (gx e 2) (iv 1) λi=>O6 .i64 (gx e 0) (iv 2) λj=>d [j,(gx g 0),i] h)) (R (gx e 1) f)) [a,b,(iv 0)] c
def HE:=wA 2 a (iv 0) λc=>FA 0 c λc=>kA w c λc=>BB .i64 c (iv 0) λd=>eA d (wA 2 a (iv 0) λd=>FA 1 d λd=>kA w d λd=>cf 540 [b,d] w λd e=>R d e) (BB .i64 c (iv 1) λd=>eA d (R ff w) (BB .i64 c (iv 2) λd=>eA d (jn (λd=>cf 222 [a] w λe f=>cf 491 [e,b] f λe f=>eA e (cf 223 [a] f λe g=>cf 491 [e,b] g λe g=>d [e] g) (d [ff] f)) (λd e=>NV->R (gx d 0) e)) (BB .i64 c (iv 3) λc=>eA c (jn (λc=>cf 222 [a] w λd e=>cf 491 [d,b] e λd e=>eA d (c [tt] e) (cf 223 [a] e λd e=>cf 491 [d,b] e λd e=>c [d] e)) (λc d=>NV->R (gx c 0) d)) (jn (λc=>cf 222 [a] w λd e=>cf 491 [d,b] e λd e=>VA d λd=>eA d (c [tt] e) (cf 223 [a] e λa d=>cf 491 [a,b] d λa b=>c [a] b)) (λa b=>NV->R (gx a 0) b)))))
def NY:=lp (λc d e=>NV->lA a λf=>lB .i64 (gx d 0) f λf=>eA f (wA 1 a (gx d 0) λa=>kA e a λa=>cf 224 [a,b] e λa b=>eA a (R tt b) (oA .i64 (gx d 0) (iv 1) λa=>c [a] b)) (R ff e)) [(iv 0)] w
def pO:=wA 2 b (iv 0) λc=>FA 0 c λc=>kA w c λc=>BB .i64 c (iv 3) λd=>eA d (jn (λd=>cf 222 [b] w λe f=>cf 499 [a,e] f λe f=>eA e (d [tt] f) (cf 223 [b] f λe f=>cf 499 [a,e] f λe f=>d [e] f)) (λd e=>NV->R (gx d 0) e)) (BB .i64 c (iv 4) λc=>eA c (jn (λc=>cf 222 [b] w λd e=>wA 2 d (iv 0) λd=>FA 0 d λd=>kA e d λd=>BB .i64 d (iv 1) λd=>eA d (c [tt] e) (cf 223 [b] e λb d=>cf 499 [a,b] d λa b=>c [a] b)) (λa b=>NV->R (gx a 0) b)) (R ff w))
def kV:=xB 27 (Value.cells sn) 1 0 [] w λc d=>nD prog (Builtin.append_ #[54,54] 54 #[c,a]) d λa c=>lp (λd e f=>NV->lA b λg=>lB .i64 (gx e 1) g λg=>eA g (wA 1 b (gx e 1) λg=>kA f g λg=>cf 499 [(gx e 0),g] f λg h=>VA g λg=>eA g (wA 1 b (gx e 1) λb=>kA h b λb=>xB 27 (Value.cells sn) 1 1 [(0,b)] h λb g=>nD prog (Builtin.append_ #[54,54] 54 #[(gx e 0),b]) g λb g=>oA .i64 (gx e 1) (iv 1) λi=>d [b,i] g) (oA .i64 (gx e 1) (iv 1) λb=>d [(gx e 0),b] h)) (R (gx e 0) f)) [a,(iv 0)] c
def FY:=xB 2 (Value.cells (iv 0)) 1 0 [] w λb c=>nD prog (Builtin.append_ #[42,42] 42 #[b,a]) c λa b=>R a b
def ZU:=xB 9 (Value.cells es) 1 0 [] w λb c=>nD prog (Builtin.append_ #[31,31] 31 #[b,a]) c λa b=>R a b
def LK:=cf 336 [a] w λa b=>lA a λa=>BB .i64 a (iv 0) λa=>R a b
def YU:=lp (λc d e=>NV->lA a λf=>lB .i64 (gx d 0) f λf=>eA f (wA 1 a (gx d 0) λa=>kA e a λa=>xA .eql a b λa=>eA a (R (gx d 0) e) (oA .i64 (gx d 0) (iv 1) λa=>c [a] e)) (R (iv (-1)) e)) [(iv 0)] w
def NS:=PA (Value.cells (.agg #[(iv 0),sn])) 211 w λb c=>xB 2 (Value.cells (iv 0)) 1 0 [] c λc d=>lp (λe f g=>NV->lB .i64 (gx f 1) a λh=>eA h (cf 534 [a] g λa h=>cf 534 [(gx f 1)] h λh i=>OB zG .i64 a h λa=>xB 2 (Value.cells (iv 0)) 1 1 [(0,a)] i λa h=>nD prog (Builtin.append_ #[42,42] 42 #[(gx f 0),a]) h λa h=>oA .i64 (gx f 1) (iv 1) λi=>e [a,i] h) (cf 639 [(gx f 0)] g λa e=>sD prog e 2 b a λa=>HA a 2 b λb=>R b a)) [c,(iv 0)] d
def KU:=cf 486 [a] w λa b=>KB .i64 a (iv 1) λa=>R a b
def sS:=lp (λc d e=>NV->lA a λf=>lB .i64 (gx d 1) f λf=>eA f (cf 540 [b,(gx d 1)] e λb f=>eA b (wA 1 a (gx d 1) λa=>kA f a λa=>OB g4 .i64 (gx d 0) a λa=>oA .i64 (gx d 1) (iv 1) λb=>c [a,b] f) (oA .i64 (gx d 1) (iv 1) λa=>c [(gx d 0),a] f)) (R (gx d 0) e)) [(iv 0),(iv 0)] w
def KS:=PA (Value.cells a) 211 w λa c=>HA c 2 a λd=>cf 364 [d] c λc d=>cf 336 [b] d λd e=>lA c λf=>lA d λg=>cf 363 [f,g] e λe f=>lp (λg h i=>NV->lB .i64 (gx h 0) e λe=>eA e (cf 640 [c,d,(gx h 0)] i λc d=>HA d 2 a λe=>cf 641 [e,c,b] d λb d=>FA 0 a λa=>kA d a λa=>cf 534 [a] d λa d=>zI .i64 b a λa=>eA a (R (.tuple #[c,b,tt]) d) (oA .i64 (gx h 0) (iv 1) λa=>g [a] d)) (R (.tuple #[sn,(iv 0),ff]) i)) [(iv 0)] f
def dV:=jn (λd=>IA a λe=>FA 2 e λe=>kA w e λe=>wA 1 e c λe=>kA w e λe=>BB .i64 e (iv 5) λe=>eA e (cf 540 [b,c] w λe f=>VA e λe=>eA e (d [tt] f) (IA a λe=>FA 2 e λe=>kA f e λe=>wA 1 e c λe=>kA f e λe=>BB .i64 e (iv 6) λe=>eA e (cf 540 [b,c] f λe g=>d [e] g) (d [ff] f))) (IA a λa=>FA 2 a λa=>kA w a λa=>wA 1 a c λa=>kA w a λa=>BB .i64 a (iv 6) λa=>eA a (cf 540 [b,c] w λa b=>d [a] b) (d [ff] w))) (λa b=>NV->R (gx a 0) b)
def GS:=IA a λe=>FA 2 e λe=>kA w e λe=>wA 1 e d λe=>kA w e λe=>BB .i64 e (iv 5) λe=>jn (λf=>IA a λg=>FA 4 g λg=>kA w g λg=>wA 1 g c λg=>kA w g λg=>cf 540 [g,d] w λg h=>TE true g e λg=>eA g (f [tt] h) (cf 539 [a,b,c] h λb g=>VA b λb=>f [b] g)) (λb f=>NV->eA (gx b 0) (R ff f) (jn (λb=>IA a λa=>FA 0 a λa=>kA f a λa=>xA .neq a (.string ⟨#[71,76]⟩) λa=>eA a (b [tt] f) (cf 540 [c,d] f λa c=>TE true a e λa=>b [a] c)) (λa b=>NV->R (gx a 0) b)))
def gV:=jn (λd=>cf 642 [a,b,c] w λe f=>eA e (IA a λe=>FA 0 e λe=>kA f e λe=>xA .neq e (.string ⟨#[75,66]⟩) λe=>eA e (d [tt] f) (cf 642 [a,c,b] f λa b=>d [a] b)) (d [ff] f)) (λa b=>NV->R (gx a 0) b)
def AY:=QF .u64 b λb=>qU uM .i64 a b λa=>OB bK .i64 a (iv 1) λa=>BB .i64 a (iv 1) λa=>R a w
def xS:=BB .i64 a (iv 2) λb=>jn (λc=>eA b (c [tt] w) (BB .i64 a (iv 3) λb=>jn (λd=>eA b (d [tt] w) (BB .i64 a (iv 4) λb=>d [b] w)) (λb d=>NV->c [(gx b 0)] d))) (λb c=>NV->eA (gx b 0) (R (iv 2) c) (BB .i64 a (iv 5) λb=>jn (λd=>eA b (d [tt] c) (BB .i64 a (iv 6) λa=>d [a] c)) (λa b=>NV->eA (gx a 0) (R (iv 1) b) (R (iv 0) b))))
def JK:=cf 220 [a,(.int .u8 126)] w λb c=>eA b (cf 549 [a] c λb d=>cf 279 [b] d λb d=>R b d) (cf 220 [a,(.int .u8 91)] c λb c=>eA b (cf 648 [a,(.int .u8 93)] c λ_ b=>cf 549 [a] b λb d=>cf 649 [(iv 5),b] d λb d=>R b d) (cf 220 [a,(.int .u8 60)] c λb c=>eA b (cf 648 [a,(.int .u8 62)] c λ_ b=>cf 549 [a] b λb d=>cf 649 [(iv 6),b] d λb d=>R b d) (cf 650 [a] c λa b=>R a b)))
def IP:=lp (λb c d=>NV->rD (.string ⟨#[112,113,114,115,116,117]⟩) λe=>lB .i64 (gx c 0) e λe=>eA e (sm (.string ⟨#[112,113,114,115,116,117]⟩) (gx c 0) λe=>cf 229 [a,e] d λe f=>eA e (cf 49 [(gx c 0)] f λe g=>R e g) (oA .i64 (gx c 0) (iv 1) λc=>b [c] f)) (cf 229 [a,(.int .u8 70)] d λb c=>eA b (cf 117 [] c λb d=>R b d) (cf 229 [a,(.int .u8 84)] c λb c=>eA b (cf 225 [] c λb d=>R b d) (cf 229 [a,(.int .u8 126)] c λb c=>eA b (cf 550 [a] c λb d=>cf 119 [b] d λb d=>R b d) (cf 229 [a,(.int .u8 91)] c λb c=>eA b (cf 651 [a,(.int .u8 93)] c λ_ b=>cf 550 [a] b λb d=>cf 118 [(iv 5),b] d λb d=>R b d) (cf 229 [a,(.int .u8 60)] c λb c=>eA b (cf 651 [a,(.int .u8 62)] c λ_ b=>cf 550 [a] b λb d=>cf 118 [(iv 6),b] d λb d=>R b d) (cf 229 [a,(.int .u8 40)] c λb c=>eA b (cf 131 [a] c λb d=>cf 651 [a,(.int .u8 41)] d λ_ d=>R b d) (IA a λa=>FA 2 a λa=>KC c a tt λa=>cf 117 [] a λa b=>R a b)))))))) [(iv 0)] w
def dF:=lp (λe f g=>NV->iY .i64 (iv 2) (gx f 0) λh=>oA .i64 h (iv 1) λh=>hH .i64 c h λi=>eA i (R (.tuple #[]) g) (jn (λi=>oA .i64 h (iv 1) λj=>lB .i64 j c λc=>eA c (oA .i64 d h λc=>wA 1 a c λc=>kA g c λc=>oA .i64 d h λj=>oA .i64 j (iv 1) λj=>wA 1 a j λj=>kA g j λj=>cq 384 [c,j] g λc=> ∀j,bA g j->i [c] j) (∀c,bA g c->i [ff] c)) (λc g=>NV->jn (λi=>eA (gx c 0) (oA .i64 h (iv 1) λc=>i [c] g) (i [h] g)) (λc g=>NV->oA .i64 d (gx f 0) λh=>wA 1 a h λh=>kA g h λh=>oA .i64 d (gx c 0) λi=>wA 1 a i λi=>kA g i λi=>cq 384 [h,i] g λh=>VA h λh=> ∀i,bA g i->eA h (R (.tuple #[]) i) (oA .i64 d (gx f 0) λg=>oA .i64 d (gx c 0) λh=>oA .i64 d (gx c 0) λj=>wA 1 a j λj=>kA i j λj=>oA .i64 d (gx f 0) λd=>wA 1 a d λd=>kA i d λd=>wA 1 a g λf=> ∀g,bA i g->KC g f j λf=>wA 1 a h λa=> ∀g,bA f g->KC g a d λa=> ∀d,bA a d->e [(gx c 0)] d))))) [b] w
def eI:=QF .u64 a λa=>cf 235 [a] w λa b=>qU cK .u64 (.int .u64 1) a λa=>R a b
end
section
variable{a b c d:Value}{w:World}{R:RT}
theorem AD(h:tC a b w R):nA prog 438 #[a,b] w R:=cD (h:=(nn lf (nn (nn lf (.node (some [8]) lf lf)) lf))) Tryz.func438 h
theorem Ma(h:DU a w R):nA prog 439 #[a] w R:=cD (h:=(nn lf (nn (nn lf (nn (nn lf (.node (some [4]) lf (nn lf (.node (some [4]) lf lf)))) (nn lf (nn (nn lf (.node (some [8]) lf lf)) lf)))) lf))) Tryz.func439 h
theorem Ka(h:BU a w R):nA prog 440 #[a] w R:=cD (h:=(nn lf (nn (nn (.reg [2,7,15] (some [21])) lf) (nn lf (nn (.reg [] (some [2])) lf))))) Tryz.func440 h
theorem K7(h:XR a w R):nA prog 441 #[a] w R:=cD (h:=lf) Tryz.func441 h
theorem Qi(h:R6 a b w R):nA prog 442 #[a,b] w R:=cD (h:=(nn lf (nn lf (nn (nn lf (.node (some [5,7]) lf lf)) lf)))) Tryz.func442 h
theorem oX(h:KL a w R):nA prog 443 #[a] w R:=cD (h:=(nn lf (nn lf (nn (nn lf (.node (some [3,8]) lf lf)) lf)))) Tryz.func443 h
theorem Na(h:EU a w R):nA prog 445 #[a] w R:=cD (h:=lf) Tryz.func445 h
theorem OD(h:dC a b w R):nA prog 446 #[a,b] w R:=cD (h:=(nn lf (nn (nn lf (.node (some [8]) lf lf)) lf))) Tryz.func446 h
theorem Td(h:qY a w R):nA prog 447 #[a] w R:=cD (h:=(nn lf (nn (nn lf (.node (some [7]) (nn lf (nn lf (nn (nn lf (nn (.reg [] (some [27])) lf)) lf))) lf)) lf))) Tryz.func447 h
theorem rZ(h:WM a w R):nA prog 448 #[a] w R:=cD (h:=(nn lf (nn lf (nn (nn lf (.node (some [3,9]) (nn lf (nn lf (nn (nn lf (nn lf (.node (some [3,15]) lf lf))) lf))) lf)) lf)))) Tryz.func448 h
theorem pL(h:fG a w R):nA prog 449 #[a] w R:=cD (h:=lf) Tryz.func449 h
theorem lE(h:uC a b w R):nA prog 451 #[a,b] w R:=cD (h:=(nn lf (nn (nn lf (.node (some [8]) lf lf)) lf))) Tryz.func451 h
theorem rR(h:MI a b w R):nA prog 452 #[a,b] w R:=cD (h:=lf) Tryz.func452 h
theorem Ti(h:U6 a b w R):nA prog 453 #[a,b] w R:=cD (h:=lf) Tryz.func453 h
theorem mZ(h:RM a w R):nA prog 454 #[a] w R:=cD (h:=(nn lf (nn (.reg [] (some [2])) lf))) Tryz.func454 h
theorem WF(h:UC a b w R):nA prog 455 #[a,b] w R:=cD (h:=lf) Tryz.func455 h
theorem XO(h:sH a b w R):nA prog 456 #[a,b] w R:=cD (h:=(nn lf (nn (.reg [] (some [3])) lf))) Tryz.func456 h
theorem y1(h:aO a b w R):nA prog 457 #[a,b] w R:=cD (h:=lf) Tryz.func457 h
theorem XT(h:OJ a b w R):nA prog 458 #[a,b] w R:=cD (h:=(nn lf (nn (nn (.reg [] (some [15])) lf) lf))) Tryz.func458 h
theorem nM(h:wG a b w R):nA prog 459 #[a,b] w R:=cD (h:=(nn lf (nn (nn lf (.node (some [8]) lf lf)) lf))) Tryz.func459 h
theorem BX(h:WL a b c w R):nA prog 460 #[a,b,c] w R:=cD (h:=(nn lf (nn (.reg [2,5] none) lf))) Tryz.func460 h
theorem AX(h:VL a b c w R):nA prog 461 #[a,b,c] w R:=cD (h:=lf) Tryz.func461 h
theorem CX(h:XL a b c w R):nA prog 462 #[a,b,c] w R:=cD (h:=(nn lf (nn (.reg [] (some [4])) lf))) Tryz.func462 h
theorem F1(h:iO a w R):nA prog 463 #[a] w R:=cD (h:=(nn lf (nn lf (nn (nn lf (.node (some [3,11]) lf lf)) (nn lf (nn (nn lf (.node (some [3,25]) lf lf)) lf)))))) Tryz.func463 h
theorem Bb(h:cV a w R):nA prog 484 #[a] w R:=cD (h:=(nn lf (nn lf (nn (nn lf (.node (some [3]) (nn lf (nn (nn lf (nn (.reg [] (some [40])) lf)) lf)) lf)) lf)))) Tryz.func484 h
theorem y8(h:DS a w R):nA prog 485 #[a] w R:=cD (h:=(nn lf (nn lf (nn (nn lf (.node (some [3,5]) lf lf)) lf)))) Tryz.func485 h
theorem qe(h:EY a w R):nA prog 486 #[a] w R:=cD (h:=lf) Tryz.func486 h
theorem LG(h:pF a b c w R):nA prog 487 #[a,b,c] w R:=cD (h:=(nn lf (nn (nn lf (nn lf (nn lf (nn lf (nn (nn (.reg [] (some [6])) lf) (nn lf (nn (nn (.reg [] (some [6])) lf) (nn lf (nn (nn (.reg [] (some [6])) lf) lf))))))))) (nn lf (nn (nn lf (.node (some [8]) lf lf)) lf))))) Tryz.func487 h
theorem Gb(h:iV a b w R):nA prog 488 #[a,b] w R:=cD (h:=(nn lf (nn (nn (.reg [] (some [24])) lf) (nn (nn lf (.node (some [5]) (nn lf (nn (nn (nn (.reg [] (some [58])) lf) (nn (.reg [] (some [83])) lf)) lf)) lf)) lf)))) Tryz.func488 h
theorem C8(h:HS a b c w R):nA prog 489 #[a,b,c] w R:=cD (h:=(nn lf (nn (nn lf (.node (some [7]) (nn lf (nn (nn lf (nn lf (nn (nn lf (.node (some [8,9]) (nn (nn (.reg [] (some [32])) lf) lf) lf)) lf))) lf)) lf)) (nn lf (nn (nn lf (.node (some [10]) lf lf)) lf))))) Tryz.func489 h
theorem Va(h:LU a w R):nA prog 490 #[a] w R:=cD (h:=(nn lf (nn lf (nn (nn lf (.node (some [0,3,4]) (nn lf (nn (nn (nn lf (.node (some [3]) lf lf)) lf) lf)) lf)) lf)))) Tryz.func490 h
theorem lG(h:HE a b w R):nA prog 491 #[a,b] w R:=cD (h:=(nn lf (nn (nn lf (nn lf (nn lf (nn lf (nn lf (nn lf (nn (nn (.reg [] (some [4])) lf) (nn lf (nn (nn (.reg [] (some [4])) lf) lf))))))))) (nn (.reg [] (some [4])) lf)))) Tryz.func491 h
theorem ze(h:NY a b w R):nA prog 499 #[a,b] w R:=cD (h:=(nn lf (nn (nn lf (.node (some [5]) lf lf)) lf))) Tryz.func499 h
theorem O1(h:pO a b w R):nA prog 500 #[a,b] w R:=cD (h:=(nn lf (nn (nn lf (nn lf (nn (nn (.reg [] (some [4])) lf) (nn lf (nn (nn (.reg [] (some [4])) lf) lf))))) lf))) Tryz.func500 h
theorem Ib(h:kV a b w R):nA prog 501 #[a,b] w R:=cD (h:=(nn lf (nn lf (nn (nn lf (.node (some [5,6]) lf lf)) lf)))) Tryz.func501 h
theorem re(h:FY a w R):nA prog 510 #[a] w R:=cD (h:=lf) Tryz.func510 h
theorem yb(h:ZU a w R):nA prog 514 #[a] w R:=cD (h:=lf) Tryz.func514 h
theorem KV(h:LK a w R):nA prog 530 #[a] w R:=cD (h:=lf) Tryz.func530 h
theorem xb(h:YU a b w R):nA prog 531 #[a,b] w R:=cD (h:=(nn lf (nn (nn lf (.node (some [5]) lf lf)) lf))) Tryz.func531 h
theorem H8(h:NS a w R):nA prog 532 #[a] w R:=cD (h:=(nn lf (nn lf (nn (nn lf (.node (some [3,4]) lf lf)) lf)))) Tryz.func532 h
theorem Ua(h:KU a w R):nA prog 534 #[a] w R:=cD (h:=lf) Tryz.func534 h
theorem a8(h:sS a b w R):nA prog 535 #[a,b] w R:=cD (h:=(nn lf (nn lf (nn (nn lf (.node (some [5,6]) lf lf)) lf)))) Tryz.func535 h
theorem E8(h:KS a b w R):nA prog 536 #[a,b] w R:=cD (h:=(nn lf (nn lf (nn lf (nn (nn lf (.node (some [10]) lf lf)) lf))))) Tryz.func536 h
theorem Cb(h:dV a b c w R):nA prog 537 #[a,b,c] w R:=cD (h:=(nn lf (nn (.reg [] (some [6])) lf))) Tryz.func537 h
theorem B8(h:GS a b c d w R):nA prog 538 #[a,b,c,d] w R:=cD (h:=(nn lf (nn lf (nn (nn (.reg [] (some [35])) lf) (nn (.reg [] (some [8])) lf))))) Tryz.func538 h
theorem Fb(h:gV a b c w R):nA prog 539 #[a,b,c] w R:=cD (h:=(nn lf (nn (.reg [] (some [6])) lf))) Tryz.func539 h
theorem ke(h:AY a b w R):nA prog 540 #[a,b] w R:=cD (h:=lf) Tryz.func540 h
theorem j8(h:xS a w R):nA prog 543 #[a] w R:=cD (h:=(nn lf (nn (nn lf (nn (nn lf (.node (some [4]) lf (nn lf (.node (some [4]) lf lf)))) (nn lf (nn (nn lf (.node (some [8]) lf lf)) lf)))) lf))) Tryz.func543 h
theorem FV(h:JK a w R):nA prog 549 #[a] w R:=cD (h:=lf) Tryz.func549 h
theorem T4(h:IP a w R):nA prog 550 #[a] w R:=cD (h:=(nn lf (nn lf (nn (nn lf (.node (some [4]) lf lf)) lf)))) Tryz.func550 h
theorem wJ(h:dF a b c d w R):nA prog 551 #[a,b,c,d] w R:=cD (h:=(nn lf (.node (some [8]) (nn lf (nn lf (nn (nn (.reg [18] (some [36])) (.node (some [9]) lf lf)) (nn (nn (.reg [12] none) lf) lf)))) lf))) Tryz.func551 h
theorem aQ(h:eI a w R):nA prog 552 #[a] w R:=cD (h:=lf) Tryz.func552 h
end
set_option maxRecDepth 100000
section
variable(a b c d e:Value)(w:World)(R:RT)
def NI:=IA a λb=>kA w b λb=>IA a λc=>kA w c λc=>qU cK .u64 c (.int .u64 13) λc=>OB Vq .u64 b c λb=>IA a λc=> ∀d,bA w d->KC d c b λb=> ∀c,bA b c->IA a λb=>kA c b λb=>IA a λd=>kA c d λd=>qU uM .u64 d (.int .u64 7) λd=>OB Vq .u64 b d λb=>IA a λd=> ∀e,bA c e->KC e d b λb=> ∀c,bA b c->IA a λb=>kA c b λb=>IA a λd=>kA c d λd=>qU cK .u64 d (.int .u64 17) λd=>OB Vq .u64 b d λb=>IA a λd=> ∀e,bA c e->KC e d b λb=> ∀c,bA b c->IA a λa=>kA c a λa=>R a c
def PD:=KB .i64 b (iv 1) λd=>oA .i64 b (iv 1) λe=>cf 555 [a,d,b,e,c] w λa b=>R a b
def HF:=cf 652 [a,b,c,e] w λb c=>YA b 0 λf=>YA b 1 λb=>cf 652 [a,b,d,e] c λb c=>YA b 0 λd=>YA b 1 λ_=>cf 652 [a,f,d,e] c λa b=>YA a 0 λ_=>YA a 1 λa=>R a b
def EM:=xA .neq a a λa=>R a w
def CJ:=PA (Value.cells b) 203 w λb c=>jn (λd=>FA 0 b λe=>kA c e λe=>FA 1 b λf=>kA c f λf=>cf 44 [e,f] c λc e=>eA c (d [tt] e) (FA 0 b λc=>kA e c λc=>cf 44 [c,(.string ⟨#[70]⟩)] e λc e=>d [c] e)) (λc d=>NV->eA (gx c 0) (R tt d) (FA 1 b λc=>kA d c λc=>cf 128 [c] d λc d=>cf 569 [c] d λd e=>wA 2 c (iv 0) λf=>FA 0 f λf=>kA e f λf=>BB .i64 f (iv 2) λg=>eA g (HA e 2 b λg=>wA 1 d (iv 0) λh=>kA e h λh=>HA e 2 b λi=>wA 1 d (iv 1) λj=>kA e j λj=> ∀k,bA e k->cf 424 [g,h] k λg h=>bA k h/\ ∀k,bA h k->cf 424 [i,j] k λh i=> ∀j,bA i j->xB 203 (Value.cells (.agg #[sn,es])) 2 2 [(0,g),(1,h)] j λg h=> ∀i,bA h i->cf 656 [a,g] i λg h=> ∀i,bA h i->R g i) (BB .i64 f (iv 4) λf=>eA f (HA e 2 b λf=>wA 1 d (iv 0) λg=>kA e g λg=>wA 1 d (iv 1) λd=>kA e d λd=> ∀h,bA e h->xB 9 (Value.cells es) 1 1 [(0,g)] h λg i=>bA h i/\ ∀h,bA i h->cf 425 [f,g] h λf g=>bA h g/\ ∀h,bA g h->cf 424 [f,d] h λd f=> ∀g,bA f g->cf 414 [a,d] g λd f=> ∀g,bA f g->R d g) (FA 0 b λd=>kA e d λd=>lA d λf=>lp (λg h i=>NV->lB .i64 (gx h 0) f λf=>eA f (wA 1 d (gx h 0) λd=>kA i d λd=>HA i 2 b λf=> ∀j,bA i j->cf 128 [d] j λk l=>bA j l/\ ∀j,bA l j->cf 657 [f,d,k] j λd f=>YA d 0 λj=>YA d 1 λd=> ∀k,bA f k->eA d (cf 656 [a,j] k λd f=>R d f) (oA .i64 (gx h 0) (iv 1) λd=>g [d] k)) (HA i 2 b λb=>cf 658 [a,b,c] i λa b=>R a b)) [(iv 0)] e))))
def AP:=cf 316 [a] w λa b=>lA a λc=>lp (λd e f=>NV->lB .i64 (gx e 1) c λc=>eA c (wA 1 a (gx e 1) λa=>kA f a λa=>cf 74 [a] f λa c=>xB 9 (Value.cells es) 1 1 [(0,a)] c λa c=>nD prog (Builtin.append_ #[31,31] 31 #[(gx e 0),a]) c λa c=>oA .i64 (gx e 1) (iv 1) λg=>d [a,g] c) (R (gx e 0) f)) [sn,(iv 0)] b
def XN:=PA (Value.cells a) 42 w λa b=>kA b a λc=>cf 297 [c,(.func (.func 666) #[] #[a])] b λa b=>VA a λa=>R a b
def IM:=PA (Value.cells a) 211 w λa b=>PA (Value.cells (.agg #[(iv 0),sn])) 128 b λb c=>FA 1 a λa=>kA c a λa=>cf 304 [a] c λa c=>sD prog c 2 b a λa=>HA a 2 b λb=>R b a
def DK:=PA (Value.cells a) 128 w λa c=>FA 1 a λd=>kA c d λd=>cf 668 [d] c λc d=>PA (Value.cells sn) 42 d λd e=>KC e d c λc=>BB .i64 b (iv 0) λe=>eA e (HA c 2 a λe=>cf 669 [e,(.func (.func 670) #[] #[a])] c λe f=>R e f) (BB .i64 b (iv 1) λe=>eA e (HA c 2 a λe=>cf 669 [e,(.func (.func 672) #[] #[a])] c λe f=>R e f) (BB .i64 b (iv 2) λe=>eA e (FA 1 a λe=>kA c e λe=>FA 1 a λf=>kA c f λf=> ∀g,bA c g->cf 674 [e] g λe h=>bA g h/\cq 673 [e,f] h λe=> ∀f,bA h f->R e f) (BB .i64 b (iv 3) λe=>eA e (kA c d λe=>FA 1 a λf=>kA c f λf=>cf 673 [e,f] c λe f=>R e f) (BB .i64 b (iv 4) λe=>eA e (HA c 2 a λe=>cf 675 [e,(.func (.func 676) #[] #[a])] c λe f=>R e f) (BB .i64 b (iv 5) λe=>eA e (HA c 2 a λe=>cf 675 [e,(.func (.func 677) #[] #[a])] c λe f=>R e f) (BB .i64 b (iv 6) λe=>eA e (HA c 2 a λe=>cf 675 [e,(.func (.func 678) #[] #[a])] c λe f=>R e f) (BB .i64 b (iv 7) λe=>eA e (FA 1 a λe=>kA c e λe=>cf 674 [e] c λe f=>PA (Value.cells sn) 42 f λf g=>KC g f e λe=>HA e 2 a λg=>cf 669 [g,(.func (.func 679) #[] #[f])] e λe f=>R e f) (BB .i64 b (iv 8) λe=>eA e (HA c 2 a λe=>cf 669 [e,(.func (.func 680) #[] #[a,d])] c λe f=>R e f) (BB .i64 b (iv 9) λb=>eA b (HA c 2 a λb=>cf 675 [b,(.func (.func 682) #[] #[a,d])] c λb d=>R b d) (HA c 2 a λb=>cf 669 [b,(.func (.func 683) #[] #[a])] c λa b=>R a b))))))))))
def SN:=cf 162 [a] w λa b=>VA a λa=>R a b
def rP:=PA (Value.cells a) 211 w λa b=>FA 0 a λa=>kA b a λa=>qU cK .i64 (iv 1) a λa=>KB .i64 a (iv 1) λa=>R a b
def EK:=PA (Value.cells a) 211 w λa c=>jn (λd=>FA 0 a λe=>kA c e λe=>cf 667 [e,b] c λc e=>eA c (FA 1 a λa=>kA e a λa=>cf 685 [a,b] e λa c=>BB .i64 a b λa=>d [a] c) (d [ff] e)) (λa b=>NV->R (gx a 0) b)
def WH:=PA (Value.cells a) 211 w λa c=>PA (Value.cells b) 42 c λb c=>HA c 2 a λa=>cf 443 [a] c λa c=>PA (Value.cells sn) 42 c λc d=>KC d c a λa=>R (.func (.func 686) #[] #[b,c]) a
def JL:=PA (Value.cells a) 211 w λa d=>PA (Value.cells sn) 42 d λd e=>lA c λf=>KB .i64 f (iv 1) λf=>lp (λg h i=>NV->hH .i64 (iv 0) (gx h 0) λj=>eA j (wA 2 c (gx h 0) λj=>FA 0 j λj=>kA i j λj=>BB .i64 j (iv 0) λk=>jn (λl=>eA k (wA 2 c (gx h 0) λc=>FA 1 c λc=>kA i c λc=>wA 1 b c λb=>kA i b λb=>l [b] i) (BB .i64 j (iv 2) λb=>jn (λc=>eA b (TB prog (.func (.func 688) #[] #[d]) [] i λb k=>TB prog (.func (.func 688) #[] #[d]) [] k λk m=>OB bK .i64 b k λb=>c [b] m) (BB .i64 j (iv 3) λb=>jn (λk=>eA b (TB prog (.func (.func 688) #[] #[d]) [] i λb m=>TB prog (.func (.func 688) #[] #[d]) [] m λm n=>OB g4 .i64 b m λb=>k [b] n) (BB .i64 j (iv 4) λb=>jn (λj=>eA b (TB prog (.func (.func 688) #[] #[d]) [] i λb m=> ∃n:Nat->Prop,HA m 2 a λo=>(∀p,Ch n m p->HA p 2 a λa=>a=o)/\ ∀a,bA m a->TB prog (.func (.func 688) #[] #[d]) [] a λm p=>Ch n a p/\XF prog (Ch n) (.func (.func 689) #[] #[]) [o,b,m] p λa=> ∀b,bA p b->j [a] b) (j [(iv 0)] i)) (λa b=>NV->k [(gx a 0)] b))) (λa b=>NV->c [(gx a 0)] b))) (λa b=>NV->l [(gx a 0)] b))) (λa b=>NV->kA b d λc=>xB 2 (Value.cells (iv 0)) 1 1 [(0,(gx a 0))] b λa b=>nD prog (Builtin.append_ #[42,42] 42 #[c,a]) b λa b=>KC b d a λa=>KB .i64 (gx h 0) (iv 1) λb=>g [b] a)) (kA i d λa=>wA 1 a (iv 0) λa=>kA i a λa=>R a i)) [f] e
def iE:=lA a λc=>lA b λd=>zI .i64 c d λc=>eA c (R ff w) (lA a λc=>lp (λd e f=>NV->lB .i64 (gx e 0) c λc=>eA c (wA 2 a (gx e 0) λa=>HA f 2 a λa=>wA 2 b (gx e 0) λb=>HA f 2 b λb=>xR prog f (do eqGuard .neq 59 (.tmp 19) (.tmp 23) a b;binOp .neq 59 a b) λa=> ∀b,bA f b->eA a (R ff b) (oA .i64 (gx e 0) (iv 1) λa=>d [a] b)) (R tt f)) [(iv 0)] w)
def zD:=lA a λc=>lp (λd e f=>NV->lB .i64 (gx e 0) c λc=>eA c (wA 3 a (gx e 0) λa=>HA f 3 a λa=>TB prog b [a] f λa b=>eA a (R (gx e 0) b) (oA .i64 (gx e 0) (iv 1) λa=>d [a] b)) (R (iv (-1)) f)) [(iv 0)] w
def bI:=PA (Value.cells a) 308 w λa d=>jn (λe=>HA d 3 a λf=>kA d b λg=>cf 296 [f,g] d λd f=>VA d λd=>eA d (kA f c λc=>HA f 3 a λa=>kA f b λb=>cf 300 [c,a,b] f λa b=>lB .i64 a (iv 0) λa=>e [a] b) (e [ff] f)) (λa b=>NV->R (gx a 0) b)
def MJ:=PA (Value.cells a) 308 w λa e=>HA e 3 a λf=>kA e b λb=>cf 296 [f,b] e λb e=>VA b λb=>eA b (R ff e) (kA e c λb=>IA b λb=>FA 0 b λb=>kA e b λb=>xA .eql b (.string ⟨#[75,52]⟩) λc=>jn (λf=>eA c (f [tt] e) (xA .eql b (.string ⟨#[71,76]⟩) λc=>f [c] e)) (λc e=>NV->eA (gx c 0) (jn (λc=>HA e 3 a λf=>kA e d λg=>cf 457 [f,g] e λf g=>VA f λf=>eA f (c [tt] g) (HA g 3 a λf=>kA g d λh=>cf 296 [f,h] g λf g=>VA f λf=>c [f] g)) (λc f=>NV->R (gx c 0) f)) (xA .eql b (.string ⟨#[83,52]⟩) λb=>eA b (HA e 3 a λb=>kA e d λc=>cf 296 [b,c] e λb c=>VA b λb=>R b c) (HA e 3 a λa=>kA e d λb=>cf 457 [a,b] e λa b=>VA a λa=>R a b))))
def ES:=cf 514 [a] w λa c=>lp (λd e f=>NV->lA b λg=>lB .i64 (gx e 1) g λg=>eA g (wA 1 b (gx e 1) λb=>kA f b λb=>cf 68 [(gx e 0),b] f λb g=>oA .i64 (gx e 1) (iv 1) λh=>d [b,h] g) (R (gx e 0) f)) [a,(iv 0)] c
def JY:=xB 9 (Value.cells es) 1 0 [] w λb c=>lp (λd e f=>NV->lA a λg=>lB .i64 (gx e 1) g λg=>eA g (cf 373 [a,(gx e 1)] f λg h=>qP 2 a (some (gx e 1)) (some g) λa=>cf 48 [a] h λa g=>cf 68 [(gx e 0),a] g λa g=>oA .i64 (gx e 1) (iv 1) λh=>d [a,h] g) (R (gx e 0) f)) [b,(iv 0)] c
def jV:=PA (Value.cells (.agg #[(iv 0),sn])) 211 w λb c=>lA a λd=>cf 510 [a] c λa c=>zB #[(iv 0),sn] #[(0,1),(1,1)] [(0,d),(1,a)] λa=>sD prog c 2 b a λa=>HA a 2 b λb=>R b a
def KP:=tu 2 (Value.cells (iv 0)) 1 8 (iv 6) (iv 6) w λd e=>lA b λf=>KB .i64 f (iv 1) λf=>lp (λg h i=>NV->hH .i64 (iv 0) (gx h 1) λj=>eA j (wA 1 b (gx h 1) λb=>kA i b λb=>lA a λj=>Fi .i64 (gx h 0) j λj=>wA 1 a j λj=>kA i j λj=>wA 1 d b λb=> ∀k,bA i k->KC k b j λb=> ∀j,bA b j->lA a λa=>O6 .i64 (gx h 0) a λa=>KB .i64 (gx h 1) (iv 1) λb=>g [a,b] j) (R d i)) [c,f] e
def IE:=PA (Value.cells a) 211 w λa d=>wA 2 c (iv 0) λe=>FA 0 e λe=>kA d e λe=>BB .i64 e (iv 0) λf=>eA f (wA 2 c (iv 0) λf=>FA 1 f λf=>kA d f λf=>wA 1 b f λf=>kA d f λf=>R f d) (BB .i64 e (iv 1) λf=>eA f (R (iv 0) d) (BB .i64 e (iv 2) λf=>eA f (HA d 2 a λf=>HA d 2 a λg=> ∀h,bA d h->cf 222 [c] h λi j=>bA h j/\cq 641 [f,b,i] j λf=> ∀h,bA j h->cf 223 [c] h λi j=>bA h j/\cq 641 [g,b,i] j λg=>OB bK .i64 f g λf=> ∀g,bA j g->R f g) (BB .i64 e (iv 3) λe=>eA e (HA d 2 a λe=>HA d 2 a λf=> ∀g,bA d g->cf 222 [c] g λh i=>bA g i/\cq 641 [e,b,h] i λe=> ∀g,bA i g->cf 223 [c] g λh i=>bA g i/\cq 641 [f,b,h] i λf=>OB g4 .i64 e f λe=> ∀f,bA i f->R e f) (HA d 2 a λe=>HA d 2 a λf=>HA d 2 a λa=> ∀g,bA d g->cf 222 [c] g λd h=>bA g h/\cq 641 [f,b,d] h λd=> ∀f,bA h f->cf 223 [c] f λc g=>bA f g/\cq 641 [a,b,c] g λa=>cq 704 [e,d,a] g λa=> ∀b,bA g b->R a b))))
def LY:=lp (λd e f=>NV->IA a λg=>FA 1 g λg=>kA f g λg=>lA g λg=>lB .i64 (gx e 1) g λg=>eA g (IA a λg=>FA 2 g λg=>kA f g λg=>wA 1 g (gx e 1) λg=>kA f g λg=>BB .i64 g (iv 5) λg=>IA a λh=>FA 2 h λh=>kA f h λh=>wA 1 h (gx e 1) λh=>kA f h λh=>BB .i64 h (iv 0) λh=>eA h (oA .i64 (gx e 1) (iv 1) λh=>d [(gx e 0),h] f) (cq 540 [b,(gx e 1)] f λb=>TE true b g λb=>cq 540 [c,(gx e 1)] f λh=>TE true h g λh=>IA a λi=>FA 4 i λi=>kA f i λi=>wA 1 i c λc=>kA f c λc=>cq 540 [c,(gx e 1)] f λc=>TE true c g λc=> ∀g,bA f g->jn (λi=>eA (gx e 0) (i [tt] g) (eA h (VA b λj=>i [j] g) (i [ff] g))) (λg i=>NV->IA a λj=>FA 0 j λj=>kA i j λj=>xA .eql j (.string ⟨#[75,52]⟩) λk=>jn (λl=>eA k (l [tt] i) (xA .eql j (.string ⟨#[71,76]⟩) λk=>l [k] i)) (λi k=>NV->eA (gx i 0) (jn (λi=>eA b (VA c λl=>eA l (i [tt] k) (VA h λl=>i [l] k)) (i [ff] k)) (λi l=>NV->eA (gx i 0) (R ff l) (oA .i64 (gx e 1) (iv 1) λi=>d [(gx g 0),i] l))) (xA .eql j (.string ⟨#[83,52]⟩) λi=>eA i (jn (λi=>eA b (VA h λl=>i [l] k) (i [ff] k)) (λi l=>NV->eA (gx i 0) (R ff l) (oA .i64 (gx e 1) (iv 1) λi=>d [(gx g 0),i] l))) (xA .eql j (.string ⟨#[83,53]⟩) λi=>eA i (TE false b h λh=>eA h (R ff k) (oA .i64 (gx e 1) (iv 1) λh=>d [(gx g 0),h] k)) (jn (λh=>eA b (VA c λb=>h [b] k) (h [ff] k)) (λb c=>NV->eA (gx b 0) (R ff c) (oA .i64 (gx e 1) (iv 1) λb=>d [(gx g 0),b] c))))))))) (jn (λb=>IA a λa=>FA 0 a λa=>kA f a λa=>xA .neq a (.string ⟨#[71,76]⟩) λa=>eA a (b [tt] f) (b [(gx e 0)] f)) (λa b=>NV->R (gx a 0) b))) [ff,(iv 0)] w
def UM:=cf 220 [a,b] w λb c=>VA b λb=>eA b (IA a λa=>FA 2 a λa=>KC c a tt λa=>R (.tuple #[]) a) (R (.tuple #[]) c)
def uY:=zB #[(iv 0),(iv 0)] #[(0,1),(1,1)] [(0,a),(1,(iv 0))] λa=>xB 59 (Value.cells (.agg #[(iv 0),(iv 0)])) 2 1 [(0,a)] w λa c=>xB 27 (Value.cells sn) 1 2 [(0,a),(1,b)] c λa b=>cf 260 [a] b λa b=>R a b
def UF:=cf 220 [a,(.int .u8 70)] w λb c=>eA b (cf 320 [] c λb d=>R b d) (cf 220 [a,(.int .u8 84)] c λb c=>eA b (cf 321 [] c λb d=>R b d) (cf 220 [a,(.int .u8 40)] c λb c=>eA b (cf 115 [a] c λb d=>cf 648 [a,(.int .u8 41)] d λ_ d=>R b d) (nD prog (Instr.range 9 (.string ⟨#[112,113,114,115,116,117]⟩)) c λb c=>lp (λd _ e=>NV->nD prog (Instr.next b true 0) e λb e=>YA b 0 λf=>eA f (YA b 1 λf=>YA b 2 λb=>QF .u8 b λb=>cf 220 [a,b] e λb g=>eA b (cf 146 [f] g λb f=>R b f) (d [] g)) (IA a λa=>FA 2 a λa=>KC e a tt λa=>cf 320 [] a λa b=>R a b)) [] c)))
def QU:=cf 229 [a,b] w λb c=>VA b λb=>eA b (IA a λa=>FA 2 a λa=>KC c a tt λa=>R (.tuple #[]) a) (R (.tuple #[]) c)
def JF:=wA 1 a c λe=>kA w e λe=>wA 1 a b λa=>kA w a λa=>cq 384 [e,a] w λa=> ∀e,bA w e->eA a (IA d λa=>kA e a λa=>oA .i64 a (iv 1) λa=>IA d λd=>KC e d a λa=>R (.tuple #[c,b]) a) (R (.tuple #[b,c]) e)
def MM:=PA (Value.cells a) 197 w λa c=>cf 708 [b,(.func (.func 709) #[] #[a])] c λa b=>VA a λa=>R a b
def UN:=PA (Value.cells a) 203 w λa d=>cf 569 [c] d λd e=>wA 2 c (iv 0) λf=>FA 0 f λf=>kA e f λf=>BB .i64 f (iv 2) λg=>eA g (HA e 2 a λg=>cf 710 [g,b,d] e λg h=>xB 203 (Value.cells (.agg #[sn,es])) 2 1 [(0,g)] h λg h=>R (.tuple #[g,tt]) h) (BB .i64 f (iv 3) λg=>eA g (HA e 2 a λg=>wA 1 d (iv 0) λh=>kA e h λh=>HA e 2 a λi=>wA 1 d (iv 1) λd=>kA e d λd=> ∀j,bA e j->(xB 9 (Value.cells es) 1 1 [(0,h)] j λk l=>bA j l/\ ∀m,bA l m->(cf 710 [g,b,k] m λl n=>bA m n/\ ∀o,bA n o->xB 9 (Value.cells es) 1 1 [(0,d)] o λn p=>bA o p/\ ∀o,bA p o->cf 710 [i,b,n] o λn o=> ∀p,bA o p->xB 203 (Value.cells (.agg #[sn,es])) 2 2 [(0,l),(1,n)] p λl n=> ∀o,bA n o->R (.tuple #[l,tt]) o)/\(xB 9 (Value.cells es) 1 1 [(0,d)] m λl n=>bA m n/\ ∀m,bA n m->cf 710 [g,b,k] m λk n=>bA m n/\ ∀m,bA n m->cf 710 [i,b,l] m λl m=> ∀n,bA m n->xB 203 (Value.cells (.agg #[sn,es])) 2 2 [(0,k),(1,l)] n λk l=> ∀m,bA l m->R (.tuple #[k,tt]) m))/\(xB 9 (Value.cells es) 1 1 [(0,d)] j λd k=>bA j k/\ ∀j,bA k j->xB 9 (Value.cells es) 1 1 [(0,h)] j λh k=>bA j k/\ ∀j,bA k j->cf 710 [g,b,h] j λg h=>bA j h/\ ∀j,bA h j->cf 710 [i,b,d] j λd h=> ∀i,bA h i->xB 203 (Value.cells (.agg #[sn,es])) 2 2 [(0,g),(1,d)] i λd g=> ∀h,bA g h->R (.tuple #[d,tt]) h)) (BB .i64 f (iv 4) λd=>eA d (HA e 2 a λa=> ∀d,bA e d->cf 239 [c] d λf g=>bA d g/\ ∀d,bA g d->cf 240 [c] d λc g=>bA d g/\ ∀d,bA g d->cf 711 [a,b,f,c] d λa b=>YA a 0 λc=>YA a 1 λa=> ∀d,bA b d->R (.tuple #[c,a]) d) (R (.tuple #[sn,ff]) e)))
def IK:=PA (Value.cells a) 197 w λa d=>PA (Value.cells b) 203 d λb d=>jn (λe=>wA 2 c (iv 0) λf=>FA 0 f λf=>kA d f λf=>BB .i64 f (iv 3) λf=>eA f (cf 569 [c] d λc f=>cf 40 [c,(.func (.func 712) #[] #[a,b])] f λc f=>e [c] f) (e [ff] d)) (λc d=>NV->eA (gx c 0) (R tt d) (FA 0 b λc=>kA d c λc=>cf 40 [c,(.func (.func 713) #[] #[a,b])] d λa b=>R a b))
def QL:=kA w b λb=>cf 166 [b] w λb c=>cf 667 [b,a] c λa b=>VA a λa=>R a b
def nY:=jn (λc=>cf 53 [a,(iv 0),(iv 30)] w λd e=>eA d (qU cK .i64 (iv 1) a λa=>KB .i64 a (iv 1) λa=>cf 53 [b,(iv 0),a] e λa b=>c [a] b) (c [ff] e)) (λa b=>NV->R (gx a 0) b)
def zU:=lA a λb=>tu 2 (Value.cells (iv 0)) 1 8 b b w λb c=>lA a λd=>lp (λe f g=>NV->lB .i64 (gx f 0) d λd=>eA d (wA 1 a (gx f 0) λa=>kA g a λa=>cf 245 [a] g λa d=>lA a λh=>lp (λi j k=>NV->lB .i64 (gx j 0) h λh=>eA h (wA 1 a (gx j 0) λa=>kA k a λa=>wA 1 b a λh=>kA k h λh=>qU cK .i64 (iv 1) (gx f 0) λl=>OB g4 .i64 h l λh=>wA 1 b a λa=> ∀l,bA k l->KC l a h λa=> ∀h,bA a h->oA .i64 (gx j 0) (iv 1) λa=>i [a] h) (oA .i64 (gx f 0) (iv 1) λa=>e [a] k)) [(iv 0)] d) (R b g)) [(iv 0)] c
def VH:=PA (Value.cells a) 128 w λa c=>FA 0 a λa=>kA c a λa=>lp (λd e f=>NV->lB .i64 (gx e 0) a λa=>eA a (TB prog b [(gx e 0)] f λa b=>VA a λa=>eA a (R ff b) (oA .i64 (gx e 0) (iv 1) λa=>d [a] b)) (R tt f)) [(iv 0)] c
def SF:=HA w 2 b λb=>cf 671 [b,a,a] w λa b=>R a b
def PN:=PA (Value.cells a) 128 w λa d=>FA 1 a λa=>kA d a λa=>wA 1 a b λa=>kA d a λa=>cf 305 [a,c] d λa b=>R a b
def dI:=lA a λc=>lA b λd=>zI .i64 c d λc=>eA c (R ff w) (lA a λc=>lp (λd e f=>NV->lB .i64 (gx e 0) c λc=>eA c (wA 1 a (gx e 0) λa=>kA f a λa=>wA 1 b (gx e 0) λb=>kA f b λb=>zI .i64 a b λa=> ∀b,bA f b->eA a (R ff b) (oA .i64 (gx e 0) (iv 1) λa=>d [a] b)) (R tt f)) [(iv 0)] w)
def jO:=cf 251 [a] w λa b=>lA a λc=>lp (λd e f=>NV->lB .i64 (gx e 0) c λc=>eA c (lA a λc=>lp (λg h i=>NV->lB .i64 (gx h 0) c λc=>eA c (wA 1 a (gx h 0) λc=>kA i c λc=>cf 305 [c,(gx e 0)] i λc j=>eA c (wA 1 a (gx h 0) λc=>kA j c λc=>wA 1 a (gx e 0) λk=>kA j k λk=>OB g4 .i64 c k λc=>wA 1 a (gx h 0) λk=> ∀l,bA j l->KC l k c λc=> ∀k,bA c k->oA .i64 (gx h 0) (iv 1) λc=>g [c] k) (oA .i64 (gx h 0) (iv 1) λc=>g [c] j)) (oA .i64 (gx e 0) (iv 1) λc=>d [c] i)) [(iv 0)] f) (R a f)) [(iv 0)] b
def TF:=FA 1 b λb=>kA w b λb=>wA 1 b a λb=>kA w b λb=>kA w c λc=>wA 1 c a λc=>kA w c λc=>OB bK .i64 b c λb=>qU cK .i64 (iv 1) a λa=>cq 681 [b,a] w λa=> ∀b,bA w b->R a b
def zY:=OB zG .i64 a b λa=>BB .i64 a (iv 0) λa=>R a w
def L0:=cf 245 [b] w λb c=>lA b λd=>lp (λe f g=>NV->lB .i64 (gx f 1) d λd=>eA d (wA 1 b (gx f 1) λb=>kA g b λb=>wA 1 a b λa=>kA g a λa=>OB g4 .i64 (gx f 0) a λa=>oA .i64 (gx f 1) (iv 1) λb=>e [a,b] g) (R (gx f 0) g)) [(iv 0),(iv 0)] c
def eH:=PA (Value.cells a) 392 w λa d=>tu 2 (Value.cells (iv 0)) 1 8 (iv 6) (iv 6) d λd e=>PA (Value.cells sn) 42 e λe f=>KC f e d λd=>PA (Value.cells .nilFunc) 483 d λd f=>KC f d (.func (.func 687) #[] #[b,a,e,c,d]) λa=>kA a d λb=>TB prog b [(iv 0)] a λ_ a=>R (.tuple #[]) a
def BJ:=kA w a λb=>kA w a λc=>lA c λc=>KB .i64 c (iv 1) λc=>wA 1 b c λb=>kA w b λb=>kA w a λc=>kA w a λd=>lA d λd=>KB .i64 d (iv 1) λd=>qP 1 c none (some d) λc=>KC w a c λa=>R b a
end
section
variable{a b c d e:Value}{w:World}{R:RT}
theorem sR(h:NI a w R):nA prog 553 #[a] w R:=cD (h:=lf) Tryz.func553 h
theorem XG(h:PD a b c w R):nA prog 554 #[a,b,c] w R:=cD (h:=lf) Tryz.func554 h
theorem SK(h:HF a b c d e w R):nA prog 555 #[a,b,c,d,e] w R:=cD (h:=lf) Tryz.func555 h
theorem cZ(h:EM a w R):nA prog 556 #[a] w R:=cD (h:=lf) Tryz.func556 h
theorem JT(h:CJ a b w R):nA prog 567 #[a,b] w R:=cD (h:=(nn lf (nn (nn (.reg [] (some [20])) lf) (nn lf (nn lf (nn (nn lf (.node (some [62]) lf lf)) lf)))))) Tryz.func567 h
theorem L4(h:AP a w R):nA prog 569 #[a] w R:=cD (h:=(nn lf (nn lf (nn (nn lf (.node (some [3,9]) lf lf)) lf)))) Tryz.func569 h
theorem o1(h:XN a w R):nA prog 583 #[a] w R:=cD (h:=lf) Tryz.func583 h
theorem gZ(h:IM a w R):nA prog 584 #[a] w R:=cD (h:=lf) Tryz.func584 h
theorem wV(h:DK a b w R):nA prog 585 #[a,b] w R:=cD (h:=(nn lf (nn lf (nn (nn lf (nn lf (nn lf (nn lf (nn lf (nn lf (nn (nn (.reg [5] none) lf) lf))))))) lf)))) Tryz.func585 h
theorem Y0(h:SN a w R):nA prog 586 #[a] w R:=cD (h:=lf) Tryz.func586 h
theorem C4(h:rP a w R):nA prog 587 #[a] w R:=cD (h:=lf) Tryz.func587 h
theorem xV(h:EK a b w R):nA prog 588 #[a,b] w R:=cD (h:=(nn lf (nn (.reg [] (some [4])) lf))) Tryz.func588 h
theorem RP(h:WH a b w R):nA prog 589 #[a,b] w R:=cD (h:=lf) Tryz.func589 h
theorem nX(h:JL a b c w R):nA prog 590 #[a,b,c] w R:=cD (h:=(nn lf (nn lf (nn lf (nn (nn lf (.node (some [9]) (nn lf (nn (nn lf (nn (nn lf (nn lf (.node (some [10]) lf (nn lf (.node (some [10]) lf (nn lf (.node (some [10]) lf (nn lf (.node (some [10]) (nn lf (.regE [4] none)) lf))))))))) lf)) lf)) lf)) lf))))) Tryz.func590 h
theorem wH(h:iE a b w R):nA prog 592 #[a,b] w R:=cD (h:=(nn lf (nn lf (nn (nn lf (.node (some [13]) lf lf)) lf)))) Tryz.func592 h
theorem HG(h:zD a b w R):nA prog 593 #[a,b] w R:=cD (h:=(nn lf (nn (nn lf (.node (some [8]) lf lf)) lf))) Tryz.func593 h
theorem XP(h:bI a b c w R):nA prog 594 #[a,b,c] w R:=cD (h:=(nn lf (nn (.reg [] (some [4])) lf))) Tryz.func594 h
theorem UT(h:MJ a b c d w R):nA prog 595 #[a,b,c,d] w R:=cD (h:=(nn lf (nn lf (nn (nn lf (nn (nn lf (.node (some [14]) lf lf)) (nn (nn (.reg [] (some [5])) lf) lf))) lf)))) Tryz.func595 h
theorem z8(h:ES a b w R):nA prog 612 #[a,b] w R:=cD (h:=(nn lf (nn lf (nn (nn lf (.node (some [5,6]) lf lf)) lf)))) Tryz.func612 h
theorem ve(h:JY a w R):nA prog 613 #[a] w R:=cD (h:=(nn lf (nn lf (nn (nn lf (.node (some [3,4]) lf lf)) lf)))) Tryz.func613 h
theorem Hb(h:jV a w R):nA prog 639 #[a] w R:=cD (h:=lf) Tryz.func639 h
theorem V4(h:KP a b c w R):nA prog 640 #[a,b,c] w R:=cD (h:=(nn lf (nn lf (nn (nn lf (.node (some [2,8]) lf lf)) lf)))) Tryz.func640 h
theorem mG(h:IE a b c w R):nA prog 641 #[a,b,c] w R:=cD (h:=(nn lf (nn (nn lf (nn lf (nn lf (nn lf (nn lf (nn lf (nn (nn (.reg [4,9] none) lf) (nn lf (nn (nn (.reg [4,9] none) lf) lf))))))))) (nn (.reg [5,10,11] none) lf)))) Tryz.func641 h
theorem xe(h:LY a b c w R):nA prog 642 #[a,b,c] w R:=cD (h:=(nn lf (nn lf (nn (nn lf (.node (some [7,8]) (nn lf (nn (nn lf (nn lf (nn (.reg [2,7,18] none) (nn (.reg [] (some [7])) (nn lf (nn (nn lf (.node (some [76]) lf lf)) (nn (nn (.reg [] (some [87])) lf) (nn lf (nn (nn (.reg [] (some [94])) lf) (nn lf (nn lf (nn (.reg [] (some [75])) lf)))))))))))) lf)) lf)) (nn (.reg [] (some [6])) lf))))) Tryz.func642 h
theorem pZ(h:UM a b w R):nA prog 648 #[a,b] w R:=cD (h:=lf) Tryz.func648 h
theorem Xd(h:uY a b w R):nA prog 649 #[a,b] w R:=cD (h:=lf) Tryz.func649 h
theorem oZ(h:UF a w R):nA prog 650 #[a] w R:=cD (h:=(nn lf (nn lf (nn (nn lf (.node (some []) lf lf)) lf)))) Tryz.func650 h
theorem ib(h:QU a b w R):nA prog 651 #[a,b] w R:=cD (h:=lf) Tryz.func651 h
theorem TK(h:JF a b c d w R):nA prog 652 #[a,b,c,d] w R:=cD (h:=(nn lf (nn (nn (.reg [8] none) lf) lf))) Tryz.func652 h
theorem jZ(h:MM a b w R):nA prog 656 #[a,b] w R:=cD (h:=lf) Tryz.func656 h
theorem i1(h:UN a b c w R):nA prog 657 #[a,b,c] w R:=cD (h:=lf) Tryz.func657 h
theorem BV(h:IK a b c w R):nA prog 658 #[a,b,c] w R:=cD (h:=(nn lf (nn (nn (.reg [] (some [17])) lf) lf))) Tryz.func658 h
theorem uX(h:QL a b w R):nA prog 666 #[a,b] w R:=cD (h:=lf) Tryz.func666 h
theorem Pd(h:nY a b w R):nA prog 667 #[a,b] w R:=cD (h:=(nn lf (nn (.reg [] (some [4])) lf))) Tryz.func667 h
theorem Ia(h:zU a w R):nA prog 668 #[a] w R:=cD (h:=(nn lf (nn lf (nn (nn lf (.node (some [13]) (nn lf (nn lf (nn (nn lf (nn lf (.node (some [21]) lf lf))) lf))) lf)) lf)))) Tryz.func668 h
theorem QP(h:VH a b w R):nA prog 669 #[a,b] w R:=cD (h:=(nn lf (nn (nn lf (.node (some [8]) lf lf)) lf))) Tryz.func669 h
theorem fR(h:SF a b w R):nA prog 670 #[a,b] w R:=cD (h:=lf) Tryz.func670 h
theorem W0(h:PN a b c w R):nA prog 671 #[a,b,c] w R:=cD (h:=lf) Tryz.func671 h
theorem ZP(h:dI a b w R):nA prog 673 #[a,b] w R:=cD (h:=(nn lf (nn lf (nn (nn lf (.node (some [13]) lf lf)) lf)))) Tryz.func673 h
theorem H1(h:jO a w R):nA prog 674 #[a] w R:=cD (h:=(nn lf (nn lf (nn (nn lf (.node (some [10]) (nn lf (nn lf (nn (nn lf (nn lf (.node (some [15]) lf lf))) lf))) lf)) lf)))) Tryz.func674 h
theorem gR(h:TF a b c w R):nA prog 680 #[a,b,c] w R:=cD (h:=(nn lf (nn (.reg [12] none) lf))) Tryz.func680 h
theorem je(h:zY a b w R):nA prog 681 #[a,b] w R:=cD (h:=lf) Tryz.func681 h
theorem Ng(h:L0 a b w R):nA prog 685 #[a,b] w R:=cD (h:=(nn lf (nn lf (nn (nn lf (.node (some [5,11]) lf lf)) lf)))) Tryz.func685 h
theorem LN(h:eH a b c w R):nA prog 686 #[a,b,c] w R:=cD (h:=lf) Tryz.func686 h
theorem IT(h:BJ a w R):nA prog 688 #[a] w R:=cD (h:=lf) Tryz.func688 h
end
set_option maxRecDepth 100000
section
variable(a b c d:Value)(w:World)(R:RT)
def JM:=PA (Value.cells a) 211 w λa d=>FA 1 a λe=>kA d e λe=>HA d 2 a λa=>cq 587 [a] d λa=>OB zG .i64 a b λa=>OB g4 .i64 a c λa=>cq 718 [e,a] d λa=> ∀b,bA d b->R a b
def JS:=PA (Value.cells a) 211 w λa d=>FA 1 a λe=>kA d e λe=>FA 0 a λa=>kA d a λa=>cq 534 [a] d λa=>OB zG .i64 a b λa=>OB g4 .i64 a c λa=>cq 727 [e,a] d λa=> ∀b,bA d b->R a b
def TC:=cf 733 [a,b] w λa b=>hH .i64 (iv 0) a λa=>R a b
def HK:=PA (Value.cells a) 203 w λa c=>kA c b λb=>HA c 2 a λa=>cf 414 [b,a] c λa b=>VA a λa=>R a b
def NL:=PA (Value.cells a) 203 w λa d=>PA (Value.cells (.agg #[sn,es])) 203 d λd e=>FA 0 a λf=>kA e f λf=>FA 1 a λa=>kA e a λa=> ∀g,bA e g->cf 734 [f,b] g λb e=>bA g e/\ ∀f,bA e f->cf 66 [b,c] f λb c=>bA f c/\zB #[sn,es] #[(0,1),(1,1)] [(0,b),(1,a)] λa=> ∀b,bA c b->sD prog b 2 d a λa=> ∀b,bA a b->HA b 2 d λa=>R a b
def ML:=PA (Value.cells a) 203 w λa e=>wA 2 c (iv 0) λf=>FA 0 f λf=>kA e f λf=>BB .i64 f (iv 1) λg=>eA g (HA e 2 a λg=>cf 710 [g,b,sn] e λg h=>xB 203 (Value.cells (.agg #[sn,es])) 2 1 [(0,g)] h λg h=>R (.tuple #[g,tt]) h) (BB .i64 f (iv 0) λg=>eA g (HA e 2 a λg=>cq 74 [d] e λh=>FA 0 a λi=>kA e i λi=> ∀j,bA e j->xB 9 (Value.cells es) 1 1 [(0,h)] j λh k=>bA j k/\ ∀j,bA k j->cf 710 [g,b,h] j λg h=>bA j h/\cq 74 [c] h λj=>cq 44 [i,j] h λi=> ∀j,bA h j->xB 203 (Value.cells (.agg #[sn,es])) 2 1 [(0,g)] j λg h=>bA j h/\ ∀j,bA h j->R (.tuple #[g,i]) j) (BB .i64 f (iv 2) λg=>eA g (HA e 2 a λg=> ∀h,bA e h->cf 239 [c] h λi j=>bA h j/\ ∀h,bA j h->cf 240 [c] h λj k=>bA h k/\ ∀h,bA k h->xB 27 (Value.cells sn) 1 3 [(0,i),(1,j),(2,d)] h λi j=>bA h j/\ ∀h,bA j h->cf 714 [i] h λi j=>bA h j/\cq 74 [i] j λh=> ∀i,bA j i->xB 9 (Value.cells es) 1 1 [(0,h)] i λh j=>bA i j/\ ∀i,bA j i->cf 710 [g,b,h] i λg h=> ∀i,bA h i->xB 203 (Value.cells (.agg #[sn,es])) 2 1 [(0,g)] i λg h=> ∀i,bA h i->R (.tuple #[g,tt]) i) (BB .i64 f (iv 3) λf=>eA f (HA e 2 a λa=> ∀f,bA e f->cf 239 [c] f λg h=>bA f h/\ ∀f,bA h f->xB 27 (Value.cells sn) 1 2 [(0,g),(1,d)] f λg h=>bA f h/\ ∀f,bA h f->cf 714 [g] f λg h=>bA f h/\cq 74 [g] h λf=> ∀g,bA h g->cf 240 [c] g λc h=>bA g h/\ ∀g,bA h g->xB 27 (Value.cells sn) 1 2 [(0,c),(1,d)] g λc d=>bA g d/\ ∀g,bA d g->cf 714 [c] g λc d=>bA g d/\cq 74 [c] d λc=> ∀g,bA d g->xB 9 (Value.cells es) 1 2 [(0,f),(1,c)] g λc d=>bA g d/\ ∀f,bA d f->cf 710 [a,b,c] f λa b=> ∀c,bA b c->xB 203 (Value.cells (.agg #[sn,es])) 2 1 [(0,a)] c λa b=> ∀c,bA b c->R (.tuple #[a,tt]) c) (R (.tuple #[sn,ff]) e))))
def CI:=kA w b λb=>HA w 2 c λc=> ∀d,bA w d->cf 424 [c,a] d λa c=>bA d c/\ ∀d,bA c d->cf 414 [b,a] d λa b=> ∀c,bA b c->R a c
def DI:=cf 128 [a] w λd e=>jn (λf=>wA 2 d (iv 0) λg=>FA 0 g λg=>kA e g λg=>zI .i64 g (iv 4) λg=>eA g (f [tt] e) (cf 239 [d] e λe g=>wA 2 e (iv 0) λe=>FA 0 e λe=>kA g e λe=>zI .i64 e (iv 4) λe=>f [e] g)) (λe f=>NV->eA (gx e 0) (R ff f) (cf 239 [d] f λe f=>cf 240 [d] f λd f=>jn (λg=>kA f b λh=>HA f 2 c λi=> ∀j,bA f j->cf 240 [e] j λf k=>bA j k/\ ∀j,bA k j->xB 27 (Value.cells sn) 1 2 [(0,f),(1,d)] j λf k=>bA j k/\ ∀j,bA k j->cf 714 [f] j λf k=>bA j k/\cq 74 [f] k λf=> ∀j,bA k j->xB 9 (Value.cells es) 1 1 [(0,f)] j λf k=>bA j k/\ ∀j,bA k j->cf 710 [i,a,f] j λf i=>bA j i/\cq 74 [e] i λe=> ∀j,bA i j->cf 424 [f,e] j λe f=>bA j f/\ ∀i,bA f i->cf 414 [h,e] i λe f=>eA e (kA f b λb=>HA f 2 c λc=>cq 74 [d] f λd=> ∀e,bA f e->xB 9 (Value.cells es) 1 1 [(0,d)] e λd h=>bA e h/\ ∀e,bA h e->cf 710 [c,a,d] e λa c=>bA e c/\ ∀d,bA c d->cf 414 [b,a] d λa b=> ∀c,bA b c->g [a] c) (∀a,bA f a-> ∀b,bA a b-> ∀a,bA b a-> ∀b,bA a b->g [ff] b)) (λa b=>NV->R (gx a 0) b)))
def YQ:=lA a λb=>KB .i64 b (iv 1) λb=>wA 1 a b λb=>kA w b λb=>lA a λc=>KB .i64 c (iv 2) λc=>lp (λd e f=>NV->hH .i64 (iv 0) (gx e 1) λg=>eA g (wA 1 a (gx e 1) λa=>kA f a λa=>cf 221 [(iv 4),a,(gx e 0)] f λa g=>KB .i64 (gx e 1) (iv 1) λh=>d [a,h] g) (R (gx e 0) f)) [b,c] w
def na:=lA a λc=>lp (λd e f=>NV->lB .i64 (gx e 1) c λc=>eA c (wA 1 a (gx e 1) λa=>kA f a λa=>cf 681 [a,b] f λa b=>eA a (qU cK .i64 (iv 1) (gx e 1) λa=>OB g4 .i64 (gx e 0) a λa=>oA .i64 (gx e 1) (iv 1) λc=>d [a,c] b) (oA .i64 (gx e 1) (iv 1) λa=>d [(gx e 0),a] b)) (R (gx e 0) f)) [(iv 0),(iv 0)] w
def CY:=lp (λc d e=>NV->lA a λf=>lB .i64 (gx d 1) f λf=>eA f (wA 1 a (gx d 1) λf=>kA e f λf=>OB bK .i64 f b λb=>wA 1 a (gx d 1) λa=>kA e a λa=>BB .i64 b a λa=> ∀b,bA e b->eA a (cf 486 [(gx d 1)] b λa f=>OB g4 .i64 (gx d 0) a λa=>oA .i64 (gx d 1) (iv 1) λg=>c [a,g] f) (oA .i64 (gx d 1) (iv 1) λa=>c [(gx d 0),a] b)) (R (gx d 0) e)) [(iv 0),(iv 0)] w
def yD:=lA a λc=>lp (λd e f=>NV->lB .i64 (gx e 0) c λc=>eA c (wA 2 a (gx e 0) λa=>HA f 2 a λa=>TB prog b [a] f λa b=>eA a (R (gx e 0) b) (oA .i64 (gx e 0) (iv 1) λa=>d [a] b)) (R (iv (-1)) f)) [(iv 0)] w
def Q6:=PA (Value.cells b) 9 w λb c=>cf 266 [a] c λa c=>cf 169 [a,(.func (.func 742) #[] #[b])] c λa b=>R a b
def lY:=kA w b λb=>xA .eql a b λa=>R a w
end
section
variable{a b c d:Value}{w:World}{R:RT}
theorem hZ(h:JM a b c w R):nA prog 689 #[a,b,c] w R:=cD (h:=(nn lf (nn (.reg [3,8] none) lf))) Tryz.func689 h
theorem D8(h:JS a b c w R):nA prog 704 #[a,b,c] w R:=cD (h:=(nn lf (nn (.reg [4,9] none) lf))) Tryz.func704 h
theorem VF(h:TC a b w R):nA prog 708 #[a,b] w R:=cD (h:=lf) Tryz.func708 h
theorem AV(h:HK a b w R):nA prog 709 #[a,b] w R:=cD (h:=lf) Tryz.func709 h
theorem rX(h:NL a b c w R):nA prog 710 #[a,b,c] w R:=cD (h:=lf) Tryz.func710 h
theorem qX(h:ML a b c d w R):nA prog 711 #[a,b,c,d] w R:=cD (h:=(nn lf (nn (nn lf (nn lf (nn lf (nn lf (nn (nn (.reg [3,10,11] none) lf) (nn lf (nn (nn (.reg [9] none) lf) (nn lf (nn (nn (.reg [7,13] none) lf) lf))))))))) lf))) Tryz.func711 h
theorem iR(h:CI a b c w R):nA prog 712 #[a,b,c] w R:=cD (h:=lf) Tryz.func712 h
theorem jR(h:DI a b c w R):nA prog 713 #[a,b,c] w R:=cD (h:=(nn lf (nn lf (nn (nn (.reg [] (some [22])) lf) (nn lf (nn (.reg [8,12,20] (some [4])) lf)))))) Tryz.func713 h
theorem Z0(h:YQ a w R):nA prog 714 #[a] w R:=cD (h:=(nn lf (nn lf (nn (nn lf (.node (some [3,4]) lf lf)) lf)))) Tryz.func714 h
theorem ll(h:na a b w R):nA prog 718 #[a,b] w R:=cD (h:=(nn lf (nn lf (nn (nn lf (.node (some [5,10]) lf lf)) lf)))) Tryz.func718 h
theorem me(h:CY a b w R):nA prog 727 #[a,b] w R:=cD (h:=(nn lf (nn lf (nn (nn lf (.node (some [5,6]) lf lf)) lf)))) Tryz.func727 h
theorem GG(h:yD a b w R):nA prog 733 #[a,b] w R:=cD (h:=(nn lf (nn (nn lf (.node (some [8]) lf lf)) lf))) Tryz.func733 h
theorem Pi(h:Q6 a b w R):nA prog 734 #[a,b] w R:=cD (h:=lf) Tryz.func734 h
theorem Nd(h:lY a b w R):nA prog 742 #[a,b] w R:=cD (h:=lf) Tryz.func742 h
end
theorem ok_spec_l01In(x a b:Int)(w:World):CB prog 331 #[iv x,iv a,iv b] w (.bool (decide (a<=x/\x<=b))):=by
 apply N1;unfold ZQ
 (with_reducible refine Ji ?_;refine LF ?_)
 refine dA (λc=>?_) (λc=>?_)
 all_goals (repeat first
  |(with_reducible first|refine pB ?_|refine bB ?_|refine iNilF ?_|refine DD (by assumption) ?_|refine WC (by assumption) ?_|refine UY (by assumption) ?_|refine XC (by assumption) ?_|refine VY ?_|refine BA ?_|refine ZF ?_|refine jB ?_|refine LF ?_|refine TA ?_|refine iPick ?_|refine lD ?_|refine mD ?_|refine He ?_|refine Ie ?_|refine Je ?_|refine Ji ?_)
  |((with_reducible show kA _ _ _);refine mA (by assumption) (by first|rfl|simp) ?_)|((with_reducible refine DB (by assumption) ?_ ?_);rfl)
  |((with_reducible refine tE (by assumption) ?_ (λe d=>?_));omega)|((with_reducible refine rh (by assumption) ?_ (λe d=>?_));omega)
  |((with_reducible refine Ev (by assumption) ?_ ?_ (λe d=>?_));omega;omega)|((with_reducible refine qA ?_ ?_);omega)|((with_reducible refine HB ?_ ?_);omega)
  |((with_reducible show YA _ _ _);refine eD (by rfl) ?_)|((with_reducible refineλ(_:Nat->Value)=>?_);(try simp only[gx])))
 all_goals exact⟨by simp[c],bA.refl _⟩
theorem nG(x a b:Int)(w:World):CB prog 53 #[iv x,iv a,iv b] w (.bool (decide (a<=x/\x<=b))):=by
 apply CV;unfold OM
 (with_reducible refine Ji ?_;refine LF ?_)
 refine dA (λc=>?_) (λc=>?_)
 all_goals (repeat first
  |(with_reducible first|refine pB ?_|refine bB ?_|refine iNilF ?_|refine DD (by assumption) ?_|refine WC (by assumption) ?_|refine UY (by assumption) ?_|refine XC (by assumption) ?_|refine VY ?_|refine BA ?_|refine ZF ?_|refine jB ?_|refine LF ?_|refine TA ?_|refine iPick ?_|refine lD ?_|refine mD ?_|refine He ?_|refine Ie ?_|refine Je ?_|refine Ji ?_)
  |((with_reducible show kA _ _ _);refine mA (by assumption) (by first|rfl|simp) ?_)|((with_reducible refine DB (by assumption) ?_ ?_);rfl)
  |((with_reducible refine tE (by assumption) ?_ (λe d=>?_));omega)|((with_reducible refine rh (by assumption) ?_ (λe d=>?_));omega)
  |((with_reducible refine Ev (by assumption) ?_ ?_ (λe d=>?_));omega;omega)|((with_reducible refine qA ?_ ?_);omega)|((with_reducible refine HB ?_ ?_);omega)
  |((with_reducible show YA _ _ _);refine eD (by rfl) ?_)|((with_reducible refineλ(_:Nat->Value)=>?_);(try simp only[gx])))
 all_goals exact⟨by simp[c],bA.refl _⟩
theorem SG(i:Nat)(a:i<63)(w:World):CB prog 486 #[iv i] w (iv ((2^i:Nat):Int)):=by
 apply qe;unfold EY;refine ZO (by omega) (HH a ⟨rfl,bA.refl _⟩)
theorem oG(i:Nat)(a:i<63)(w:World):CB prog 534 #[iv i] w (iv ((2^i-1:Nat):Int)):=by
 apply Ua;unfold KU;refine gA (SG i a w) λe b=>?_;have c:2^i<2^63:=Nat.pow_lt_pow_right (by omega) a;have d:0<2^i:=Nat.two_pow_pos i;generalize 2^i=m at*;refine HB (by omega) ⟨?_,b⟩;rw[Int.natCast_sub (by omega)];rfl
theorem JB(m i:Nat)(b:m<2^63)(a:i<=64)(w:World):CB prog 540 #[iv m,iv i] w (.bool (m.testBit i)):=by
 apply ke;unfold AY;refine ZO (by omega) (Dj a ?_);refine⟨_,_,rfl,rfl,BA ⟨?_,bA.refl _⟩⟩;rw[<-D2 a,ya a b];cases m.testBit i<;>rfl
theorem oI(m i:Nat)(b:m<2^63)(a:i<=64)(w:World):CB prog 305 #[iv m,iv i] w (.bool (m.testBit i)):=by
 apply ml;unfold oa;refine Dj a ?_;refine⟨_,_,rfl,rfl,BA ⟨?_,bA.refl _⟩⟩;rw[<-D2 a,ya a b];cases m.testBit i<;>rfl
def t7(n:Nat)(x:Int):Bool:=decide (0<=x/\x<=((2^n-1:Nat):Int))
theorem AF(a:Sl w v y):CB prog 166 #[v] w (iv (y.length:Nat)):=by
 apply V7;unfold mS
 (with_reducible refine XC (by assumption) ?_)
 exact⟨rfl,bA.refl _⟩
theorem cW(n:Nat)(x:Int)(g:(n:Int)<=9223372036854775807)(w:World):CB prog 667 #[iv n,iv x] w (.bool (decide (n<=30)&&t7 n x)):=by
 apply Pd;unfold nY
 (with_reducible refine Ji ?_)
 refine gA (nG _ _ _ w) λe a=>?_;refine dA (λc=>?_) (λc=>?_)
 ·refine HH (by omega) ?_;have b:2^n<2^63:=Nat.pow_lt_pow_right (by omega) (by omega);have f:0<2^n:=Nat.two_pow_pos n;have d:((2^n-1:Nat):Int)=((2^n:Nat):Int)-1:=by omega
  unfold t7;rw[d];generalize 2^n=m at*;refine HB (by omega) ?_;refine gA (nG _ _ _ e) λh b=>?_
  (intro _;(try simp only[gx]))
  exact⟨by simp[show n<=30 by omega],a.trans b⟩
 ·(intro _;(try simp only[gx]))
  exact⟨by simp[show¬n<=30 by omega],a⟩
def JD(p:Int->Bool)(l:List Int):Int:=match l.findIdx? p with|some i=>(i:Int)|none=>-1
theorem yL(h:Q9 w v G)(p:Int->Bool)
  (n:∀c,bA w c-> ∀x∈G,TB prog i [iv x] c λr w''=>r= .bool (p x)/\bA c w''):CB prog 459 #[v,i] w (iv (JD p G)):=by
 have y:=h.len;apply nM;unfold wG
 (with_reducible refine UY (by assumption) ?_)
 refine MB (λk:Nat=>[iv k]) (λk c=>k<=G.length/\bA w c/\ ∀x∈G.take k,p x=false) (λk=>G.length-k) 0 rfl ⟨Nat.zero_le _,bA.refl _,by simp⟩ ?_;rintro k q s ⟨u,b,d⟩ m;have A:=h.ext b
 (intro _;(try simp only[gx]);(with_reducible refine jB ?_))
 refine dA (λl=>?_) (λl=>?_)
 ·(with_reducible refine rh (by assumption) ?_ (λB z=>?_));omega;(with_reducible refine DD (by assumption) ?_)
  have f:k<G.length:=by omega
  have o:G.getD k 0=G[k]:=by simp[f]
  rw[o];refine(n q b G[k] (List.getElem_mem _)).mono ?_;rintro r C ⟨rfl,g⟩;refine kB (λe=>?_) (λe=>?_)
  ·refine⟨?_,b.trans g⟩;have:G.findIdx? p=some k:=by
    rw[List.findIdx?_eq_some_iff_getElem];refine⟨f,e,λj t=>?_⟩;have:=d G[j] (List.mem_take_iff_getElem.2 ⟨j,by omega,rfl⟩);simp[this]
   simp[JD,this]
  ·refine qA (by omega) ?_;refine m (k+1) _ ⟨by omega,b.trans g,?_⟩ (by omega);rw[List.take_succ_eq_append_getElem f];intro x a;rcases List.mem_append.1 a with a|a
   ·exact d x a
   ·simp at a;rw[a];exact e
 ·refine⟨?_,b⟩;rw[List.take_of_length_le (by omega)]at d;have:G.findIdx? p=none:=List.findIdx?_eq_none_iff.2 d;simp[JD,this]
theorem yJ(e:Q9 w v G)(p:Int->Bool)
  (c:∀w',bA w w'-> ∀x∈G,TB prog U [iv x] w' λr w''=>r= .bool (p x)/\bA w' w''):CB prog 297 #[v,U] w (.bool (G.any p)):=by
 apply ZJ;unfold mF;refine gA (yL e p c) λj b=>?_
 (with_reducible refine LF ?_)
 refine⟨?_,b⟩;unfold JD;cases h:G.findIdx? p with
 |none=>
  have:=List.findIdx?_eq_none_iff.1 h;have a:G.any p=false:=List.any_eq_false.2 λx f=>by simp[this x f]
  simp[a]
 |some i=>
  obtain⟨g,d,_⟩:=List.findIdx?_eq_some_iff_getElem.1 h;have a:G.any p=true:=List.any_eq_true.2 ⟨G[i],List.getElem_mem _,d⟩;simp[a]
theorem QZ(b:Q9 w v G):CB prog 583 #[v] w (.bool (G.all λx=>decide (G.length<=30)&&t7 G.length x)):=by
 have p:=b.len;obtain⟨k,m,j,_⟩:=id b;apply o1;unfold XN;subst j;refine xC λl r o d e=>?_;simp only[Value.cells]at e;have f:=b.ext d;refine mA (by assumption) (by first|rfl|simp) ?_;refine gA (yJ f (λx=>!(decide (G.length<=30)&&t7 G.length x)) ?_) λg a=>?_
 ·intro q c x _;refine lQ rfl ?_;have n:=e.ext c;have i:=f.ext c;refine uX ?_;unfold QL;refine mA (by assumption) (by first|rfl|simp) ?_;refine gA (AF i) λg a=>?_;rw[SA];refine gA (cW G.length x (by omega) g) λs h=>?_
  (with_reducible refine TA ?_)
  exact⟨rfl,a.trans h⟩
 ·(with_reducible refine TA ?_)
  refine⟨?_,d.trans a⟩;rw[List.not_any_eq_all_not];simp
def xI(m k:Nat):List Nat:=(List.range k).filter λi=>m.testBit i
def EE(m:Nat):List Nat:=xI m 63
def y0(m:Nat):Nat:=(EE m).length
theorem gK(m k:Nat):xI m (k+1)=xI m k++if m.testBit k then[k]else[]:=by
 simp only[xI,List.range_succ,List.filter_append,List.filter_cons,List.filter_nil]
theorem o5{m a:Nat}(h:∀j,a<=j->m.testBit j=false):∀d,xI m (a+d)=xI m a:=by
 intro d
 induction d with
 |zero=>rfl
 |succ d ih=>rw[<-Nat.add_assoc,gK,ih,h (a+d) (by omega)];simp
theorem Ed(h:x>>>n=0)(j:Nat)(a:n<=j):x.testBit j=false:=by
 have:x<2^n:=by
  rw[Nat.shiftRight_eq_div_pow]at h;exact(Nat.div_eq_zero_iff_lt (Nat.two_pow_pos n)).1 h
 exact Nat.testBit_lt_two_pow (Nat.lt_of_lt_of_le this (Nat.pow_le_pow_right (by omega) a))
theorem y5{m:Nat}(c:m<2^63)(h:m>>>x=0):xI m x=EE m:=by
 by_cases d:x<=63
 ·have:=o5 (Ed h) (63-x);rw[show x+(63-x)=63 by omega]at this;exact this.symm
 ·have:=o5 (m:=m) (a:=63) (λj b=>Nat.testBit_lt_two_pow (Nat.lt_of_lt_of_le c (Nat.pow_le_pow_right (by omega) b))) (x-63);rw[show 63+(x-63)=x by omega]at this;exact this
theorem YW(b:x<2^63):n∈EE x↔x.testBit n=true:=by
 simp only[EE,xI,List.mem_filter,List.mem_range];constructor
 ·exactλh=>h.2
 ·intro h;refine⟨?_,h⟩;rcases Nat.lt_or_ge n 63 with a|a
  ·exact a
  ·rw[Nat.testBit_lt_two_pow (Nat.lt_of_lt_of_le b (Nat.pow_le_pow_right (by omega) a))]at h;cases h
theorem ZI(m k:Nat):(xI m k).length<=k:=by
 have:=List.length_filter_le (λi=>m.testBit i) (List.range k);simpa[xI]using this
theorem Fn{m k:Nat}(h:0<m>>>k)(b:m<2^63):k<63:=by
 rcases Nat.lt_or_ge k 63 with a|a
 ·exact a
 ·have:m>>>k=0:=by
   rw[Nat.shiftRight_eq_div_pow];exact Nat.div_eq_of_lt (Nat.lt_of_lt_of_le b (Nat.pow_le_pow_right (by omega) a))
  omega
theorem Lr(m k:Nat):m>>>(k+1)=m>>>k/2:=by
 rw[Nat.shiftRight_succ]
theorem Dk(m k:Nat):(m>>>k)%2=(m.testBit k).toNat:=by
 rw[Nat.testBit_eq_decide_div_mod_eq,<-Nat.shiftRight_eq_div_pow];rcases Nat.mod_two_eq_zero_or_one (m>>>k)with h|h<;>simp[h]
def dL(l:List Nat):Nat:=l.foldl (λa y=>a|||2^y) 0
theorem HN(l:List Nat)(y:Nat):dL (l++[y])=dL l|||2^y:=by simp[dL]
theorem g5(l:List Nat)(a j:Nat):(l.foldl (λa y=>a|||2^y) a).testBit j=(a.testBit j||l.contains j):=by
 induction l generalizing a with
 |nil=>simp
 |cons x r ih=>
  rw[List.foldl_cons,ih,Nat.testBit_or,Nat.testBit_two_pow];rw[List.contains_cons];by_cases h:x=j
  ·subst h;simp
  ·have b:(j==x)=false:=by simp;omega
   simp[h,b]
theorem BK(l:List Nat)(j:Nat):(dL l).testBit j=l.contains j:=by simp[dL,g5]
theorem HW(h:∀y∈m,y<n):dL m<2^n:=by
 refine Nat.lt_pow_two_of_testBit _ λi b=>?_;rw[BK];simp only[List.contains_eq_mem,decide_eq_false_iff_not];intro a;have:=h i a;omega
theorem NW(a:Nat)(h:a<2^64):IntKind.u64.wrap (a:Int)=(a:Int):=IntWalk.u64_in _ (by omega)
theorem Hq{b:Nat}(c:x<2^64)(a:b<2^64)(h:z (.int .u64 ((x&&& b:Nat):Int))):OB bK .u64 (.int .u64 (x:Int)) (.int .u64 (b:Int)) z:=by
 refine⟨_,_,rfl,rfl,?_⟩;have d:x&&& b<2^64:=Nat.and_lt_two_pow _ a;have:bK .u64 (x:Int) (b:Int)=((x&&& b:Nat):Int):=by
  rw[show bK .u64 (x:Int) (b:Int)=IntKind.u64.wrap ((BitVec.ofInt 64 (x:Int)&&& BitVec.ofInt 64 (b:Int)).toNat:Nat)from rfl,zF,zF];rw[BitVec.toNat_and,BitVec.toNat_ofNat,BitVec.toNat_ofNat,Nat.mod_eq_of_lt c,Nat.mod_eq_of_lt a];exact NW _ d
 rw[this];exact h
theorem Iu{j:Nat}{b:IntKind}(a:j<=64)(h:z (.int .u64 ((x>>>j:Nat):Int))):qU uM .u64 (.int .u64 (x:Int)) (.int b (j:Int)) z:=by
 refine⟨_,_,_,rfl,rfl,by omega,?_⟩;have:uM .u64 (x:Int) (j:Int)=((x>>>j:Nat):Int):=by
  simp only[uM,IntKind.bits,Int.toNat_natCast,show min j 64=j by omega];rw[show((2:Int)^j)=((2^j:Nat):Int)by simp,Nat.shiftRight_eq_div_pow,Int.fdiv_eq_ediv_of_nonneg _ (Int.natCast_nonneg _)];simp
 rw[this];exact h
theorem qW(a b:Nat)(c:a<2^63)(d:b<2^63)(w:World):CB prog 681 #[iv a,iv b] w (.bool (decide (bD a b=0))):=by
 apply je;unfold zY;refine VI c d ?_
 (with_reducible refine BA ?_)
 refine⟨?_,bA.refl _⟩
 congr 1
 rw[decide_eq_decide];omega
theorem eJ(m:Nat)(g:m<2^63)(w:World):nA prog 245 #[iv m] w λv b=>bA w b/\Ow w.heap.size KA b v (JA (MA (EE m))):=by
 apply I4;unfold zP;refine⟨λj h b=>∃(k:Nat) (v:Value),h=[v,iv k]/\j=64-k/\k<=63/\bA w b/\Ow w.heap.size KA b v (JA (MA (xI m k))),⟨64,0,_,rfl,rfl,by omega,bA.refl _,Ow.nil _ _ _⟩,?_⟩;rintro j h r ⟨k,v,rfl,rfl,s,c,a⟩
 (intro _;(try simp only[gx]))
 refine Dj (by omega) ?_
 (with_reducible refine jB ?_)
 refine dA (λe=>?_) (λe=>?_)
 ·have t:=Fn (m:=m) (k:=k) (Int.natCast_pos.1 e) g;refine gA (oI m k g (by omega) r) λx d=>?_;have a:=a.ext d;refine kB (λf=>?_) (λf=>?_)
  ·have u:=ZI m k;refine nT TH RH rfl a rfl (by rw[SA,WA];omega) (by rw[SA,WA];omega) (by have:=c.size;have:=d.size;omega) λq y p o=>?_;refine qA (by omega) ?_;refine⟨64-(k+1),by omega,k+1,q,rfl,rfl,by omega,(c.trans d).grown o (λi n=>(a.blk i n).1),?_⟩;rw[gK,f];simpa[JA,MA]using p
  ·refine qA (by omega) ?_;refine⟨64-(k+1),by omega,k+1,v,rfl,rfl,by omega,c.trans d,?_⟩;rw[gK,f];simpa using a
 ·rw[y5 g (Nat.eq_zero_of_not_pos λl=>e (Int.natCast_pos.2 l))]at a;exact⟨c,a⟩
theorem Uc(i:Q9 w v G)(k:G.length<=1099511627776):nA prog 510 #[v] w λc d=>bA w d/\Ow w.heap.size KA d c (JA G):=by
 apply re;unfold FY;refine PH λl m j a b=>?_;refine wo TH RH rfl b (i.ext a) (by simp[JA,vA]) (by simp[JA];omega) (by simp[JA];omega) (by omega) λc n h g=>?_;exact⟨a.grown g (λe f=>(b.blk e f).1),by simpa using h⟩
theorem CH{l:List Int}(d:Q9 w v l)(r:l.length<=1099511627776):nA prog 251 #[v] w λe f=>bA w f/\Ow w.heap.size KA f e (JA l):=by
 apply YP;unfold cI;obtain⟨g,o,rfl,s,q,j⟩:=id d;refine⟨trivial,rfl,kB (λa=>?_) (λa=>?_)⟩
 ·refine⟨bA.refl _,?_⟩;cases g with
  |some n=>simp[Gc]at a
  |none=>
   rcases j with h|⟨b,t,h,_⟩
   ·rw[h];exact Ow.nil _ _ _
   ·cases h
 ·refine PH λu x p a c=>?_;refine wo TH RH rfl c (Sl.ext d a) (by simp[JA,vA]) (by simp[JA];omega) (by simp[JA];omega) (by omega) λe y m k=>?_;exact⟨a.grown k (λb i=>(c.blk b i).1),by simpa using m⟩
theorem bA.ch{S:Nat->Prop}(h:bA w a):Ch S w a:=⟨h.os,h.tape,h.output,h.size,λk b _=>h.block k b⟩
theorem PI.ch{S:Nat->Prop}(h:PI x w a)(b:S x):Ch S w a:=⟨h.os,h.tape,h.output,by rw[h.size];exact Nat.le_refl _,λk _ c=>h.block k λe=>c (e▸b)⟩
theorem sE{S:Nat->Prop}{c:Option Nat}(h:w.grownBy a c)(g:∀b,c=some b->S b):Ch S w a:=
 ⟨h.os,h.tape,h.output,h.size,λk d f=>h.block k d λe=>f (g k e.symm)⟩
theorem Ch.trans{S':Nat->Prop}{e:World}(h:Ch g w a)(k:Ch S' a e)(l:∀b,S' b->g b∨w.heap.size<=b):Ch g w e:=
 ⟨k.os.trans h.os,k.tape.trans h.tape,k.output.trans h.output,Nat.le_trans h.size k.size,λi j d=>(k.block i (by have:=h.size;omega) λf=>by
  rcases l i f with c|c
  ·exact d c
  ·omega).trans (h.block i j d)⟩
theorem Ch.mono{S':Nat->Prop}(h:Ch g w a)(f:∀b,g b->S' b):Ch S' w a:=⟨h.os,h.tape,h.output,h.size,λk c d=>h.block k c λe=>d (f k e)⟩
theorem bA.thenCh{c:World}(h:bA w a)(k:Ch g a c)(f:∀b,g b->w.heap.size<=b):bA w c:=
 ⟨k.os.trans h.os,k.tape.trans h.tape,k.output.trans h.output,Nat.le_trans h.size k.size,λi e=>(k.block i (by have:=h.size;omega) λd=>by have:=f i d;omega).trans (h.block i e)⟩
theorem Ch.toExt(k:Ch g w a)(c:∀b,g b->w.heap.size<=b):bA w a:=(bA.refl w).thenCh k c
theorem GA.ch{S:Nat->Prop}(h:GA u w x y)(k:Ch S w a)(b:¬S x):GA u a x y:=by
 unfold GA at*;rw[k.block x (OE h) b];exact h
theorem Ow.ch{S:Nat->Prop}(h:Ow x u w v y)(m:Ch S w a)(l:∀c,v.ownBlock=some c-> ¬S c):Ow x u a v y:=by
 obtain⟨b,h|⟨g,f,i,e,k,d,j⟩⟩:=h
 ·exact⟨b,.inl h⟩
 ·exact⟨b,.inr ⟨g,f,i,e,k,by rw[m.block g (OE d) (l g (by rw[e];rfl))];exact d,j⟩⟩
theorem Ow.cell(h:Ow x u w v y):vA v=true:=by
 obtain⟨_,h|⟨g,b,c,a,_⟩⟩:=h
 ·rw[h.1];rfl
 ·rw[a];rfl
theorem Ow.pair(h:Ow x u w v y)(n:Int):∀b∈(#[iv n,v]:Array Value).toList,vA b=true:=by
 intro b a;simp at a;rcases a with rfl|rfl
 ·rfl
 ·exact h.cell
theorem Ow.ty(h:Ow x u w v y)(a:v.ownBlock=some n):∃b,w.heap[n]?=some (.cells b u (0,0)):=by
 obtain⟨_,h|⟨g,e,b,d,i,c,f⟩⟩:=h
 ·rw[h.1]at a;cases a
 ·rw[d]at a;cases a;exact⟨b,c⟩
theorem Ow.ne_blk(h:Ow x u w v y)(a:GA H w n J)(d:u≠H):v.ownBlock≠some n:=by
 intro c;obtain⟨e,b⟩:=h.ty c;unfold GA at a;rw[b]at a;injection a with a
 injection a with _ a _
 exact d a
theorem GA.ne_blk(h:GA u w x y)(a:GA H w n J)(b:u≠H):x≠n:=by
 rintro rfl;unfold GA at h a;rw[h]at a;injection a with a
 injection a with _ a _
 exact b a
theorem qt{b:IntKind}(n:Ow x u w v (y++[i]))(h:∀v',v'.ownBlock=v.ownBlock->Ow x u w v' y->z v'):
  qP 1 v none (some (.int b (y.length:Int))) z:=by
 obtain⟨p,k|⟨g,a,d,o,l,m,e,f,j,c⟩⟩:=n
 ·simp at k
 ·subst o;rw[List.length_append,List.length_singleton]at e c;refine⟨_,_,_,0,y.length,rfl,⟨b,rfl⟩,rfl,Nat.zero_le _,by omega,?_⟩;have:(if a=0 then some (⟨g,0,none⟩:Addr)else(some (⟨g,0,none⟩:Addr)).map (·.add (0*1)))=some ⟨g,0,none⟩:=by
   split
   ·rfl
   ·simp[Addr.add]
  rw[this];refine h _ rfl ⟨by simp,.inr ⟨g,a,d,by simp,l,m,by omega,f,j,?_⟩⟩;have:=congrArg (List.take y.length) c;rw[List.take_take,List.take_left]at this;rw[Nat.mul_one]at this⊢;rw[show min y.length (y.length+1)=y.length by omega]at this;exact this
theorem sh{j:Nat}{m:IntKind}(d:Ow x u w v y)(o:j<y.length)
  (k:∀b,v.ownBlock=some b->(∀a c,c.length=y.length->Ow x u a v c->a.cell? ⟨b,j,none⟩=c[j]?/\a.frozen? ⟨b,j,none⟩=false/\ ∀e,Ow x u (a.setCell ⟨b,j,none⟩ e) v (c.set j e))->z (.pointer (some ⟨b,j,none⟩))):
  wA 1 v (.int m (j:Int)) z:=by
 obtain⟨C,t|⟨g,i,n,l,A,B,p,q,r,s⟩⟩:=d
 ·omega
 ·subst l;refine Ke (j:=j) (by omega) ?_;rw[Nat.zero_add];refine k g rfl λa c h d=>?_;have f:a.ownsRow x u 1 (.slice (some ⟨g,0,none⟩) y.length i) y.length c:=by
   unfold Ow at d;rw[h]at d;exact d
  refine⟨?_,?_,λe=>?_⟩
  ·exact f.cellAt j (by omega)
  ·exact f.frozenAt j
  ·have:=f.stored j e;unfold Ow;rw[List.length_set,h];exact this.1
theorem sB(T:Bool)(a:World)(h:∀J:List Value->World->Prop,(∀w4,bA a w4->J [.bool T] w4)->X J)(hK:∀w4,bA a w4->S [.bool T] w4):jn X S:=h S hK
def qf(w:World)(v:Value)(a:List Nat):Prop:=Sl w v (a.map λb:Nat=>Value.int .u8 ((b:Nat):Int))/\ ∀b∈a,b<256
theorem qf.ext(h:qf w v m)(b:bA w a):qf a v m:=⟨h.1.ext b,h.2⟩
theorem qf.len(h:qf w v m):m.length<=9223372036854775807:=by have:=h.1.len;rwa [List.length_map]at this
theorem zc(a:qf w v m)(h:z (iv (m.length:Nat))):lA v z:=XC a.1 (by rw[List.length_map];exact h)
theorem Xs{b:IntKind}(c:qf w v m)(a:n<m.length)(h:∀p x,x<256->w.cell? p=some (.int .u8 ((x:Nat):Int))->z (.pointer (some p))):wA 1 v (.int b (n:Int)) z:=by
 refine pP c.1 (by omega) (by rw[List.length_map];omega) λp d=>h p m[n] (c.2 _ (List.getElem_mem a)) ?_;rw[d,Int.toNat_natCast,List.getElem?_map,List.getElem?_eq_getElem a];rfl
theorem rg(z:Int):∃m:Nat,IntKind.u64.wrap z=(m:Int)/\m<2^64:=by
 have h:0<=IntKind.u64.wrap z/\IntKind.u64.wrap z<18446744073709551616:=by
  simp[IntKind.wrap,IntKind.bits,IntKind.signed];omega
 exact⟨(IntKind.u64.wrap z).toNat,by omega,by omega⟩
theorem Cj{b:Int}(h:∀m:Nat,m<2^64->z (.int .u64 (m:Int))):iY .u64 (.int .u64 o) (.int .u64 b) z:=by
 obtain⟨m,e,a⟩:=rg (o*b);exact⟨_,_,rfl,rfl,by rw[e];exact h m a⟩
theorem RV{b:Int}(h:∀m:Nat,m<2^64->z (.int .u64 (m:Int))):oA .u64 (.int .u64 o) (.int .u64 b) z:=by
 obtain⟨m,e,a⟩:=rg (o+b);exact⟨_,_,rfl,rfl,by rw[e];exact h m a⟩
structure Src(e:TypeId)(w0:World)(vc:Value)(b:Nat)(w:World):Prop where
 ext:bA w0 w
 lo:w0.heap.size<=b
 blk:∃(at_ hash:Nat),GA e w b [vc,iv at_,.int .u64 (hash:Int)]/\at_<=9223372036854775807/\hash<2^64
theorem Src.later{c:World}(h:Src u w v x a)(b:bA a c):Src u w v x c:=by
 obtain⟨e,f,d,j,g,i⟩:=h;exact⟨e.trans b,f,d,j,g.ext b,i⟩
theorem Src.ch{b:World}{S:Nat->Prop}(h:Src u w v x a)(k:Ch S a b)(m:¬S x)(j:∀c,S c->w.heap.size<=c):Src u w v x b:=by
 obtain⟨e,f,d,l,g,i⟩:=h;exact⟨e.thenCh k j,f,d,l,g.ch k m,i⟩
theorem Src.lt(h:Src u w v x a):x<a.heap.size:=by
 obtain⟨_,_,_,_,b,_⟩:=h;exact b.lt
def Yu(P:Program)(f:FuncId)(c:Array Value)(e:TypeId)(h:World)(g:Value)(b:Nat)(w:World)(Q:Value->World->Prop):Prop:=
 nA P f c w λv a=>Q v a/\Src e h g b a/\Ch (λd=>d=b) w a
theorem uA(s:qf w v m){b:Nat}(r:Src u w v b a)(n:Int):
  Yu prog 23 #[.pointer (some ⟨b,0,none⟩),iv n] u w v b a λQ _=>∃x:Nat,Q=iv x/\(1<=n->(x:Int)<n)/\(n<1->x=0):=by
 apply Wa;unfold MU;have X:=s.len
 (with_reducible refine jB ?_)
 refine dA (λh=>⟨⟨0,rfl,λV=>by omega,λ_=>rfl⟩,r,(bA.refl a).ch⟩) (λhn=>?_);obtain⟨L,i,e,W,H,M,Y⟩:=r
 (with_reducible refine bB ?_;refine pB ?_);refine mA (by assumption) (by first|rfl|simp) ?_
 refine Cj λm1 _=>?_;refine RV λd p=>?_
 (with_reducible refine bB ?_;refine pB ?_)
 refine QH H (by simp) rfl λl=>?_;have B:=PI.setCell a b 2 (.int .u64 (d:Int));have o:=L.upd B i;generalize a.setCell ⟨b,2,none⟩ (.int .u64 (d:Int))=T at*;have l:GA u T b [v,iv e,.int .u64 (d:Int)]:=l;have t:=s.ext o
 (with_reducible refine bB ?_;refine pB ?_);refine mA (by assumption) (by first|rfl|simp) ?_
 refine Iu (j:=33) (by omega) ?_;refine Hq (b:=16777215) (Nat.lt_of_le_of_lt (Nat.shiftRight_le _ _) p) (by omega) ?_;have Z:d>>>33&&& 16777215<=16777215:=Nat.and_le_right;generalize d>>>33&&& 16777215=x at*;refine BR (by omega) ?_
 (with_reducible refine bB ?_;refine pB ?_);refine mA (by assumption) (by first|rfl|simp) ?_;(with_reducible refine bB ?_;refine pB ?_);refine mA (by assumption) (by first|rfl|simp) ?_
 refine zc t ?_
 (with_reducible refine jB ?_)
 intro D f;have q:=l.ext f;have N:=t.ext f;have z:Ch (λc=>c=b) a D:=(B.ch (S:=λc=>c=b) rfl).trans (f.ch (S:=λ_=>False)) (λ_ h=>h.elim);have A:∀(y:Nat) (g:World),y<=16777470->Src u w v b g->Ch (λc=>c=b) a g->Fi .i64 (iv y) (iv n) λR=>(∃x:Nat,R=iv x/\(1<=n->(x:Int)<n)/\(n<1->x=0))/\Src u w v b g/\Ch (λc=>c=b) a g:=λy g P K O=>by
  refine Rq ⟨by omega,by omega⟩ ⟨⟨((y:Int)%n).toNat,?_,λ_=>?_,λh=>by omega⟩,K,O⟩
  ·have:=Int.emod_nonneg (y:Int) (show n≠0 by omega);rw[Int.toNat_of_nonneg this]
  ·have:=Int.emod_nonneg (y:Int) (show n≠0 by omega);have:=Int.emod_lt_of_pos (y:Int) (show 0<n by omega);omega
 refine Ji ?_;refine dA (λG=>?_) (λG=>?_)
 ·(with_reducible refine bB ?_;refine pB ?_);refine mA (by assumption) (by first|rfl|simp) ?_;(with_reducible refine bB ?_;refine pB ?_);refine mA (by assumption) (by first|rfl|simp) ?_
  refine Xs N (by omega) λaa y P hp=>?_
  (with_reducible refine DD (by assumption) ?_)
  refine BR (by omega) ?_;refine qA (by omega) ?_;intro U k;have I:=q.ext k
  (with_reducible refine bB ?_;refine pB ?_);refine mA (by assumption) (by first|rfl|simp) ?_;refine qA (by omega) ?_;(with_reducible refine bB ?_;refine pB ?_)
  refine QH I (by simp) rfl λJ=>?_;have C:=PI.setCell U b 1 (iv ((e:Int)+1));have E:(x:Int)+(y:Int)=((x+y:Nat):Int):=by omega
  have F:(e:Int)+1=((e+1:Nat):Int):=by omega
  rw[E]
  (intro _;(try simp only[gx]))
  refine A (x+y) _ (by omega) ⟨((o.trans f).trans k).upd C i,i,e+1,d,?_,by omega,p⟩ ((z.trans (k.ch (S:=λ_=>False)) (λ_ h=>h.elim)).trans (C.ch (S:=λc=>c=b) rfl) (λ_ h=>.inl h));rw[<-F];exact J
 ·(intro _;(try simp only[gx]))
  exact A x D (by omega) ⟨o.trans f,i,e,d,q,M,p⟩ z
theorem YZ(s:qf w v m){b:Nat}(r:Src u w v b a)(n:Int):
  Yu prog 13 #[.pointer (some ⟨b,0,none⟩),iv n] u w v b a λQ _=>∃x:Nat,Q=iv x/\(1<=n->(x:Int)<n)/\(n<1->x=0):=by
 apply K1;unfold mO;have X:=s.len
 (with_reducible refine jB ?_)
 refine dA (λh=>⟨⟨0,rfl,λV=>by omega,λ_=>rfl⟩,r,(bA.refl a).ch⟩) (λhn=>?_);obtain⟨L,i,e,W,H,M,Y⟩:=r
 (with_reducible refine bB ?_;refine pB ?_);refine mA (by assumption) (by first|rfl|simp) ?_
 refine Cj λm1 _=>?_;refine RV λd p=>?_
 (with_reducible refine bB ?_;refine pB ?_)
 refine QH H (by simp) rfl λl=>?_;have B:=PI.setCell a b 2 (.int .u64 (d:Int));have o:=L.upd B i;generalize a.setCell ⟨b,2,none⟩ (.int .u64 (d:Int))=T at*;have l:GA u T b [v,iv e,.int .u64 (d:Int)]:=l;have t:=s.ext o
 (with_reducible refine bB ?_;refine pB ?_);refine mA (by assumption) (by first|rfl|simp) ?_
 refine Iu (j:=33) (by omega) ?_;refine Hq (b:=16777215) (Nat.lt_of_le_of_lt (Nat.shiftRight_le _ _) p) (by omega) ?_;have Z:d>>>33&&& 16777215<=16777215:=Nat.and_le_right;generalize d>>>33&&& 16777215=x at*;refine BR (by omega) ?_
 (with_reducible refine bB ?_;refine pB ?_);refine mA (by assumption) (by first|rfl|simp) ?_;(with_reducible refine bB ?_;refine pB ?_);refine mA (by assumption) (by first|rfl|simp) ?_
 refine zc t ?_
 (with_reducible refine jB ?_)
 intro D f;have q:=l.ext f;have N:=t.ext f;have z:Ch (λc=>c=b) a D:=(B.ch (S:=λc=>c=b) rfl).trans (f.ch (S:=λ_=>False)) (λ_ h=>h.elim);have A:∀(y:Nat) (g:World),y<=16777470->Src u w v b g->Ch (λc=>c=b) a g->Fi .i64 (iv y) (iv n) λR=>(∃x:Nat,R=iv x/\(1<=n->(x:Int)<n)/\(n<1->x=0))/\Src u w v b g/\Ch (λc=>c=b) a g:=λy g P K O=>by
  refine Rq ⟨by omega,by omega⟩ ⟨⟨((y:Int)%n).toNat,?_,λ_=>?_,λh=>by omega⟩,K,O⟩
  ·have:=Int.emod_nonneg (y:Int) (show n≠0 by omega);rw[Int.toNat_of_nonneg this]
  ·have:=Int.emod_nonneg (y:Int) (show n≠0 by omega);have:=Int.emod_lt_of_pos (y:Int) (show 0<n by omega);omega
 refine Ji ?_;refine dA (λG=>?_) (λG=>?_)
 ·(with_reducible refine bB ?_;refine pB ?_);refine mA (by assumption) (by first|rfl|simp) ?_;(with_reducible refine bB ?_;refine pB ?_);refine mA (by assumption) (by first|rfl|simp) ?_
  refine Xs N (by omega) λaa y P hp=>?_
  (with_reducible refine DD (by assumption) ?_)
  refine BR (by omega) ?_;refine qA (by omega) ?_;intro U k;have I:=q.ext k
  (with_reducible refine bB ?_;refine pB ?_);refine mA (by assumption) (by first|rfl|simp) ?_;refine qA (by omega) ?_;(with_reducible refine bB ?_;refine pB ?_)
  refine QH I (by simp) rfl λJ=>?_;have C:=PI.setCell U b 1 (iv ((e:Int)+1));have E:(x:Int)+(y:Int)=((x+y:Nat):Int):=by omega
  have F:(e:Int)+1=((e+1:Nat):Int):=by omega
  rw[E]
  (intro _;(try simp only[gx]))
  refine A (x+y) _ (by omega) ⟨((o.trans f).trans k).upd C i,i,e+1,d,?_,by omega,p⟩ ((z.trans (k.ch (S:=λ_=>False)) (λ_ h=>h.elim)).trans (C.ch (S:=λc=>c=b) rfl) (λ_ h=>.inl h));rw[<-F];exact J
 ·(intro _;(try simp only[gx]))
  exact A x D (by omega) ⟨o.trans f,i,e,d,q,M,p⟩ z
theorem a6(a:qf w v m):nA prog 20 #[v] w λP o=>∃b,P= .pointer (some ⟨b,0,none⟩)/\Src 80 w v b o:=by
 apply Ta;unfold JU;have W:=a.len;refine zc a ?_;refine ZO (by omega) ?_;refine RV λi K=>?_;have N:∃c O d,v= .slice c O d:=by obtain⟨c,d,h,_⟩:=a.1;exact⟨c,_,d,h⟩
 obtain⟨j,n,l,rfl⟩:=N;refine GD (cs:=#[.slice j n l,iv 0,.int .u64 (i:Int)]) (by simp[Instr.fill,Value.cells]) ?_;refine xC λb Q V C e=>?_;have e:GA 80 Q b [.slice j n l,iv 0,.int .u64 (i:Int)]:=e;have g:w.heap.size<=b:=by omega
 refine MB (λk:Nat=>[iv k]) (λk o=>k<=4096/\Src 80 w (.slice j n l) b o) (λk=>4096-k) 0 rfl ⟨Nat.zero_le _,C,g,0,i,e,by omega,K⟩ ?_;rintro k p T ⟨Y,u⟩ G;have y:=a.ext u.ext
 (intro _;(try simp only[gx]))
 refine sB (decide (k<m.length)&&decide (k<4096)) p (λS t=>?_) (λw5 q=>?_)
 ·refine zc y ?_
  (with_reducible refine jB ?_)
  refine dA (λh=>?_) (λh=>?_)
  ·(with_reducible refine jB ?_)
   have:=t p (bA.refl _);rw[decide_eq_true (show k<m.length by omega),Bool.true_and]at this;have B:decide ((k:Int)<4096)=decide (k<4096):=decide_eq_decide.2 (by omega);rw[B];exact this
  ·have:=t p (bA.refl _);rw[decide_eq_false (show¬k<m.length by omega),Bool.false_and]at this;exact this
 ·have x:=u.later q;have J:=y.ext q
  (intro _;(try simp only[gx]))
  refine kB (λf=>?_) (λf=>?_)
  ·rw[Bool.and_eq_true,decide_eq_true_eq,decide_eq_true_eq]at f;obtain⟨H,_,A,U,D,I,X⟩:=x
   (with_reducible refine bB ?_;refine pB ?_);refine mA (by assumption) (by first|rfl|simp) ?_
   refine Cj λm1 _=>?_;refine Xs J f.1 λaa ab hy Z=>?_
   (with_reducible refine DD (by assumption) ?_)
   refine ZO (by omega) ?_;refine RV λm2 _=>?_;refine RV λz L=>?_
   (with_reducible refine bB ?_;refine pB ?_)
   intro R r;have E:=D.ext r;refine QH E (by simp) rfl λF=>?_;have M:=PI.setCell R b 2 (.int .u64 (z:Int));intro w8 s;refine qA (by omega) ?_;exact G (k+1) _ ⟨by omega,((H.trans r).upd M g).trans s,g,A,z,GA.ext F s,I,L⟩ (by omega)
  ·exact⟨b,rfl,x⟩
abbrev jA:=List UInt8
theorem Am(a b:jA):(a==b)=decide (a=b):=by rw[Bool.eq_iff_iff,beq_iff_eq,decide_eq_true_eq]
abbrev sv(l:jA):Value:=.string ⟨l.toArray⟩
theorem dH(l:jA):(⟨l.toArray⟩:ByteArray).size=l.length:=by simp[ByteArray.size]
section
variable{P:Program}{w:World}
theorem HD{s:jA}(h:z (iv (s.length:Nat))):rD (sv s) z:=⟨_,rfl,by rw[dH];exact h⟩
theorem Hp{l:jA}{j:Nat}{b:IntKind}(a:j<l.length)(h:z (.int .u8 (((l.getD j 0).toNat:Nat):Int))):sm (sv l) (.int b (j:Int)) z:=by
 refine⟨_,b,_,l[j],rfl,rfl,by omega,?_,?_⟩
 ·rw[Int.toNat_natCast];show(⟨l.toArray⟩:ByteArray)[j]?=_;have:j<(⟨l.toArray⟩:ByteArray).size:=by rw[dH];exact a
  rw[getElem?_pos (⟨l.toArray⟩:ByteArray) j this];rfl
 ·have:l.getD j 0=l[j]:=by simp[List.getD_eq_getElem?_getD,a]
  rw[<-this];exact h
theorem B0(l:jA)(i j:Nat):(⟨l.toArray⟩:ByteArray).extract i j=⟨((l.drop i).take (j-i)).toArray⟩:=by
 apply ByteArray.ext;rw[ByteArray.data_extract];apply Array.ext';simp[List.extract_eq_take_drop]
theorem yO{s:jA}{b:IntKind}(a:x<=s.length)(h:z (sv (s.drop x))):yM (sv s) (some (.int b (x:Int))) none z:=by
 refine⟨_,x,s.length,rfl,by rw[dH];rfl,⟨b,rfl⟩,a,by rw[dH];exact Nat.le_refl _,?_⟩;rw[B0,List.take_of_length_le (by simp)];exact h
theorem Cc{s:jA}{b:IntKind}(a:x<=s.length)(h:z (sv (s.take x))):yM (sv s) none (some (.int b (x:Int))) z:=by
 refine⟨_,0,x,rfl,⟨b,rfl⟩,rfl,Nat.zero_le _,by rw[dH];exact a,?_⟩;rw[B0];exact h
theorem Bc{l:jA}{i j:Nat}{b a:IntKind}(c:i<=j)(d:j<=l.length)(h:z (sv ((l.drop i).take (j-i)))):yM (sv l) (some (.int b (i:Int))) (some (.int a (j:Int))) z:=by
 refine⟨_,i,j,rfl,⟨a,rfl⟩,⟨b,rfl⟩,c,by rw[dH];exact d,?_⟩;rw[B0];exact h
theorem vD{a b:jA}(c:a.length+b.length<=9223372036854775807)(h:z (sv (a++b))):xA .add (sv a) (sv b) z:=by
 refine⟨_,_,_,rfl,rfl,?_,h⟩;have:¬((((⟨a.toArray⟩:ByteArray).size+(⟨b.toArray⟩:ByteArray).size:Nat):Int)>IntKind.i64.max):=by
  rw[dH,dH];show¬(_>(9223372036854775807:Int));omega
 simp only[Op.stringOp,if_neg this,ByteArray.mk_append_mk];rfl
theorem yB{s b:jA}(h:z (.bool (decide (s=b)))):xA .eql (sv s) (sv b) z:=by
 refine⟨_,_,_,rfl,rfl,?_,h⟩;simp only[Op.stringOp,ByteArray.toList_mk];show Sem.pure _=Sem.pure _
 congr 2
 exact Am s b
theorem j5{s b:jA}(h:z (.bool (decide (¬s=b)))):xA .neq (sv s) (sv b) z:=by
 refine⟨_,_,_,rfl,rfl,?_,h⟩;simp only[Op.stringOp,ByteArray.toList_mk];show Sem.pure _=Sem.pure _;rw[decide_not]
 congr 2
 rw[Am]
abbrev wC(a b:jA):Bool:=Op.bytesLess a b
theorem Gv{s Y:jA}(h:z (.bool (wC s Y))):xA .lss (sv s) (sv Y) z:=by
 refine⟨_,_,_,rfl,rfl,?_,h⟩;simp only[Op.stringOp,ByteArray.toList_mk];rfl
theorem Hx{s Y:jA}(h:z (.bool (wC s Y||s==Y))):xA .leq (sv s) (sv Y) z:=by
 refine⟨_,_,_,rfl,rfl,?_,h⟩;simp only[Op.stringOp,ByteArray.toList_mk];rfl
theorem Gx{s Y:jA}(h:z (.bool !(wC s Y))):xA .geq (sv s) (sv Y) z:=by
 refine⟨_,_,_,rfl,rfl,?_,h⟩;simp only[Op.stringOp,ByteArray.toList_mk];rfl
end
section
variable{w:World}
theorem Ju{b:IntKind}(k:Sl w v y)(j:x<=y.length)(h:∀v',Sl w v' (y.take x)->z v'):qP 1 v none (some (.int b (x:Int))) z:=by
 obtain⟨e,c,rfl,m,n,g⟩:=k;refine⟨e,y.length,c,0,x,rfl,⟨b,rfl⟩,rfl,Nat.zero_le _,by omega,?_⟩;have a:(y.take x).length=x:=by rw[List.length_take];omega
 refine h _ ⟨_,c-0,by rw[a,Nat.sub_zero],by rw[a];omega,by omega,?_⟩;cases x with
 |zero=>exact .inl rfl
 |succ x=>
  rcases g with rfl|⟨f,o,rfl,i⟩
  ·simp at j
  ·refine .inr ⟨f,o,?_,λl d=>?_⟩
   ·split
    ·rfl
    ·simp[Addr.add]
   ·rw[a]at d;rw[i l (by omega),List.getElem?_take,if_pos d]
theorem Qm{b:IntKind}(q:Sl w v y)(p:x<=y.length)(j:∀v',Sl w v' (y.drop x)->z v'):qP 1 v (some (.int b (x:Int))) none z:=by
 obtain⟨f,d,rfl,k,r,l⟩:=q;refine⟨f,y.length,d,x,y.length,rfl,rfl,⟨b,rfl⟩,p,k,?_⟩;have c:(y.drop x).length=y.length-x:=by rw[List.length_drop]
 refine j _ ⟨_,d-x,by rw[c],by rw[c];omega,by omega,?_⟩;rcases l with rfl|⟨g,o,rfl,m⟩
 ·simp
 ·by_cases e:y.drop x=[]
  ·exact .inl e
  ·have s:x<y.length:=by
    rcases Nat.lt_or_ge x y.length with a|a
    ·exact a
    ·exact absurd (List.drop_eq_nil_of_le a) e
   refine .inr ⟨g,o+x,?_,λi n=>?_⟩
   ·rw[if_neg (by omega)];simp only[Option.map_some,Nat.mul_one,Addr.add];split
    ·rename_i h;simp[h]
    ·rfl
   ·rw[c]at n;rw[show o+x+i=o+(x+i)by omega,m (x+i) (by omega),List.getElem?_drop]
end
theorem WB(C:List Value->World->Prop)(h:∀J:List Value->World->Prop,(∀xs w,C xs w->J xs w)->X J)(hK:∀xs w,C xs w->S xs w):jn X S:=h S hK
theorem YC:∀a:jA,wC a a=false
 |[]=>rfl
 |x::a=>by simp[wC,Op.bytesLess];exact YC a
theorem CM:∀{a b c:jA},wC a b=true->wC b c=true->wC a c=true
 |_,[],_,h,_=>by cases ‹jA› <;>simp[wC,Op.bytesLess]at h
 |_,_::_,[],_,h=>by simp[wC,Op.bytesLess]at h
 |[],_::_,_::_,_,_=>by simp[wC,Op.bytesLess]
 |x::a,y::b,z::c,h,k=>by
  simp only[wC,Op.bytesLess,Bool.or_eq_true,decide_eq_true_eq,Bool.and_eq_true,beq_iff_eq]at h k⊢;rcases h with h|⟨rfl,h⟩
  ·rcases k with k|⟨rfl,k⟩
   ·exact .inl (UInt8.lt_trans h k)
   ·exact .inl h
  ·rcases k with k|⟨rfl,k⟩
   ·exact .inl k
   ·exact .inr ⟨rfl,CM h k⟩
theorem qQ:∀a b:jA,wC a b=true∨a=b∨wC b a=true
 |[],[]=>.inr (.inl rfl)
 |[],_::_=>.inl rfl
 |_::_,[]=>.inr (.inr rfl)
 |x::a,y::b=>by
  simp only[wC,Op.bytesLess,Bool.or_eq_true,decide_eq_true_eq,Bool.and_eq_true,beq_iff_eq,List.cons.injEq];rcases UInt8.lt_or_lt_of_ne (a:=x) (b:=y)with h
  by_cases e:x=y
  ·subst e;rcases qQ a b with c|c|c
   ·exact .inl (.inr ⟨rfl,c⟩)
   ·exact .inr (.inl ⟨rfl,c⟩)
   ·exact .inr (.inr (.inr ⟨rfl,c⟩))
  ·rcases h e with c|c
   ·exact .inl (.inl c)
   ·exact .inr (.inr (.inl c))
theorem pQ{s Y:jA}(h:wC s Y=true):wC Y s=false:=by
 cases a:wC Y s
 ·rfl
 ·have:=CM h a;rw[YC]at this;cases this
def It(w:World)(k:Nat)(l:jA)(a:Nat):Prop:=w.heap[k]?=some (.stringIter ⟨l.toArray⟩ a)
theorem It.ext{l:jA}(h:It w x l n)(b:bA w a):It a x l n:=by
 unfold It at*;rw[Below.block b x (OE h)];exact h
theorem It.ch{S:Nat->Prop}{s:jA}(h:It w x s n)(b:Ch S w a)(c:¬S x):It a x s n:=by
 unfold It at*;rw[b.block x (OE h) c];exact h
theorem g7(s:ByteArray)(i:Nat)(h:128<=(s.get! (i+0)).toNat):128<=(Utf8.decode s i).1/\1<=(Utf8.decode s i).2:=by
 simp only[Utf8.decode]
 repeat' split
 all_goals simp_all[Utf8.runeError]
 all_goals omega
section
variable{P:Program}{w:World}
theorem Qq{s:jA}(a:P.underlying u=some .string)
  (h:∀b w',b=w.heap.size/\w'.heap.size=b+1->bA w w'->It w' b s 0->t (.pointer (some ⟨b,0,none⟩)) w'):nD P (Instr.range u (sv s)) w t:=by
 refine⟨_,_,run_range_string w u _ a,h _ _ ⟨rfl,by simp[World.iter]⟩ (bA.alloc w _) ?_⟩;exact heap_alloc_new w _
theorem Nq{s:jA}(a:It w x s n)(b:s.length<=n)(h:t (.tuple #[.bool false]) w):nD P (Instr.next (.pointer (some ⟨x,0,none⟩)) true u) w t:=
 ⟨_,_,Lib.run_next_end_at w x _ n u a (by rw[dH];omega),h⟩
theorem Oq{s:jA}(h:It w x s n)(f:n<s.length)
  (i:∀(c d:Nat) w',1<=d->((s.getD n 0).toNat<128->c=(s.getD n 0).toNat/\d=1)->(128<=(s.getD n 0).toNat->128<=c)->c<=2147483647->PI x w w'->It w' x s (n+d)->t (.tuple #[.bool true,iv n,.int .i32 (c:Int)]) w'):
  nD P (Instr.next (.pointer (some ⟨x,0,none⟩)) true u) w t:=by
 have a:n<(⟨s.toArray⟩:ByteArray).size:=by rw[dH];exact f
 have g:(⟨s.toArray⟩:ByteArray).get! (n+0)=s.getD n 0:=by
  show(⟨s.toArray⟩:ByteArray).get! n=_;have:(⟨s.toArray⟩:ByteArray).get! n=s.toArray[n]!:=by simp[ByteArray.get!]
  rw[this];simp[List.getD_eq_getElem?_getD,f]
 have b:(⟨s.toArray⟩:ByteArray)[n]'a=s.getD n 0:=by
  have:(⟨s.toArray⟩:ByteArray)[n]'a=s.toArray[n]:=rfl;rw[this];simp[List.getD_eq_getElem?_getD,f]
 refine⟨_,_,Lib.run_next_any_at w x _ n u h a,?_⟩;refine i _ _ _ ?_ (λj=>?_) (λk=>?_) (decode_le _ _) ⟨rfl,rfl,rfl,Lib.iterAt_size _ _ _ _,λc l=>Lib.iterAt_other _ _ _ _ _ l⟩ (Lib.iterAt_heap w x _ n _ h)
 ·rcases Nat.lt_or_ge (s.getD n 0).toNat 128 with e|e
  ·rw[decode_ascii _ _ a (by rw[b];exact e)];exact Nat.le_refl _
  ·exact(g7 _ _ (by rw[g];exact e)).2
 ·rw[decode_ascii _ _ a (by rw[b];exact j),b];exact⟨rfl,rfl⟩
 ·exact(g7 _ _ (by rw[g];exact k)).1
end
def rB(k:Nat)(w:World)(v:Value)(n:Nat)(d:List Value):Prop:=
 d.length=n*k/\ ∃a c,v= .slice a n c/\n<=c/\c<=9223372036854775807/\(n=0∨ ∃b o,a=some ⟨b,o,none⟩/\ ∀i,i<n*k->w.cell? ⟨b,o+i,none⟩=d[i]?)
theorem rB.ext(h:rB x w v n y)(o:bA w a):rB x a v n y:=by
 obtain⟨e,c,d,f,g,j,k⟩:=h;refine⟨e,c,d,f,g,j,k.imp id λ⟨b,q,l,m⟩=>⟨b,q,l,λi p=>?_⟩⟩;have:=m i p;rw[List.getElem?_eq_getElem (by omega)]at this⊢;exact o.cell this
theorem rB.len(h:rB x w v n y):n<=9223372036854775807:=let⟨_,_,_,_,a,b,_⟩:=h;Nat.le_trans a b
theorem VB(a:rB x w v n y)(h:z (iv (n:Nat))):lA v z:=by
 obtain⟨_,b,c,rfl,_⟩:=a;exact⟨_,_,_,rfl,h⟩
theorem XD(b o i:Nat):(⟨b,o,none⟩:Addr).add i=⟨b,o+i,none⟩:=by
 simp only[Addr.add];split
 ·simp
 ·rfl
theorem Ys{f:Nat}{b:IntKind}(g:rB x w v n y)(c:f<n)
  (h:∀a o,(∀i,i<x->w.cell? ⟨a,o+i,none⟩=y[f*x+i]?)->z (.pointer (some ⟨a,o,none⟩))):wA x v (.int b (f:Int)) z:=by
 obtain⟨l,j,k,rfl,m,p,d⟩:=g;rcases d with rfl|⟨a,o,rfl,e⟩
 ·omega
 ·refine⟨_,_,_,_,_,rfl,rfl,by omega,by omega,?_⟩;rw[Int.toNat_natCast,XD];refine h a (o+f*x) λi q=>?_;rw[Nat.add_assoc];refine e _ ?_;have:(f+1)*x<=n*x:=Nat.mul_le_mul_right _ c;rw[Nat.add_mul,Nat.one_mul]at this;omega
def dB(k lo:Nat)(e:TypeId)(w:World)(v:Value)(n:Nat)(a:List Value):Prop:=w.ownsRow lo e k v n a
theorem dB.sl{f:Nat}{xs:List Value}(h:dB x n u w v f xs):rB x w v f xs:=by
 obtain⟨a,h|⟨g,b,l,k,_,i,c,d,m,e⟩⟩:=h
 ·obtain⟨rfl,rfl⟩:=h;exact⟨a,none,0,rfl,Nat.le_refl _,by omega,.inl rfl⟩
 ·refine⟨a,_,b,k,c,d,.inr ⟨g,0,rfl,λo j=>?_⟩⟩;simp only[Nat.zero_add,World.cell?,i];rw[<-e];simp only[Option.isSome_none,Bool.false_eq_true,if_false,List.getElem?_take];rw[if_pos j];simp
theorem dB.ext{f:Nat}(h:dB x n u w v f y)(j:bA w a):dB x n u a v f y:=by
 obtain⟨b,h|⟨g,d,e,l,k,c,i⟩⟩:=h
 ·exact⟨b,.inl h⟩
 ·exact⟨b,.inr ⟨g,d,e,l,k,by rw[Below.block j g (OE c)];exact c,i⟩⟩
theorem dB.mono{f:Nat}(h:dB x n u w v C y)(j:f<=n):dB x f u w v C y:=by
 obtain⟨a,h|⟨g,b,c,k,e,i,d⟩⟩:=h
 ·exact⟨a,.inl h⟩
 ·exact⟨a,.inr ⟨g,b,c,k,Nat.le_trans j e,i,d⟩⟩
theorem dB.nil(k a:Nat)(e:TypeId)(w:World):dB k a e w (.slice none 0 0) 0 []:=World.ownsRow_nil w a e k
theorem dB.blk{f:Nat}(h:dB x n u w v f y):∀c,v.ownBlock=some c->n<=c/\c<w.heap.size:=World.ownsRow.lt h
theorem dB.ch{S:Nat->Prop}{f:Nat}(h:dB x n u w v f y)(l:Ch S w a)(o:∀c,v.ownBlock=some c-> ¬S c):dB x n u a v f y:=by
 obtain⟨b,h|⟨g,i,j,e,m,d,k⟩⟩:=h
 ·exact⟨b,.inl h⟩
 ·exact⟨b,.inr ⟨g,i,j,e,m,by rw[l.block g (OE d) (o g (by rw[e];rfl))];exact d,k⟩⟩
theorem dB.grown{f:Nat}{b:Option Nat}(h:dB x n u w v f y)(c:w.grownBy a b)(d:v.ownBlock=none∨v.ownBlock≠b):dB x n u a v f y:=
 World.ownsRow.kept h c d
theorem dB.cell{f:Nat}(h:dB x n u w v f y):vA v=true:=by
 obtain⟨_,h|⟨g,b,c,a,_⟩⟩:=h
 ·rw[h.1];rfl
 ·rw[a];rfl
theorem dB.ty{f:Nat}(h:dB x n u w v f y)(a:v.ownBlock=some C):∃b,w.heap[C]?=some (.cells b u (0,0)):=by
 obtain⟨_,h|⟨g,e,b,d,j,c,i⟩⟩:=h
 ·rw[h.1]at a;cases a
 ·rw[d]at a;cases a;exact⟨b,c⟩
theorem dB.ne_blk{f:Nat}(h:dB x n u w v f y)(a:GA H w C J)(d:u≠H):v.ownBlock≠some C:=by
 intro c;obtain⟨e,b⟩:=h.ty c;unfold GA at a;rw[b]at a;injection a with a
 injection a with _ a _
 exact d a
theorem dB.ofBlk{k lo:Nat}(h:GA u w x y)(b:lo<=x)(a:y.length=n*k)(c:n<=9223372036854775807):dB k lo u w (.slice (some ⟨x,0,none⟩) n n) n y:=
 ⟨a,.inr ⟨x,n,y.toArray,rfl,b,h,Nat.le_refl _,c,by simpa using a,by rw[<-a];simp⟩⟩
theorem Ow.toK(h:Ow x u w v y):dB 1 x u w v y.length y:=h
theorem dB.toOw(h:dB 1 x u w v n y):Ow x u w v y:=by
 have:n=y.length:=by have:=h.1;omega
 subst this;exact h
section
variable{P:Program}{w:World}
theorem o7{e:TypeId}{f m:Nat}(q:P.underlying u=some (.slice e))(k:(P.info? e).map (λl=>(l.zero,l.size,l.bytes))=some (some v,n,f))(X:v.cells.size=n)(M:0<n)
  (p:dB n x e w i C y)(S:rB n w U m J)(V:∀a∈J,vA a=true)(G:(C+m)*f<=140737488355328)(O:C+m<=9223372036854775807)(N:x<=w.heap.size)
  (r:∀b g,dB n x e g b (C+m) (y++J)->w.grownBy g i.ownBlock->(b.ownBlock=i.ownBlock∨ ∃h,b.ownBlock=some h/\w.heap.size<=h)->t b g):nD P (Builtin.append_ #[u,u] H #[i,U]) w t:=by
 obtain⟨l,k,s⟩:=Option.map_eq_some_iff.1 k;simp only[Prod.mk.injEq]at s;obtain⟨Y,T,I⟩:=s;obtain⟨W,o,h,rfl,af,ae,L⟩:=S;have z:∀c:Addr,o=some c->(∀j a,J[j]?=some a->w.cell? (c.add j)=some a)->nD P (Builtin.append_ #[u,u] H #[i,.slice o m h]) w t:=by
  rintro c rfl R;obtain⟨b,g,B,D,E,_,F⟩:=run_append_own_at (P:=P) (w:=w) x u H e l v n f q k Y T I X M i C y p c m h J W R (λa d=>tN (V a d)) (by simpa[maxLen]using O) G N;exact⟨b,g,B,r b g D E (F.imp id λe=>⟨_,e,Nat.le_refl _⟩)⟩
 rcases L with rfl|⟨A,Z,rfl,K⟩
 ·have:J=[]:=List.length_eq_zero_iff.1 (by omega);subst this;cases o with
  |some c=>exact z c rfl (λj a d=>by simp at d)
  |none=>
   refine⟨i,w,?_,r i w (by simpa using p) (tc w _) (.inl rfl)⟩;rcases p.2 with⟨rfl,hn⟩|⟨ac,aa,ab,rfl,_,_,Q,_⟩
   ·simp[Builtin.append_,run_underlying q,sizeOf,typeInfo,k,Builtin.lenOf,Builtin.firstCells]
   ·simp[Builtin.append_,run_underlying q,sizeOf,typeInfo,k,Builtin.lenOf,Builtin.firstCells,Q,storeCells]
 ·refine z ⟨A,Z,none⟩ rfl λj a d=>?_;have hj:j<J.length:=(List.getElem?_eq_some_iff.1 d).1;rw[XD,K j (by omega),d]
end
theorem Z8(d:vA U=true)(a:vA v=true)(b:vA i=true)(h:∀c w',c=w.heap.size/\w'.heap.size=c+1->bA w w'->GA u w' c [v,i]->t (.slice (some ⟨c,0,none⟩) 2 2) w'):
  xB u (Value.cells U) 1 2 [(0,v),(1,i)] w t:=by
 refine⟨#[v,i],?_,h _ _ ⟨rfl,by simp⟩ (bA.alloc w _) (GA.new w #[v,i] u)⟩;rw[sA d];simp[Instr.fill,sA a,sA b,show Array.range 2=#[0,1]from rfl]
theorem Hw{z:Value}(e:vA z=true)(a:vA v=true)(b:vA i=true)(d:vA U=true)(h:∀c w',c=w.heap.size/\w'.heap.size=c+1->bA w w'->GA u w' c [v,i,U]->t (.slice (some ⟨c,0,none⟩) 3 3) w'):
  xB u (Value.cells z) 1 3 [(0,v),(1,i),(2,U)] w t:=by
 refine⟨#[v,i,U],?_,h _ _ ⟨rfl,by simp⟩ (bA.alloc w _) (GA.new w #[v,i,U] u)⟩;rw[sA e];simp[Instr.fill,sA a,sA b,sA d,show Array.range 3=#[0,1,2]from rfl]
theorem PX{y:Value}(h:∀b w',b=w.heap.size/\w'.heap.size=b+1->bA w w'->GA u w' b [U,y]->t (.slice (some ⟨b,0,none⟩) 1 1) w'):
  xB u (Value.cells (.agg #[v,i])) 2 1 [(0,.agg #[U,y])] w t:=by
 refine⟨#[U,y],?_,h _ _ ⟨rfl,by simp⟩ (bA.alloc w _) (GA.new w #[U,y] u)⟩;simp[Instr.fill,Value.cells,show Array.range 2=#[0,1]from rfl]
theorem tA{b:World}(h:Ch (λc=>c=x) w a)(k:Ch (λc=>c=x) a b):Ch (λc=>c=x) w b:=h.trans k λ_ h=>.inl h
theorem oB{b:World}(h:Ch (λc=>c=x) w a)(k:bA a b):Ch (λc=>c=x) w b:=h.trans (k.ch (S:=λ_=>False)) λ_ h=>h.elim
inductive Fm:Type
 |var (v:Nat):Fm
 |fls:Fm
 |and (a b:Fm):Fm
 |or (a b:Fm):Fm
 |imp (a b:Fm):Fm
 |box (a:Fm):Fm
 |dia (a:Fm):Fm
abbrev nd(k s:Nat):List Value:=[iv k,iv s]
def Fm.cells:Fm->List Value
 | .var v=>nd 0 v
 | .fls=>nd 1 0
 | .and a b=>nd 2 0++a.cells++b.cells
 | .or a b=>nd 3 0++a.cells++b.cells
 | .imp a b=>nd 4 0++a.cells++b.cells
 | .box a=>nd 5 0++a.cells
 | .dia a=>nd 6 0++a.cells
def Fm.size:Fm->Nat
 | .var _=>1
 | .fls=>1
 | .and a b=>1+a.size+b.size
 | .or a b=>1+a.size+b.size
 | .imp a b=>1+a.size+b.size
 | .box a=>1+a.size
 | .dia a=>1+a.size
theorem Fm.size_pos(a:Fm):1<=a.size:=by cases a<;>simp only[Fm.size]<;>omega
theorem Fm.cells_len:∀a:Fm,a.cells.length=a.size*2
 | .var _=>rfl
 | .fls=>rfl
 | .and a b=>by have:=a.cells_len;have:=b.cells_len;simp only[Fm.cells,Fm.size,nd,List.length_append,List.length_cons,List.length_nil];omega
 | .or a b=>by have:=a.cells_len;have:=b.cells_len;simp only[Fm.cells,Fm.size,nd,List.length_append,List.length_cons,List.length_nil];omega
 | .imp a b=>by have:=a.cells_len;have:=b.cells_len;simp only[Fm.cells,Fm.size,nd,List.length_append,List.length_cons,List.length_nil];omega
 | .box a=>by have:=a.cells_len;simp only[Fm.cells,Fm.size,nd,List.length_append,List.length_cons,List.length_nil];omega
 | .dia a=>by have:=a.cells_len;simp only[Fm.cells,Fm.size,nd,List.length_append,List.length_cons,List.length_nil];omega
theorem Fm.cells_cell:∀(c:Fm),∀u∈c.cells,vA u=true
 | .var _=>by simp[Fm.cells,nd,vA]
 | .fls=>by simp[Fm.cells,nd,vA]
 | .and c b=>by have d:=c.cells_cell;have e:=b.cells_cell;intro u a;simp only[Fm.cells,nd,List.mem_append,List.mem_cons,List.not_mem_nil,or_false]at a;rcases a with((rfl|rfl)|h)|h<;>first|rfl|exact d _ h|exact e _ h
 | .or c b=>by have d:=c.cells_cell;have e:=b.cells_cell;intro u a;simp only[Fm.cells,nd,List.mem_append,List.mem_cons,List.not_mem_nil,or_false]at a;rcases a with((rfl|rfl)|h)|h<;>first|rfl|exact d _ h|exact e _ h
 | .imp c b=>by have d:=c.cells_cell;have e:=b.cells_cell;intro u a;simp only[Fm.cells,nd,List.mem_append,List.mem_cons,List.not_mem_nil,or_false]at a;rcases a with((rfl|rfl)|h)|h<;>first|rfl|exact d _ h|exact e _ h
 | .box c=>by have d:=c.cells_cell;intro u a;simp only[Fm.cells,nd,List.mem_append,List.mem_cons,List.not_mem_nil,or_false]at a;rcases a with(rfl|rfl)|h<;>first|rfl|exact d _ h
 | .dia c=>by have d:=c.cells_cell;intro u a;simp only[Fm.cells,nd,List.mem_append,List.mem_cons,List.not_mem_nil,or_false]at a;rcases a with(rfl|rfl)|h<;>first|rfl|exact d _ h
abbrev FG:=jA×Bool
def tk(c:UInt8)(s:FG):Bool:=!s.2&&decide (s.1.head?=some c)
def nx(s:FG):FG:=(s.1.tail,false)
def ndd(c:UInt8)(s:FG):FG:=if tk c s then nx s else(s.1,true)
def prs:Nat->Nat->Fm->FG->Fm×FG
 |0,_,a,s=>(a,s)
 |n+1,0,_,s=>
  if tk 62 (prs n 1 .fls s).2 then(.imp (prs n 1 .fls s).1 (prs n 0 .fls (nx (prs n 1 .fls s).2)).1,(prs n 0 .fls (nx (prs n 1 .fls s).2)).2)
  else prs n 1 .fls s
 |n+1,1,_,s=>prs n 4 (prs n 2 .fls s).1 (prs n 2 .fls s).2
 |n+1,2,_,s=>prs n 5 (prs n 3 .fls s).1 (prs n 3 .fls s).2
 |n+1,3,_,s=>
  if tk 126 s then(.imp (prs n 3 .fls (nx s)).1 .fls,(prs n 3 .fls (nx s)).2)
  else if tk 91 s then(.box (prs n 3 .fls (ndd 93 (nx s))).1,(prs n 3 .fls (ndd 93 (nx s))).2)
  else if tk 60 s then(.dia (prs n 3 .fls (ndd 62 (nx s))).1,(prs n 3 .fls (ndd 62 (nx s))).2)
  else if tk 70 s then(.fls,nx s)
  else if tk 84 s then(.imp .fls .fls,nx s)
  else if tk 40 s then((prs n 0 .fls (nx s)).1,ndd 41 (prs n 0 .fls (nx s)).2)
  else if tk 112 s then(.var 0,nx s)
  else if tk 113 s then(.var 1,nx s)
  else if tk 114 s then(.var 2,nx s)
  else if tk 115 s then(.var 3,nx s)
  else if tk 116 s then(.var 4,nx s)
  else if tk 117 s then(.var 5,nx s)
  else(.fls,(s.1,true))
 |n+1,4,a,s=>if tk 124 s then prs n 4 (.or a (prs n 2 .fls (nx s)).1) (prs n 2 .fls (nx s)).2 else(a,s)
 |n+1,_,a,s=>if tk 38 s then prs n 5 (.and a (prs n 3 .fls (nx s)).1) (prs n 3 .fls (nx s)).2 else(a,s)
theorem wi{d:UInt8}{B:FG}(h:tk q B=true)(a:q≠d):tk d B=false:=by
 simp only[tk,Bool.and_eq_true,decide_eq_true_eq,Bool.not_eq_true']at h;simp only[tk,h.1,h.2,Bool.not_false,Bool.true_and,decide_eq_false_iff_not,Option.some.injEq];exact a
theorem Ur{B:FG}(h:tk q B=true):B.2=false:=by
 simp only[tk,Bool.and_eq_true,Bool.not_eq_true']at h;exact h.1
theorem Ln{B:FG}(h:tk q B=true):B.1=q::(nx B).1:=by
 simp only[tk,Bool.and_eq_true,decide_eq_true_eq]at h;obtain⟨l,b⟩:=B;cases l with
 |nil=>simp at h
 |cons x t=>simp at h;simp[nx,h.2]
theorem pC{B:FG}(h:tk q B=true):(nx B).1.length+1=B.1.length:=by rw[Ln h];simp[nx]
theorem aJ(c:UInt8)(s:FG):(ndd c s).1.length<=s.1.length:=by
 unfold ndd;split
 ·simp[nx]
 ·exact Nat.le_refl _
theorem Wf(n:Nat)(a:Fm)(s:FG):prs (n+1) 0 a s=if tk 62 (prs n 1 .fls s).2 then(.imp (prs n 1 .fls s).1 (prs n 0 .fls (nx (prs n 1 .fls s).2)).1,(prs n 0 .fls (nx (prs n 1 .fls s).2)).2)else prs n 1 .fls s:=by rw[prs]
theorem Xf(n:Nat)(a:Fm)(s:FG):prs (n+1) 1 a s=prs n 4 (prs n 2 .fls s).1 (prs n 2 .fls s).2:=by rw[prs]
theorem Yf(n:Nat)(a:Fm)(s:FG):prs (n+1) 2 a s=prs n 5 (prs n 3 .fls s).1 (prs n 3 .fls s).2:=by rw[prs]
theorem ig(n:Nat)(a:Fm)(s:FG):prs (n+1) 4 a s=if tk 124 s then prs n 4 (.or a (prs n 2 .fls (nx s)).1) (prs n 2 .fls (nx s)).2 else(a,s):=by rw[prs]
theorem od(n k:Nat)(a:Fm)(s:FG):prs (n+1) (k+5) a s=if tk 38 s then prs n 5 (.and a (prs n 3 .fls (nx s)).1) (prs n 3 .fls (nx s)).2 else(a,s):=by rw[prs]<;>omega
def vl(v:Nat):UInt8:=UInt8.ofNat (112+v)
theorem Zf{Q:Fm×FG->Prop}{r:Fm}{B:FG}(o:tk 126 B=true->Q (.imp (prs n 3 .fls (nx B)).1 .fls,(prs n 3 .fls (nx B)).2))
  (p:tk 91 B=true->Q (.box (prs n 3 .fls (ndd 93 (nx B))).1,(prs n 3 .fls (ndd 93 (nx B))).2))(q:tk 60 B=true->Q (.dia (prs n 3 .fls (ndd 62 (nx B))).1,(prs n 3 .fls (ndd 62 (nx B))).2))
  (s:tk 70 B=true->Q (.fls,nx B))(t:tk 84 B=true->Q (.imp .fls .fls,nx B))(u:tk 40 B=true->Q ((prs n 0 .fls (nx B)).1,ndd 41 (prs n 0 .fls (nx B)).2))
  (a:∀v,v<6->tk (vl v) B=true->Q (.var v,nx B))(w:tk 126 B=false->tk 91 B=false->tk 60 B=false->tk 70 B=false->tk 84 B=false->tk 40 B=false->(∀v,v<6->tk (vl v) B=false)->Q (.fls,(B.1,true))):Q (prs (n+1) 3 r B):=by
 rw[prs];by_cases b:tk 126 B=true
 ·rw[if_pos b];exact o b
 rw[if_neg b];by_cases c:tk 91 B=true
 ·rw[if_pos c];exact p c
 rw[if_neg c];by_cases d:tk 60 B=true
 ·rw[if_pos d];exact q d
 rw[if_neg d];by_cases e:tk 70 B=true
 ·rw[if_pos e];exact s e
 rw[if_neg e];by_cases f:tk 84 B=true
 ·rw[if_pos f];exact t f
 rw[if_neg f];by_cases g:tk 40 B=true
 ·rw[if_pos g];exact u g
 rw[if_neg g];by_cases h:tk 112 B=true
 ·rw[if_pos h];exact a 0 (by omega) h
 rw[if_neg h];by_cases i:tk 113 B=true
 ·rw[if_pos i];exact a 1 (by omega) i
 rw[if_neg i];by_cases j:tk 114 B=true
 ·rw[if_pos j];exact a 2 (by omega) j
 rw[if_neg j];by_cases k:tk 115 B=true
 ·rw[if_pos k];exact a 3 (by omega) k
 rw[if_neg k];by_cases l:tk 116 B=true
 ·rw[if_pos l];exact a 4 (by omega) l
 rw[if_neg l];by_cases m:tk 117 B=true
 ·rw[if_pos m];exact a 5 (by omega) m
 rw[if_neg m];refine w (Bool.eq_false_iff.2 b) (Bool.eq_false_iff.2 c) (Bool.eq_false_iff.2 d) (Bool.eq_false_iff.2 e) (Bool.eq_false_iff.2 f) (Bool.eq_false_iff.2 g) λv x=>?_;have:v=0∨v=1∨v=2∨v=3∨v=4∨v=5:=by omega
 rcases this with rfl|rfl|rfl|rfl|rfl|rfl
 ·exact Bool.eq_false_iff.2 h
 ·exact Bool.eq_false_iff.2 i
 ·exact Bool.eq_false_iff.2 j
 ·exact Bool.eq_false_iff.2 k
 ·exact Bool.eq_false_iff.2 l
 ·exact Bool.eq_false_iff.2 m
theorem yE:∀(n f:Nat) (a:Fm) (s:FG),(prs n f a s).1.size+3*(prs n f a s).2.1.length<=a.size+3*s.1.length
 |0,_,_,_=>Nat.le_refl _
 |n+1,0,a,s=>by
  have d:=a.size_pos;have b:=yE n 1 .fls s;have c:=yE n 0 .fls (nx (prs n 1 .fls s).2);have e:Fm.fls.size=1:=rfl;rw[Wf];by_cases h:tk 62 (prs n 1 .fls s).2=true
  ·rw[if_pos h];have:=pC h;show 1+_+_+3*(prs n 0 .fls (nx (prs n 1 .fls s).2)).2.1.length<=_;omega
  ·rw[if_neg h];omega
 |n+1,1,a,s=>by
  have d:=a.size_pos;have b:=yE n 2 .fls s;have c:=yE n 4 (prs n 2 .fls s).1 (prs n 2 .fls s).2;have e:Fm.fls.size=1:=rfl;rw[Xf];omega
 |n+1,2,a,s=>by
  have d:=a.size_pos;have b:=yE n 3 .fls s;have c:=yE n 5 (prs n 3 .fls s).1 (prs n 3 .fls s).2;have e:Fm.fls.size=1:=rfl;rw[Yf];omega
 |n+1,3,a,s=>by
  have d:=a.size_pos;have e:Fm.fls.size=1:=rfl;refine Zf (Q:=λr=>r.1.size+3*r.2.1.length<=a.size+3*s.1.length) (λh=>?_) (λh=>?_) (λh=>?_) (λh=>?_) (λh=>?_) (λh=>?_) (λv _ h=>?_) (λ_ _ _ _ _ _ _=>?_)
  ·have b:=yE n 3 .fls (nx s);have:=pC h;show 1+_+1+3*(prs n 3 .fls (nx s)).2.1.length<=_;omega
  ·have b:=yE n 3 .fls (ndd 93 (nx s));have:=pC h;have:=aJ 93 (nx s);show 1+_+3*(prs n 3 .fls (ndd 93 (nx s))).2.1.length<=_;omega
  ·have b:=yE n 3 .fls (ndd 62 (nx s));have:=pC h;have:=aJ 62 (nx s);show 1+_+3*(prs n 3 .fls (ndd 62 (nx s))).2.1.length<=_;omega
  ·have:=pC h;show 1+3*(nx s).1.length<=_;omega
  ·have:=pC h;show 1+1+1+3*(nx s).1.length<=_;omega
  ·have b:=yE n 0 .fls (nx s);have:=pC h;have:=aJ 41 (prs n 0 .fls (nx s)).2;show(prs n 0 .fls (nx s)).1.size+3*(ndd 41 (prs n 0 .fls (nx s)).2).1.length<=_;omega
  ·have:=pC h;show 1+3*(nx s).1.length<=_;omega
  ·show 1+3*s.1.length<=_;omega
 |n+1,4,a,s=>by
  have b:=yE n 2 .fls (nx s);have c:=yE n 4 (.or a (prs n 2 .fls (nx s)).1) (prs n 2 .fls (nx s)).2;have e:Fm.fls.size=1:=rfl;have g:(Fm.or a (prs n 2 .fls (nx s)).1).size=1+a.size+(prs n 2 .fls (nx s)).1.size:=rfl;rw[ig];by_cases h:tk 124 s=true
  ·rw[if_pos h];have:=pC h;omega
  ·rw[if_neg h];exact Nat.le_refl _
 |n+1,k+5,a,s=>by
  have b:=yE n 3 .fls (nx s);have c:=yE n 5 (.and a (prs n 3 .fls (nx s)).1) (prs n 3 .fls (nx s)).2;have e:Fm.fls.size=1:=rfl;have g:(Fm.and a (prs n 3 .fls (nx s)).1).size=1+a.size+(prs n 3 .fls (nx s)).1.size:=rfl;rw[od];by_cases h:tk 38 s=true
  ·rw[if_pos h];have:=pC h;omega
  ·rw[if_neg h];exact Nat.le_refl _
theorem uN(s:FG):(nx s).1<:+s.1:=List.tail_suffix _
theorem Lh(c:UInt8)(s:FG):(ndd c s).1<:+s.1:=by
 unfold ndd;split
 ·exact uN s
 ·exact List.suffix_refl _
theorem FC:∀(n c:Nat) (a:Fm) (s:FG),(prs n c a s).2.1<:+s.1
 |0,_,_,_=>List.suffix_refl _
 |n+1,0,a,s=>by
  have b:=FC n 1 .fls s;rw[Wf];by_cases h:tk 62 (prs n 1 .fls s).2=true
  ·rw[if_pos h];exact(FC n 0 .fls _).trans ((uN _).trans b)
  ·rw[if_neg h];exact b
 |n+1,1,a,s=>by rw[Xf];exact(FC n 4 _ _).trans (FC n 2 .fls s)
 |n+1,2,a,s=>by rw[Yf];exact(FC n 5 _ _).trans (FC n 3 .fls s)
 |n+1,3,a,s=>
  Zf (Q:=λr=>r.2.1<:+s.1) (λ_=>(FC n 3 .fls _).trans (uN s)) (λ_=>(FC n 3 .fls _).trans ((Lh _ _).trans (uN s))) (λ_=>(FC n 3 .fls _).trans ((Lh _ _).trans (uN s)))
   (λ_=>uN s) (λ_=>uN s) (λ_=>(Lh _ _).trans ((FC n 0 .fls _).trans (uN s))) (λ_ _ _=>uN s) (λ_ _ _ _ _ _ _=>List.suffix_refl _)
 |n+1,4,a,s=>by
  rw[ig];by_cases h:tk 124 s=true
  ·rw[if_pos h];exact(FC n 4 _ _).trans ((FC n 2 .fls _).trans (uN s))
  ·rw[if_neg h];exact List.suffix_refl _
 |n+1,k+5,a,s=>by
  rw[od];by_cases h:tk 38 s=true
  ·rw[if_pos h];exact(FC n 5 _ _).trans ((FC n 3 .fls _).trans (uN s))
  ·rw[if_neg h];exact List.suffix_refl _
def Fm.good:Fm->Prop
 | .var v=>v<6
 | .fls=>True
 | .and a b=>a.good/\b.good
 | .or a b=>a.good/\b.good
 | .imp a b=>a.good/\b.good
 | .box a=>a.good
 | .dia a=>a.good
theorem xE:∀(n d:Nat) (a:Fm) (s:FG),a.good->(prs n d a s).1.good
 |0,_,_,_,h=>h
 |n+1,0,a,s,_=>by
  have b:=xE n 1 .fls s trivial;rw[Wf];by_cases h:tk 62 (prs n 1 .fls s).2=true
  ·rw[if_pos h];exact⟨b,xE n 0 .fls _ trivial⟩
  ·rw[if_neg h];exact b
 |n+1,1,a,s,_=>by rw[Xf];exact xE n 4 _ _ (xE n 2 .fls s trivial)
 |n+1,2,a,s,_=>by rw[Yf];exact xE n 5 _ _ (xE n 3 .fls s trivial)
 |n+1,3,a,s,_=>
  Zf (Q:=λr=>r.1.good) (λ_=>⟨xE n 3 .fls _ trivial,trivial⟩) (λ_=>xE n 3 .fls _ trivial) (λ_=>xE n 3 .fls _ trivial) (λ_=>trivial) (λ_=>⟨trivial,trivial⟩)
   (λ_=>xE n 0 .fls _ trivial) (λ_ c _=>c) (λ_ _ _ _ _ _ _=>trivial)
 |n+1,4,a,s,hg=>by
  rw[ig];by_cases h:tk 124 s=true
  ·rw[if_pos h];exact xE n 4 _ _ ⟨hg,xE n 2 .fls _ trivial⟩
  ·rw[if_neg h];exact hg
 |n+1,k+5,a,s,hg=>by
  rw[od];by_cases h:tk 38 s=true
  ·rw[if_pos h];exact xE n 5 _ _ ⟨hg,xE n 3 .fls _ trivial⟩
  ·rw[if_neg h];exact hg
def fl(a:Nat):Nat:=match a with
 |0=>4
 |1=>3
 |2=>2
 |_=>1
theorem SE:∀(n l:Nat) (a:Fm) (s:FG),8*s.1.length+fl l<=n->prs (n+1) l a s=prs n l a s
 |0,l,_,s,h=>by
  exfalso;have:1<=fl l:=by unfold fl;split<;>omega
  omega
 |n+1,0,a,s,h=>by
  have j:fl 0=4:=rfl;have m:fl 1=3:=rfl;have f:=SE n 1 .fls s (by omega);have o:=(FC n 1 .fls s).length_le;rw[Wf (n+1) a s,Wf n a s,f];by_cases b:tk 62 (prs n 1 .fls s).2=true
  ·rw[if_pos b,if_pos b];have:=pC b;rw[SE n 0 .fls _ (by omega)]
  ·rw[if_neg b,if_neg b]
 |n+1,1,a,s,h=>by
  have j:fl 1=3:=rfl;have m:fl 2=2:=rfl;have C:fl 4=1:=rfl;have f:=SE n 2 .fls s (by omega);have o:=(FC n 2 .fls s).length_le;rw[Xf (n+1) a s,Xf n a s,f,SE n 4 _ _ (by omega)]
 |n+1,2,a,s,h=>by
  have j:fl 2=2:=rfl;have m:fl 3=1:=rfl;have C:fl 5=1:=rfl;have f:=SE n 3 .fls s (by omega);have o:=(FC n 3 .fls s).length_le;rw[Yf (n+1) a s,Yf n a s,f,SE n 5 _ _ (by omega)]
 |n+1,3,a,s,h=>by
  have j:fl 3=1:=rfl;have E:fl 0=4:=rfl;have p:∀i,tk i s=true->prs (n+1) 3 .fls (nx s)=prs n 3 .fls (nx s)/\prs (n+1) 0 .fls (nx s)=prs n 0 .fls (nx s)/\ ∀d,prs (n+1) 3 .fls (ndd d (nx s))=prs n 3 .fls (ndd d (nx s)):=λi A=>by
   have:=pC A;refine⟨SE n 3 .fls _ (by omega),SE n 0 .fls _ (by omega),λd=>SE n 3 .fls _ ?_⟩;have:=aJ d (nx s);omega
  have c:∀{i d:UInt8},tk i s=true->i≠d->tk d s=false:=λh r=>wi h r;refine Zf (n:=n+1) (Q:=λD=>D=prs (n+1) 3 a s) (λh=>?_) (λh=>?_) (λh=>?_) (λh=>?_) (λh=>?_) (λh=>?_) (λv q h=>?_) (λt u w x y z g=>?_)
  ·rw[(p _ h).1,prs,if_pos h]
  ·rw[(p _ h).2.2,prs,c (d:=126) h (by decide),h];rfl
  ·rw[(p _ h).2.2,prs,c (d:=126) h (by decide),c (d:=91) h (by decide),h];rfl
  ·rw[prs,c (d:=126) h (by decide),c (d:=91) h (by decide),c (d:=60) h (by decide),h];rfl
  ·rw[prs,c (d:=126) h (by decide),c (d:=91) h (by decide),c (d:=60) h (by decide),c (d:=70) h (by decide),h];rfl
  ·rw[(p _ h).2.1,prs,c (d:=126) h (by decide),c (d:=91) h (by decide),c (d:=60) h (by decide),c (d:=70) h (by decide),c (d:=84) h (by decide),h];rfl
  ·have q:v=0∨v=1∨v=2∨v=3∨v=4∨v=5:=by omega
   have e:∀d:UInt8,vl v≠d->tk d s=false:=λd B=>c h B;rw[prs];rcases q with rfl|rfl|rfl|rfl|rfl|rfl
   ·rw[e 126 (by decide),e 91 (by decide),e 60 (by decide),e 70 (by decide),e 84 (by decide),e 40 (by decide),show tk 112 s=true from h];rfl
   ·rw[e 126 (by decide),e 91 (by decide),e 60 (by decide),e 70 (by decide),e 84 (by decide),e 40 (by decide),e 112 (by decide),show tk 113 s=true from h];rfl
   ·rw[e 126 (by decide),e 91 (by decide),e 60 (by decide),e 70 (by decide),e 84 (by decide),e 40 (by decide),e 112 (by decide),e 113 (by decide),show tk 114 s=true from h];rfl
   ·rw[e 126 (by decide),e 91 (by decide),e 60 (by decide),e 70 (by decide),e 84 (by decide),e 40 (by decide),e 112 (by decide),e 113 (by decide),e 114 (by decide),show tk 115 s=true from h];rfl
   ·rw[e 126 (by decide),e 91 (by decide),e 60 (by decide),e 70 (by decide),e 84 (by decide),e 40 (by decide),e 112 (by decide),e 113 (by decide),e 114 (by decide),e 115 (by decide),show tk 116 s=true from h];rfl
   ·rw[e 126 (by decide),e 91 (by decide),e 60 (by decide),e 70 (by decide),e 84 (by decide),e 40 (by decide),e 112 (by decide),e 113 (by decide),e 114 (by decide),e 115 (by decide),e 116 (by decide),show tk 117 s=true from h];rfl
  ·rw[prs,t,u,w,x,y,z,show tk 112 s=false from g 0 (by omega),show tk 113 s=false from g 1 (by omega),show tk 114 s=false from g 2 (by omega),show tk 115 s=false from g 3 (by omega),show tk 116 s=false from g 4 (by omega),show tk 117 s=false from g 5 (by omega)];rfl
 |n+1,4,a,s,h=>by
  have j:fl 4=1:=rfl;have m:fl 2=2:=rfl;rw[ig (n+1) a s,ig n a s];by_cases b:tk 124 s=true
  ·rw[if_pos b,if_pos b];have:=pC b;have f:=SE n 2 .fls (nx s) (by omega);have o:=(FC n 2 .fls (nx s)).length_le;rw[f,SE n 4 _ _ (by omega)]
  ·rw[if_neg b,if_neg b]
 |n+1,k+5,a,s,h=>by
  have j:fl (k+5)=1:=rfl;have m:fl 3=1:=rfl;have F:fl 5=1:=rfl;rw[od (n+1) k a s,od n k a s];by_cases b:tk 38 s=true
  ·rw[if_pos b,if_pos b];have:=pC b;have f:=SE n 3 .fls (nx s) (by omega);have o:=(FC n 3 .fls (nx s)).length_le;rw[f,SE n 5 _ _ (by omega)]
  ·rw[if_neg b,if_neg b]
theorem Cr{f:Nat}{r:Fm}{B:FG}(h:8*B.1.length+fl f<=x)(a:x<=n):prs n f r B=prs x f r B:=by
 induction a with
 |refl=>rfl
 |step a ih=>rw[SE _ _ _ _ (Nat.le_trans h a),ih]
def rd(t:jA):Fm×FG:=prs (8*t.length+4) 0 .fls (t,false)
def Fm.eqb:Fm->Fm->Bool
 | .var v,.var u=>v==u
 | .fls,.fls=>true
 | .and a b,.and c d=>eqb a c&&eqb b d
 | .or a b,.or c d=>eqb a c&&eqb b d
 | .imp a b,.imp c d=>eqb a c&&eqb b d
 | .box a,.box c=>eqb a c
 | .dia a,.dia c=>eqb a c
 |_,_=>false
theorem Fm.eqb_iff:∀a b:Fm,Fm.eqb a b=true↔a=b:=by
 intro a
 induction a with
 |var v=>intro b;cases b<;>simp[Fm.eqb]
 |fls=>intro b;cases b<;>simp[Fm.eqb]
 |and x y hx hy=>intro b;cases b<;>simp[Fm.eqb,hx,hy]
 |or x y hx hy=>intro b;cases b<;>simp[Fm.eqb,hx,hy]
 |imp x y hx hy=>intro b;cases b<;>simp[Fm.eqb,hx,hy]
 |box x hx=>intro b;cases b<;>simp[Fm.eqb,hx]
 |dia x hx=>intro b;cases b<;>simp[Fm.eqb,hx]
instance:DecidableEq Fm:=λa b=>decidable_of_iff _ (Fm.eqb_iff a b)
def Fm.own:Fm->Nat
 | .imp _ b=>if b= .fls then 3 else 0
 | .or _ _=>1
 | .and _ _=>2
 |_=>3
def par(b:Bool)(s:jA):jA:=if b then 40::(s++[41])else s
def Fm.body:Fm->jA
 | .var v=>[vl v]
 | .fls=>[70]
 | .and a b=>par (decide (a.own<2)) a.body++38::par (decide (b.own<3)) b.body
 | .or a b=>par (decide (a.own<1)) a.body++124::par (decide (b.own<2)) b.body
 | .imp a b=>if b= .fls then(if a= .fls then[84]else 126::par (decide (a.own<3)) a.body)else par (decide (a.own<1)) a.body++62::b.body
 | .box a=>91::93::par (decide (a.own<3)) a.body
 | .dia a=>60::62::par (decide (a.own<3)) a.body
def Fm.txt(b:Nat)(a:Fm):jA:=par (decide (a.own<b)) a.body
def iB(a:Nat)(b:Fm)(s:FG):Fm×FG:=prs (8*s.1.length+fl a) a b s
theorem cH{lv:Nat}{r:Fm}{B:FG}(h:8*B.1.length+fl lv<=x):prs x lv r B=iB lv r B:=Cr (Nat.le_refl _) h
theorem Yo(a:Fm)(s:FG):iB 0 a s=if tk 62 (iB 1 .fls s).2 then(.imp (iB 1 .fls s).1 (iB 0 .fls (nx (iB 1 .fls s).2)).1,(iB 0 .fls (nx (iB 1 .fls s).2)).2)else iB 1 .fls s:=by
 have b:prs (8*s.1.length+3) 1 .fls s=iB 1 .fls s:=cH (Nat.le_refl _);have c:(iB 1 .fls s).2.1.length<=s.1.length:=(FC _ 1 .fls s).length_le;show prs (8*s.1.length+3+1) 0 a s=_;rw[prs,b];split
 ·rename_i h;have:=pC h;rw[cH (lv:=0) (by show _+4<=_;omega)]
 ·rfl
theorem Hr(a:Fm)(s:FG):iB 1 a s=iB 4 (iB 2 .fls s).1 (iB 2 .fls s).2:=by
 have b:prs (8*s.1.length+2) 2 .fls s=iB 2 .fls s:=cH (Nat.le_refl _);have c:(iB 2 .fls s).2.1.length<=s.1.length:=(FC _ 2 .fls s).length_le;show prs (8*s.1.length+2+1) 1 a s=_;rw[prs,b,cH (lv:=4) (by show _+1<=_;omega)]
theorem Ir(a:Fm)(s:FG):iB 2 a s=iB 5 (iB 3 .fls s).1 (iB 3 .fls s).2:=by
 have b:prs (8*s.1.length+1) 3 .fls s=iB 3 .fls s:=cH (Nat.le_refl _);have c:(iB 3 .fls s).2.1.length<=s.1.length:=(FC _ 3 .fls s).length_le;show prs (8*s.1.length+1+1) 2 a s=_;rw[prs,b,cH (lv:=5) (by show _+1<=_;omega)]
theorem pk(a:Fm)(s:FG):iB 4 a s=if tk 124 s then iB 4 (.or a (iB 2 .fls (nx s)).1) (iB 2 .fls (nx s)).2 else(a,s):=by
 show prs (8*s.1.length+1) 4 a s=_;rw[prs];split
 ·rename_i h;have:=pC h;have b:(iB 2 .fls (nx s)).2.1.length<=(nx s).1.length:=(FC _ 2 .fls _).length_le;rw[cH (lv:=2) (by show _+2<=_;omega),cH (lv:=4) (by show _+1<=_;omega)]
 ·rfl
theorem qk(a:Fm)(s:FG):iB 5 a s=if tk 38 s then iB 5 (.and a (iB 3 .fls (nx s)).1) (iB 3 .fls (nx s)).2 else(a,s):=by
 show prs (8*s.1.length+1) (0+5) a s=_;rw[od];split
 ·rename_i h;have:=pC h;have b:(iB 3 .fls (nx s)).2.1.length<=(nx s).1.length:=(FC _ 3 .fls _).length_le;rw[cH (lv:=3) (by show _+1<=_;omega),cH (lv:=5) (by show _+1<=_;omega)]
 ·rfl
theorem OR{Q:Fm×FG->Prop}{r:Fm}{B:FG}(b:tk 126 B=true->Q (.imp (iB 3 .fls (nx B)).1 .fls,(iB 3 .fls (nx B)).2))
  (e:tk 91 B=true->Q (.box (iB 3 .fls (ndd 93 (nx B))).1,(iB 3 .fls (ndd 93 (nx B))).2))(f:tk 60 B=true->Q (.dia (iB 3 .fls (ndd 62 (nx B))).1,(iB 3 .fls (ndd 62 (nx B))).2))
  (g:tk 70 B=true->Q (.fls,nx B))(i:tk 84 B=true->Q (.imp .fls .fls,nx B))(j:tk 40 B=true->Q ((iB 0 .fls (nx B)).1,ndd 41 (iB 0 .fls (nx B)).2))
  (k:∀v,v<6->tk (vl v) B=true->Q (.var v,nx B))(l:tk 126 B=false->tk 91 B=false->tk 60 B=false->tk 70 B=false->tk 84 B=false->tk 40 B=false->(∀v,v<6->tk (vl v) B=false)->Q (.fls,(B.1,true))):Q (iB 3 r B):=by
 have a:∀c,tk c B=true->prs (8*B.1.length) 3 .fls (nx B)=iB 3 .fls (nx B)/\prs (8*B.1.length) 0 .fls (nx B)=iB 0 .fls (nx B)/\ ∀d,prs (8*B.1.length) 3 .fls (ndd d (nx B))=iB 3 .fls (ndd d (nx B)):=λc m=>by
  have:=pC m;refine⟨cH (by show _+1<=_;omega),cH (by show _+4<=_;omega),λd=>cH ?_⟩;have:=aJ d (nx B);show _+1<=_;omega
 show Q (prs (8*B.1.length+1) 3 r B);refine Zf (λh=>?_) (λh=>?_) (λh=>?_) g i (λh=>?_) k l
 ·rw[(a _ h).1];exact b h
 ·rw[(a _ h).2.2];exact e h
 ·rw[(a _ h).2.2];exact f h
 ·rw[(a _ h).2.1];exact j h
theorem PR{r:Fm}(c:UInt8)(l:jA)(a:Fm×FG)(p:c=126->(.imp (iB 3 .fls (l,false)).1 .fls,(iB 3 .fls (l,false)).2)=a)
  (q:c=91->(.box (iB 3 .fls (ndd 93 (l,false))).1,(iB 3 .fls (ndd 93 (l,false))).2)=a)(s:c=60->(.dia (iB 3 .fls (ndd 62 (l,false))).1,(iB 3 .fls (ndd 62 (l,false))).2)=a)
  (t:c=70->(.fls,(l,false))=a)(u:c=84->(.imp .fls .fls,(l,false))=a)(w:c=40->((iB 0 .fls (l,false)).1,ndd 41 (iB 0 .fls (l,false)).2)=a)
  (x:∀v,v<6->c=vl v->(.var v,(l,false))=a)(y:c≠126->c≠91->c≠60->c≠70->c≠84->c≠40->(∀v,v<6->c≠vl v)->False):iB 3 r (c::l,false)=a:=by
 have e:∀d,tk d (c::l,false)=true↔c=d:=λd=>by simp[tk]
 have b:∀d,tk d (c::l,false)=false↔c≠d:=λd=>by simp[tk]
 refine OR (Q:=λz=>z=a) (λh=>p ((e _).1 h)) (λh=>q ((e _).1 h)) (λh=>s ((e _).1 h)) (λh=>t ((e _).1 h)) (λh=>u ((e _).1 h)) (λh=>w ((e _).1 h)) (λv f h=>x v f ((e _).1 h)) λg i j k m n o=>(y ((b _).1 g) ((b _).1 i) ((b _).1 j) ((b _).1 k) ((b _).1 m) ((b _).1 n) λv f=>(b _).1 (o v f)).elim
theorem H7(a:x<6)(h:q.toNat<112):vl x≠q:=by
 have:x=0∨x=1∨x=2∨x=3∨x=4∨x=5:=by omega
 intro e;subst e;rcases this with rfl|rfl|rfl|rfl|rfl|rfl<;>exact absurd h (by decide)
theorem aD(b:Fm)(l:jA):iB 3 b (126::l,false)=(.imp (iB 3 .fls (l,false)).1 .fls,(iB 3 .fls (l,false)).2)/\iB 3 b (91::l,false)=(.box (iB 3 .fls (ndd 93 (l,false))).1,(iB 3 .fls (ndd 93 (l,false))).2)/\
  iB 3 b (60::l,false)=(.dia (iB 3 .fls (ndd 62 (l,false))).1,(iB 3 .fls (ndd 62 (l,false))).2)/\iB 3 b (70::l,false)=(.fls,(l,false))/\iB 3 b (84::l,false)=(.imp .fls .fls,(l,false))/\
  iB 3 b (40::l,false)=((iB 0 .fls (l,false)).1,ndd 41 (iB 0 .fls (l,false)).2)/\ ∀v,v<6->iB 3 b (vl v::l,false)=(.var v,(l,false)):=by
 have c:∀{v:Nat} {d:UInt8} {Q:Prop},v<6->d.toNat<112->d=vl v->Q:=λa j e=>absurd e.symm (H7 a j);refine⟨?_,?_,?_,?_,?_,?_,λv a=>?_⟩
 ·exact PR _ _ _ (λ_=>rfl) (λh=>absurd h (by decide)) (λh=>absurd h (by decide)) (λh=>absurd h (by decide)) (λh=>absurd h (by decide)) (λh=>absurd h (by decide)) (λv a h=>by
   have:v=0∨v=1∨v=2∨v=3∨v=4∨v=5:=by omega
   rcases this with rfl|rfl|rfl|rfl|rfl|rfl<;>exact absurd h (by decide)) (λh _ _ _ _ _ _=>h rfl)
 ·exact PR _ _ _ (λh=>absurd h (by decide)) (λ_=>rfl) (λh=>absurd h (by decide)) (λh=>absurd h (by decide)) (λh=>absurd h (by decide)) (λh=>absurd h (by decide)) (λv a h=>c a (by decide) h) (λ_ h _ _ _ _ _=>h rfl)
 ·exact PR _ _ _ (λh=>absurd h (by decide)) (λh=>absurd h (by decide)) (λ_=>rfl) (λh=>absurd h (by decide)) (λh=>absurd h (by decide)) (λh=>absurd h (by decide)) (λv a h=>c a (by decide) h) (λ_ _ h _ _ _ _=>h rfl)
 ·exact PR _ _ _ (λh=>absurd h (by decide)) (λh=>absurd h (by decide)) (λh=>absurd h (by decide)) (λ_=>rfl) (λh=>absurd h (by decide)) (λh=>absurd h (by decide)) (λv a h=>c a (by decide) h) (λ_ _ _ h _ _ _=>h rfl)
 ·exact PR _ _ _ (λh=>absurd h (by decide)) (λh=>absurd h (by decide)) (λh=>absurd h (by decide)) (λh=>absurd h (by decide)) (λ_=>rfl) (λh=>absurd h (by decide)) (λv a h=>c a (by decide) h) (λ_ _ _ _ h _ _=>h rfl)
 ·exact PR _ _ _ (λh=>absurd h (by decide)) (λh=>absurd h (by decide)) (λh=>absurd h (by decide)) (λh=>absurd h (by decide)) (λh=>absurd h (by decide)) (λ_=>rfl) (λv a h=>c a (by decide) h) (λ_ _ _ _ _ h _=>h rfl)
 ·have g:vl v≠126:=by
   have:v=0∨v=1∨v=2∨v=3∨v=4∨v=5:=by omega
   rcases this with rfl|rfl|rfl|rfl|rfl|rfl<;>decide
  refine PR _ _ _ (λh=>absurd h g) (λh=>absurd h (H7 a (by decide))) (λh=>absurd h (H7 a (by decide))) (λh=>absurd h (H7 a (by decide))) (λh=>absurd h (H7 a (by decide))) (λh=>absurd h (H7 a (by decide))) (λu k h=>?_) (λ_ _ _ _ _ _ h=>h v a rfl);have e:v=u:=by
   have f:v=0∨v=1∨v=2∨v=3∨v=4∨v=5:=by omega
   have i:u=0∨u=1∨u=2∨u=3∨u=4∨u=5:=by omega
   rcases f with rfl|rfl|rfl|rfl|rfl|rfl<;>rcases i with rfl|rfl|rfl|rfl|rfl|rfl<;>first|rfl|exact absurd h (by decide)
  rw[e]
theorem Jn(c:UInt8)(l:jA):tk c (c::l,false)=true:=by simp[tk]
theorem R3{d:UInt8}{s:jA}(h:d≠q):tk q (d::s,K)=false:=by simp[tk,h]
theorem tn(c:UInt8)(l:jA)(b:Bool):nx (c::l,b)=(l,false):=rfl
theorem Oc(c:UInt8)(l:jA):ndd c (c::l,false)=(l,false):=by simp[ndd,Jn,tn]
def Ra(b:Fm)(s:jA):Prop:=∀a,iB 3 .fls (s++a,false)=(b,(a,false))
def Rb(b:Fm)(s:jA):Prop:=∀a,iB 2 .fls (s++a,false)=iB 5 b (a,false)
def Rc(b:Fm)(s:jA):Prop:=∀a,tk 38 (a,false)=false->iB 1 .fls (s++a,false)=iB 4 b (a,false)
def Rd(b:Fm)(s:jA):Prop:=∀a,tk 38 (a,false)=false->tk 124 (a,false)=false->tk 62 (a,false)=false->iB 0 .fls (s++a,false)=(b,(a,false))
theorem Xm{r:Fm}{s:jA}(h:tk 38 (s,false)=false):iB 5 r (s,false)=(r,(s,false)):=by rw[qk,h];rfl
theorem Wm{r:Fm}{s:jA}(h:tk 124 (s,false)=false):iB 4 r (s,false)=(r,(s,false)):=by rw[pk,h];rfl
theorem Ra.b{r:Fm}{s:jA}(h:Ra r s):Rb r s:=λa=>by rw[Ir,h a]
theorem Rb.c{r:Fm}{s:jA}(h:Rb r s):Rc r s:=λb a=>by rw[Hr,h b,Xm a]
theorem Rc.d{a:Fm}{s:jA}(h:Rc a s):Rd a s:=λe b c d=>by rw[Yo,h e b,Wm c,d];rfl
theorem Rd.par{r:Fm}{s:jA}(h:Rd r s):Ra r (40::(s++[41])):=λa=>by
 have e:(40::(s++[41]))++a=40::(s++41::a):=by simp
 rw[e,(aD _ _).2.2.2.2.2.1];rw[h (41::a) (R3 (by decide)) (R3 (by decide)) (R3 (by decide)),Oc]
structure rU(a:Fm):Prop where
 three:Ra a (a.txt 3)
 two:Rb a (a.txt 2)
 one:Rc a (a.txt 1)
 zero:Rd a (a.txt 0)
theorem CE{a:Fm}(h:x<=a.own):a.txt x=a.body:=by unfold Fm.txt par;rw[decide_eq_false (by omega)];rfl
theorem RO{r:Fm}(h:r.own<x):r.txt x=40::(r.body++[41]):=by unfold Fm.txt par;rw[decide_eq_true h];rfl
theorem rU.of3{r:Fm}(a:r.own=3)(h:Ra r r.body):rU r:=by
 refine⟨?_,?_,?_,?_⟩
 ·rw[CE (by omega)];exact h
 ·rw[CE (by omega)];exact h.b
 ·rw[CE (by omega)];exact h.b.c
 ·rw[CE (by omega)];exact h.b.c.d
theorem rU.of2{r:Fm}(a:r.own=2)(h:Rb r r.body):rU r:=by
 refine⟨?_,?_,?_,?_⟩
 ·rw[RO (by omega)];exact h.c.d.par
 ·rw[CE (by omega)];exact h
 ·rw[CE (by omega)];exact h.c
 ·rw[CE (by omega)];exact h.c.d
theorem rU.of1{r:Fm}(a:r.own=1)(h:Rc r r.body):rU r:=by
 refine⟨?_,?_,?_,?_⟩
 ·rw[RO (by omega)];exact h.d.par
 ·rw[RO (by omega)];exact h.d.par.b
 ·rw[CE (by omega)];exact h
 ·rw[CE (by omega)];exact h.d
theorem rU.of0{r:Fm}(a:r.own=0)(h:Rd r r.body):rU r:=by
 refine⟨?_,?_,?_,?_⟩
 ·rw[RO (by omega)];exact h.par
 ·rw[RO (by omega)];exact h.par.b
 ·rw[RO (by omega)];exact h.par.b.c
 ·rw[CE (by omega)];exact h
theorem pd:∀a:Fm,a.good->rU a
 | .var v,h=>by
  refine rU.of3 rfl λc=>?_;have h:v<6:=h;exact(aD _ _).2.2.2.2.2.2 v h
 | .fls,_=>by
  refine rU.of3 rfl λc=>?_;exact(aD _ _).2.2.2.1
 | .and a b,h=>by
  refine rU.of2 rfl λc=>?_;have e:(Fm.and a b).body++c=a.txt 2++(38::(b.txt 3++c)):=by simp[Fm.body,Fm.txt]
  rw[e,(pd a h.1).two,qk,Jn,tn,if_pos rfl,(pd b h.2).three]
 | .or a b,h=>by
  refine rU.of1 rfl λc k=>?_;have e:(Fm.or a b).body++c=a.txt 1++(124::(b.txt 2++c)):=by simp[Fm.body,Fm.txt]
  rw[e,(pd a h.1).one _ (R3 (by decide)),pk,Jn,tn,if_pos rfl,(pd b h.2).two,Xm k]
 | .imp a b,h=>by
  by_cases d:b= .fls
  ·subst d;refine rU.of3 rfl λc=>?_;by_cases f:a= .fls
   ·subst f;exact(aD _ _).2.2.2.2.1
   ·have e:(Fm.imp a .fls).body++c=126::(a.txt 3++c):=by simp[Fm.body,Fm.txt,f]
    rw[e,(aD _ _).1,(pd a h.1).three]
  ·refine rU.of0 (by simp[Fm.own,d]) λc g i j=>?_;have e:(Fm.imp a b).body++c=a.txt 1++(62::(b.txt 0++c)):=by rw[CE (a:=b) (Nat.zero_le _)];simp[Fm.body,Fm.txt,d]
   rw[e,Yo,(pd a h.1).one _ (R3 (by decide)),Wm (R3 (by decide)),Jn,tn,if_pos rfl,(pd b h.2).zero _ g i j]
 | .box a,h=>by
  refine rU.of3 rfl λc=>?_;have e:(Fm.box a).body++c=91::93::(a.txt 3++c):=by simp[Fm.body,Fm.txt]
  rw[e,(aD _ _).2.1,Oc,(pd a h).three]
 | .dia a,h=>by
  refine rU.of3 rfl λc=>?_;have e:(Fm.dia a).body++c=60::62::(a.txt 3++c):=by simp[Fm.body,Fm.txt]
  rw[e,(aD _ _).2.2.1,Oc,(pd a h).three]
theorem OO{r:Fm}(h:r.good):rd r.body=(r,([],false)):=by
 have:=(pd r h).zero [] (by simp[tk]) (by simp[tk]) (by simp[tk]);rw[List.append_nil,CE (Nat.zero_le _)]at this;exact this
theorem lq{r P:Fm}(b:r.good)(c:P.good)(h:r.body=P.body):r=P:=by
 have a:=OO b;rw[h,OO c]at a;exact(Prod.mk.inj a).1.symm
def Fm.plain:Fm->Bool
 | .var _=>true
 | .fls=>true
 | .and a b=>a.plain&&b.plain
 | .or a b=>a.plain&&b.plain
 | .imp a b=>a.plain&&b.plain
 | .box _=>false
 | .dia _=>false
structure KM where
 W:Type
 le:W->W->Prop
 refl:∀w,le w w
 trans:∀a b c,le a b->le b c->le a c
 v:W->Nat->Prop
 mono:∀a b p,le a b->v a p->v b p
def KM.f(M:KM):Fm->M.W->Prop
 | .var p,w=>M.v w p
 | .fls,_=>False
 | .and a b,w=>M.f a w/\M.f b w
 | .or a b,w=>M.f a w∨M.f b w
 | .imp a b,w=>∀u,M.le w u->M.f a u->M.f b u
 | .box _,_=>True
 | .dia _,_=>True
theorem KM.up(M:KM):∀(a:Fm) (w u:M.W),M.le w u->M.f a w->M.f a u
 | .var p,_,_,h,k=>M.mono _ _ p h k
 | .fls,_,_,_,k=>k
 | .and a b,w,u,h,k=>⟨M.up a w u h k.1,M.up b w u h k.2⟩
 | .or a b,w,u,h,k=>k.imp (M.up a w u h) (M.up b w u h)
 | .imp _ _,_,_,h,k=>λx c=>k x (M.trans _ _ _ h c)
 | .box _,_,_,_,_=>trivial
 | .dia _,_,_,_,_=>trivial
abbrev KM.fs(M:KM)(G:List Fm)(w:M.W):Prop:=∀a∈G,M.f a w
def dD(G:List Fm)(c:Fm):Prop:=∀(M:KM) (w:M.W),M.fs G w->M.f c w
theorem dD.congr{j b:List Fm}{r:Fm}(h:∀(M:KM) (w:M.W),M.fs j w↔M.fs b w):dD j r↔dD b r:=
 ⟨λk M w a=>k M w ((h M w).2 a),λk M w a=>k M w ((h M w).1 a)⟩
theorem dD.two{j b d:List Fm}{c:Fm}(h:∀(M:KM) (w:M.W),M.fs j w↔M.fs b w∨M.fs d w):dD j c↔dD b c/\dD d c:=
 ⟨λk=>⟨λM w a=>k M w ((h M w).2 (.inl a)),λM w a=>k M w ((h M w).2 (.inr a))⟩,λk M w a=>((h M w).1 a).elim (k.1 M w) (k.2 M w)⟩
theorem qC(M:KM)(w:M.W){G rest:List Fm}{a:Fm}(b:∀x,x∈G↔x=a∨x∈rest):M.fs G w↔M.f a w/\M.fs rest w:=
 ⟨λh=>⟨h a ((b a).2 (.inl rfl)),λx c=>h x ((b x).2 (.inr c))⟩,λh x c=>((b x).1 c).elim (λe=>e▸h.1) (h.2 x)⟩
theorem Dw{M:KM}{w:M.W}(a b:Fm):M.f (.and a b) w↔M.f a w/\M.f b w:=Iff.rfl
theorem Dx{M:KM}{w:M.W}(a b:Fm):M.f (.or a b) w↔M.f a w∨M.f b w:=Iff.rfl
theorem mo{M:KM}{w:M.W}(a c d:Fm):M.f (.imp (.and a c) d) w↔M.f (.imp a (.imp c d)) w:=
 ⟨λh u b g x f i=>h x (M.trans _ _ _ b f) ⟨M.up a u x f g,i⟩,λh u b e=>h u b e.1 u (M.refl u) e.2⟩
theorem Bq{M:KM}{w:M.W}(b d c:Fm):M.f (.imp (.or b d) c) w↔M.f (.imp b c) w/\M.f (.imp d c) w:=
 ⟨λh=>⟨λu a e=>h u a (.inl e),λu a g=>h u a (.inr g)⟩,λh u a f=>f.elim (h.1 u a) (h.2 u a)⟩
theorem no{M:KM}{w:M.W}(b:Fm):M.f (.imp .fls b) w:=λ_ _ h=>h.elim
theorem pj{M:KM}{w:M.W}{r P:Fm}(h:M.f r w):M.f (.imp r P) w↔M.f P w:=
 ⟨λk=>k w (M.refl w) h,λk u a _=>M.up P w u a k⟩
theorem vO{M:KM}{w:M.W}{r P:Fm}(h:M.f P w):M.f (.imp r P) w:=λu a _=>M.up P w u a h
theorem dD.and{j:List Fm}{r P:Fm}:dD j (.and r P)↔dD j r/\dD j P:=
 ⟨λh=>⟨λM w a=>(h M w a).1,λM w a=>(h M w a).2⟩,λh M w a=>⟨h.1 M w a,h.2 M w a⟩⟩
theorem dD.imp{j b:List Fm}{r P:Fm}(d:∀x,x∈b↔x=r∨x∈j):dD j (.imp r P)↔dD b P:=by
 constructor
 ·intro h M w a;have c:=(qC M w d).1 a;exact h M w c.2 w (M.refl w) c.1
 ·intro h M w a u f e;exact h M u ((qC M u d).2 ⟨e,λx g=>M.up x w u f (a x g)⟩)
section
variable{ι:Type}(M:ι->KM)(r:(i:ι)->(M i).W)(at0:Nat->Prop)(hat:∀i p,at0 p->(M i).v (r i) p)
def Us:KM where
 W:=Option ((i:ι)×(M i).W)
 le:=λc b=>(c=none/\(b=none∨ ∃i y,b=some ⟨i,y⟩/\(M i).le (r i) y))∨ ∃i x y,c=some ⟨i,x⟩/\b=some ⟨i,y⟩/\(M i).le x y
 refl:=λw=>by
  cases w with
  |none=>exact .inl ⟨rfl,.inl rfl⟩
  |some p=>exact .inr ⟨p.1,p.2,p.2,rfl,rfl,(M p.1).refl _⟩
 trans:=λc b l h k=>by
  rcases h with⟨rfl,h⟩|⟨i,x,y,rfl,rfl,h⟩
  ·rcases h with rfl|⟨i,y,rfl,h⟩
   ·exact k
   ·rcases k with⟨k,_⟩|⟨j,g,f,e,rfl,k⟩
    ·cases k
    ·injection e with e
     injection e with d a
     subst d
     have a:=eq_of_heq a
     subst a
     exact .inl ⟨rfl,.inr ⟨i,f,rfl,(M i).trans _ _ _ h k⟩⟩
  ·rcases k with⟨k,_⟩|⟨j,g,f,e,rfl,k⟩
   ·cases k
   ·injection e with e
    injection e with d a
    subst d
    have a:=eq_of_heq a
    subst a
    exact .inr ⟨i,x,f,rfl,rfl,(M i).trans _ _ _ h k⟩
 v:=λw p=>match w with
  |none=>at0 p
  |some ⟨i,x⟩=>(M i).v x p
 mono:=λc b p h k=>by
  rcases h with⟨rfl,h⟩|⟨i,x,y,rfl,rfl,h⟩
  ·rcases h with rfl|⟨i,y,rfl,h⟩
   ·exact k
   ·exact(M i).mono _ _ p h (hat i p k)
  ·exact(M i).mono _ _ p h k
theorem oN:∀(a:Fm) (i:ι) (x:(M i).W),(Us M r at0 hat).f a (some ⟨i,x⟩)↔(M i).f a x
 | .var _,_,_=>Iff.rfl
 | .fls,_,_=>Iff.rfl
 | .and a b,i,x=>and_congr (oN a i x) (oN b i x)
 | .or a b,i,x=>or_congr (oN a i x) (oN b i x)
 | .imp a b,i,x=>by
  constructor
  ·intro h u c f;exact(oN b i u).1 (h (some ⟨i,u⟩) (.inr ⟨i,x,u,rfl,rfl,c⟩) ((oN a i u).2 f))
  ·intro h u c f;rcases c with⟨e,_⟩|⟨j,k,y,e,rfl,c⟩
   ·cases e
   ·injection e with e
    injection e with g d
    subst g;have d:=eq_of_heq d;subst d;exact(oN b i y).2 (h y c ((oN a i y).1 f))
 | .box _,_,_=>Iff.rfl
 | .dia _,_,_=>Iff.rfl
theorem uo{P:Fm}{i:ι}(h:¬(M i).f P (r i)):¬(Us M r at0 hat).f P none:=λk=>
 h ((oN M r at0 hat P i (r i)).1 ((Us M r at0 hat).up P none _ (.inl ⟨rfl,.inr ⟨i,r i,rfl,(M i).refl _⟩⟩) k))
end
theorem rn{j:List Fm}{r:Fm}(h:¬dD j r):∃p:(M:KM)×M.W,p.1.fs j p.2/\ ¬p.1.f r p.2:=by
 apply Classical.byContradiction;intro k;exact h λM w b=>Classical.byContradiction λa=>k ⟨⟨M,w⟩,b,a⟩
theorem Su{j:List Fm}{r:Fm}(w:∀b∈j,(∃p,b= .var p)∨ ∃x y,b= .imp x y/\((∃p,x= .var p/\Fm.var p∉j)∨ ¬dD j x))
  (u:(∃p,r= .var p/\r∉j)∨r= .fls∨ ∃b g,r= .or b g/\ ¬dD j b/\ ¬dD j g):¬dD j r:=by
 let o:={x:Fm// ¬dD j x}
 let a:o->(M:KM)×M.W:=λi=>Classical.choose (rn i.2)
 have m:∀i:o,(a i).1.fs j (a i).2/\ ¬(a i).1.f i.1 (a i).2:=λi=>Classical.choose_spec (rn i.2)
 let d:Nat->Prop:=λp=>Fm.var p∈j
 have h:∀(i:o) (p:Nat),d p->(a i).1.v (a i).2 p:=λi p f=>(m i).1 _ f
 let N:=Us (λi=>(a i).1) (λi=>(a i).2) d h
 have l:∀x,¬dD j x-> ¬N.f x none:=λx c=>uo (λi=>(a i).1) (λi=>(a i).2) d h (i:=⟨x,c⟩) (m ⟨x,c⟩).2;have v:N.fs j none:=by
  intro b e;rcases w b e with⟨p,rfl⟩|⟨x,y,rfl,c⟩
  ·exact e
  ·have B:¬N.f x none:=by
    rcases c with⟨p,rfl,f⟩|c
    ·exact f
    ·exact l x c
   intro D n q;rcases n with⟨_,n⟩|⟨i,E,F,s,_⟩
   ·rcases n with rfl|⟨i,z,rfl,C⟩
    ·exact absurd q B
    ·refine(oN (λi=>(a i).1) (λi=>(a i).2) d h y i z).2 ?_;exact(m i).1 _ e z C ((oN (λi=>(a i).1) (λi=>(a i).2) d h x i z).1 q)
   ·cases s
 intro A;have k:=A N none v;rcases u with⟨p,rfl,f⟩|rfl|⟨b,g,rfl,e,t⟩
 ·exact f k
 ·exact k
 ·exact k.elim (l b e) (l g t)
section
variable{G rest:List Fm}{x y z c:Fm}(hG:∀a,a∈G↔a= .imp (.imp x y) z∨a∈rest)
 include hG
theorem Mt{M:KM}{w:M.W}(h:M.fs rest w)(f:M.f (.imp y z) w)(d:M.f x w):M.fs G w:=
 (qC M w hG).2 ⟨λu b e=>f u b (e u (M.refl u) (M.up x w u b d)),h⟩
theorem Ro{M:KM}{w:M.W}(h:M.fs G w):M.fs rest w/\M.f (.imp y z) w:=by
 obtain⟨b,d⟩:=(qC M w hG).1 h;exact⟨d,λu e f=>b u e (vO f)⟩
theorem Vj{G1:List Fm}(d:∀a,a∈G1↔a= .imp y z∨a∈rest):dD G1 (.imp x y)↔dD G (.imp x y):=by
 constructor
 ·intro h M w b;have:=Ro hG b;exact h M w ((qC M w d).2 ⟨this.2,this.1⟩)
 ·intro h M w b u f g;have e:=(qC M w d).1 b;exact h M u (Mt hG (λa i=>M.up a w u f (e.2 a i)) (M.up _ w u f e.1) g) u (M.refl u) g
theorem ur{j:List Fm}(b:∀a,a∈j↔a= .imp y z∨a=x∨a∈rest):dD j y↔dD G (.imp x y):=by
 rw[<-Vj hG (G1:=.imp y z::rest) (λa=>by simp)];exact(dD.imp (λa=>by rw[b a,List.mem_cons];exact or_left_comm)).symm
theorem Pc{j:List Fm}(e:∀a,a∈j↔a=z∨a∈rest)(h:dD G (.imp x y)):dD j c↔dD G c:=by
 constructor
 ·intro k M w d;have b:=(qC M w hG).1 d;exact k M w ((qC M w e).2 ⟨(pj (h M w d)).1 b.1,b.2⟩)
 ·intro k M w d;have b:=(qC M w e).1 d;exact k M w ((qC M w hG).2 ⟨vO b.1,b.2⟩)
end
section
variable{G rest:List Fm}{a b x y c:Fm}
theorem Nl{M:KM}{w:M.W}(d:∀u,u∈G↔u=a∨u∈rest)(h:M.fs rest w->M.f a w):M.fs G w↔M.fs rest w:=by
 rw[qC M w d];exact⟨λh=>h.2,λk=>⟨h k,k⟩⟩
theorem Wh(d:∀u,u∈G↔u= .or a b∨u∈rest)(h:a∈rest∨b∈rest):dD rest c↔dD G c:=
 (dD.congr λ_ _=>Nl d λk=>h.imp (k a) (k b)).symm
theorem ZY(d:∀u,u∈G↔u= .imp .fls b∨u∈rest):dD rest c↔dD G c:=
 (dD.congr λ_ _=>Nl d λ_=>no b).symm
theorem Ze(d:∀u,u∈G↔u= .imp a b∨u∈rest)(h:b∈rest):dD rest c↔dD G c:=
 (dD.congr λ_ _=>Nl d λk=>vO (k b h)).symm
theorem Pu{j:List Fm}(e:∀u,u∈G↔u= .and a b∨u∈rest)(d:∀u,u∈j↔u=a∨u=b∨u∈rest):dD j c↔dD G c:=by
 refine dD.congr λM w=>?_;rw[qC M w e,qC M w (rest:=b::rest) (a:=a) (λu=>by rw[d u,List.mem_cons]),qC M w (G:=b::rest) (a:=b) (λu=>List.mem_cons),Dw,and_assoc]
theorem lx{j d:List Fm}(g:∀u,u∈G↔u= .or a b∨u∈rest)(e:∀u,u∈j↔u=a∨u∈rest)(f:∀u,u∈d↔u=b∨u∈rest):dD G c↔dD j c/\dD d c:=by
 refine dD.two λM w=>?_;rw[qC M w g,qC M w e,qC M w f,Dx];exact or_and_right
theorem jg{j:List Fm}(e:∀u,u∈G↔u= .imp (.and a b) y∨u∈rest)(d:∀u,u∈j↔u= .imp a (.imp b y)∨u∈rest):dD j c↔dD G c:=by
 refine dD.congr λM w=>?_;rw[qC M w e,qC M w d,mo]
theorem lk{j:List Fm}(e:∀u,u∈G↔u= .imp (.or a b) y∨u∈rest)(d:∀u,u∈j↔u= .imp a y∨u= .imp b y∨u∈rest):dD j c↔dD G c:=by
 refine dD.congr λM w=>?_;rw[qC M w e,qC M w (rest:=.imp b y::rest) (a:=.imp a y) (λu=>by rw[d u,List.mem_cons]),qC M w (G:=.imp b y::rest) (a:=.imp b y) (λu=>List.mem_cons),Bq,and_assoc]
theorem jk{j:List Fm}(e:∀u,u∈G↔u= .imp x y∨u∈rest)(d:∀u,u∈j↔u=y∨u∈rest)(f:x∈rest):dD j c↔dD G c:=by
 refine dD.congr λM w=>?_;rw[qC M w e,qC M w d];exact⟨λh=>⟨vO h.1,h.2⟩,λh=>⟨(pj (h.2 x f)).1 h.1,h.2⟩⟩
end
theorem dD.mem{j:List Fm}{r:Fm}(h:r∈j):dD j r:=λ_ _ a=>a r h
theorem dD.fls{j:List Fm}{r:Fm}(h:Fm.fls∈j):dD j r:=λ_ _ a=>(a _ h).elim
def Fm.wt:Fm->Nat
 | .var _=>1
 | .fls=>1
 | .and a b=>a.wt+b.wt+2
 | .or a b=>a.wt+b.wt+1
 | .imp a b=>a.wt+b.wt+1
 | .box _=>1
 | .dia _=>1
theorem Fm.wt_pos(a:Fm):1<=a.wt:=by cases a<;>simp only[Fm.wt]<;>omega
section
variable{P:Program}{w:World}
theorem Eu{k:Nat}{A e:TypeId}(q:P.underlying u=some (.slice e))(r:P.underlying H=some (.int .i64))(l:(P.info? e).map (λi=>(i.zero,i.size,i.bytes))=some (some v,k,n))(y:v.cells.size=k)
  (B:0<x)(K:x*n<=140737488355328)(G:x<=9223372036854775807)
  (h:∀b c w' cs,x<=c->c<=9223372036854775807->cs.length=c*k->bA w w'->b=w.heap.size->GA e w' b cs->t (.slice (some ⟨b,0,none⟩) x c) w'):nD P (Builtin.append_ #[u,H] A #[.slice none 0 0,iv x]) w t:=by
 obtain⟨i,m,d⟩:=Option.map_eq_some_iff.1 l
 clear l
 simp only[Prod.mk.injEq]at d;obtain⟨z,J,D⟩:=d;subst J;subst D;have o:x≠0:=by omega
 have s:IntKind.i64.wrap (x:Int)=(x:Int):=IntWalk.i64_in _ (by omega);have j:¬(9223372036854775807<(x:Int)):=by omega
 have f:¬((281474976710656:Int)<(x:Int)*(i.bytes:Int)):=by
  have:(x:Int)*(i.bytes:Int)=((x*i.bytes:Nat):Int):=by simp
  rw[this];omega
 have g:¬(281474976710656<Builtin.nextslicecap x 0*i.bytes):=by rw[nextslicecap_zero B];omega
 have p:¬((x:Int)<0):=by omega
 have F:=grownCap_ge w x 0 e;have E:=grownCap_le_maxLen w x 0 e (by simpa[maxLen]using G);have I:(Builtin.append_ #[u,H] A #[.slice none 0 0,iv x]).run P w=
   .ok (.slice (some ⟨w.heap.size,0,none⟩) x (grownCap w x 0 e)) (w.drew.alloc (.cells ((if x*i.size=0 then#[]else Builtin.zeroCells v.cells x)++Builtin.zeroCells v.cells (grownCap w x 0 e-x)) e)):=by
  by_cases a:x*i.size=0
  ·simp[Builtin.append_,run_underlying q,run_underlying r,sizeOf,typeInfo,zeroValue,m,z,asInt,asIntOf,s,p,o,j,f,g,a,Question.forced,run_firstCells_none,newRow,grownCap]
  ·simp[Builtin.append_,run_underlying q,run_underlying r,sizeOf,typeInfo,zeroValue,m,z,asInt,asIntOf,s,p,o,j,f,g,a,Question.forced,run_firstCells_none,newRow,grownCap]
 refine⟨_,_,I,?_⟩;have C:=GA.new w.drew ((if x*i.size=0 then#[]else Builtin.zeroCells v.cells x)++Builtin.zeroCells v.cells (grownCap w x 0 e-x)) e;refine h _ _ _ _ F (by simpa[maxLen]using E) ?_ ((bA.drew w).trans (bA.alloc _ _)) rfl C;rw[Array.length_toList,Array.size_append,size_zeroCells,y];by_cases a:x*i.size=0
 ·rw[if_pos a];have:i.size=0:=by
   rcases Nat.mul_eq_zero.1 a with h|h
   ·omega
   ·exact h
  rw[this];simp
 ·rw[if_neg a,size_zeroCells,y,<-Nat.add_mul]
  congr 1;omega
theorem Nm{e:TypeId}{a:Option Addr}(b:P.underlying u=some (.slice e))(h:z (iv n)):xR P w (Builtin.cap_ #[u] H #[.slice a x n]) z:=
 ⟨_,λc _=>by simp[Builtin.cap_,run_underlying b,goInt],h⟩
theorem CK(l:List Nat){i:Nat}(h:i<l.length):(l.take (i+1)).sum=(l.take i).sum+l[i]:=by
 rw[List.take_succ_eq_append_getElem h,List.sum_append];simp
theorem uI(l:List Nat)(i:Nat):(l.take i).sum<=l.sum:=by
 have:=congrArg List.sum (List.take_append_drop i l);rw[List.sum_append]at this;omega
end
abbrev FB:Nat:=2
abbrev UQ:=XA
abbrev GB:=NA
theorem SD:prog.underlying UQ=some (.slice GB):=tJ
theorem kI:(prog.info? GB).map (λi=>(i.zero,i.size,i.bytes))=some (some (.agg #[iv 0,iv 0]),FB,16):=WI
abbrev EC:Nat:=1
abbrev T3:=M6
abbrev GC:=fA
theorem CG:prog.underlying T3=some (.slice GC):=IB
theorem zO:(prog.info? GC).map (λi=>(i.zero,i.size,i.bytes))=some (some (.string ⟨#[]⟩),EC,16):=EB
theorem uL(n:Nat)(p:n<=1099511627776)(w:World):nA prog 413 #[.slice none 0 0,iv n] w λr a=>bA w a/\dB FB w.heap.size GB a r 0 []:=by
 apply LH;unfold qE
 (with_reducible refine jB ?_;refine Ji ?_)
 refine dA (λh=>by omega) (λ_=>?_);intro _;refine Nm (e:=GB) SD ?_
 (with_reducible refine VY ?_);refine HB (by omega) ?_;refine HB (by omega) ?_;(with_reducible refine jB ?_)
 refine dA (λh=>?_) (λ_=>⟨bA.refl w,dB.nil _ _ _ _⟩);refine Nm (e:=GB) SD ?_;refine⟨none,0,0,0,0,rfl,⟨_,rfl⟩,rfl,Nat.le_refl _,Nat.le_refl _,?_⟩;have f:(n:Int)-(((0:Nat):Int)-((0:Nat):Int))=(n:Int):=by omega
 rw[f];refine Eu (k:=FB) SD (by kernel_rfl) kI rfl (by omega) (by omega) (by omega) λb c a d q m l j o i=>?_
 (with_reducible refine VY ?_)
 refine⟨some ⟨b,0,none⟩,n,c,0,0,rfl,⟨_,rfl⟩,rfl,Nat.le_refl _,Nat.zero_le _,?_⟩;rw[if_neg (by omega)];refine⟨j,?_⟩;have g:(some (⟨b,0,none⟩:Addr)).map (·.add (0*FB))=some ⟨b,0,none⟩:=by simp[Addr.add]
 rw[g];exact⟨rfl,.inr ⟨b,c,d.toArray,rfl,by omega,i,Nat.zero_le _,m,by simpa using l,by simp⟩⟩
theorem wD{vs:List Value}{ps:List (Nat×List Value)}(e:Sl w v vs)(U:vs.length=ps.length)(y:∀(i:Nat) (l:i<vs.length) (D:i<ps.length),rB FB w vs[i] ps[i].1 ps[i].2)(h:∀p∈ps,∀u∈p.2,vA u=true)(T:(ps.map Prod.fst).sum<=1099511627776):
  nA prog 260 #[v] w λr a=>bA w a/\dB FB w.heap.size GB a r (ps.map Prod.fst).sum (ps.flatMap Prod.snd):=by
 apply jH;unfold UD;have V:=e.len;have Y:(ps.map Prod.fst).length=ps.length:=List.length_map _;refine XC e ?_;refine MB (λs:Nat×Nat=>[iv (s.1:Int),iv (s.2:Int)]) (λs a=>s.2<=vs.length/\a=w/\s.1=((ps.map Prod.fst).take s.2).sum) (λs=>vs.length-s.2) (0,0) rfl ⟨Nat.zero_le _,rfl,rfl⟩ ?_;rintro⟨m,i⟩ g R ⟨n,rfl,k⟩ G;have n:i<=vs.length:=n;have k:m=((ps.map Prod.fst).take i).sum:=k;have X:=uI (ps.map Prod.fst) i
 (intro _;(try simp only[gx]);(with_reducible refine jB ?_))
 refine dA (λl=>?_) (λl=>?_)
 ·have o:i<vs.length:=by omega
  have M:=y i o (by omega);have f:=CK (ps.map Prod.fst) (i:=i) (by omega);rw[List.getElem_map]at f;have J:=uI (ps.map Prod.fst) (i+1);refine pP e (by omega) (by omega) λp d=>?_;rw[Int.toNat_natCast,List.getElem?_eq_getElem o]at d;refine DD d ?_;refine VB M ?_;refine qA (by omega) ?_;(with_reducible refine jB ?_);refine dA (λD=>by omega) (λ_=>?_);refine qA (by omega) ?_;have B:(m:Int)+((ps[i].1:Nat):Int)=((m+ps[i].1:Nat):Int):=by omega
  rw[B];exact G (m+ps[i].1,i+1) _ ⟨by show i+1<=_;omega,rfl,by show m+ps[i].1=((ps.map Prod.fst).take (i+1)).sum;omega⟩ (by show vs.length-(i+1)<vs.length-i;omega)
 ·have A:i=vs.length:=by omega
  have W:m=(ps.map Prod.fst).sum:=by rw[k,List.take_of_length_le (by omega)]
  refine aA ((uL m (by omega) g).mono ?_);rintro r Z ⟨E,K⟩;refine XC e ?_;refine MB (λs:Value×Nat=>[s.1,iv (s.2:Int)]) (λs a=>s.2<=vs.length/\bA g a/\dB FB g.heap.size GB a s.1 ((ps.map Prod.fst).take s.2).sum ((ps.take s.2).flatMap Prod.snd)) (λs=>vs.length-s.2) (r,0) rfl ⟨Nat.zero_le _,E,K⟩ ?_;rintro⟨Q,j⟩ P S ⟨q,c,b⟩ H;have q:j<=vs.length:=q;have b:dB FB g.heap.size GB P Q ((ps.map Prod.fst).take j).sum ((ps.take j).flatMap Prod.snd):=b
  (intro _;(try simp only[gx]);(with_reducible refine jB ?_))
  refine dA (λF=>?_) (λF=>?_)
  ·have t:j<vs.length:=by omega
   have N:=(y j t (by omega)).ext c;have f:=CK (ps.map Prod.fst) (i:=j) (by omega);rw[List.getElem_map]at f;have J:=uI (ps.map Prod.fst) (j+1);have L:=e.ext c;refine pP L (by omega) (by omega) λp d=>?_;rw[Int.toNat_natCast,List.getElem?_eq_getElem t]at d;refine DD d ?_;refine o7 SD kI rfl (by decide) b N (h _ (List.getElem_mem _)) (by omega) (by omega) c.size λO w8 x I _=>?_;refine qA (by omega) ?_;have C:(ps.take (j+1)).flatMap Prod.snd=(ps.take j).flatMap Prod.snd++ps[j].2:=by
    rw[List.take_succ_eq_append_getElem (by omega),List.flatMap_append];simp
   rw[<-f,<-C]at x;exact H (O,j+1) _ ⟨by show j+1<=_;omega,c.grown I (λz h=>(b.blk z h).1),x⟩ (by show vs.length-(j+1)<vs.length-j;omega)
  ·have A:j=vs.length:=by omega
   rw[List.take_of_length_le (by omega),List.take_of_length_le (by omega)]at b;exact⟨c,b⟩
theorem FR(n:Nat)(p:n<=1099511627776)(w:World):nA prog 233 #[.slice none 0 0,iv n] w λr a=>bA w a/\dB EC w.heap.size GC a r 0 []:=by
 apply rL;unfold gG
 (with_reducible refine jB ?_;refine Ji ?_)
 refine dA (λh=>by omega) (λ_=>?_);intro _;refine Nm (e:=GC) CG ?_
 (with_reducible refine VY ?_);refine HB (by omega) ?_;refine HB (by omega) ?_;(with_reducible refine jB ?_)
 refine dA (λh=>?_) (λ_=>⟨bA.refl w,dB.nil _ _ _ _⟩);refine Nm (e:=GC) CG ?_;refine⟨none,0,0,0,0,rfl,⟨_,rfl⟩,rfl,Nat.le_refl _,Nat.le_refl _,?_⟩;have f:(n:Int)-(((0:Nat):Int)-((0:Nat):Int))=(n:Int):=by omega
 rw[f];refine Eu (k:=EC) CG (by kernel_rfl) zO rfl (by omega) (by omega) (by omega) λb c a d q m l j o i=>?_
 (with_reducible refine VY ?_)
 refine⟨some ⟨b,0,none⟩,n,c,0,0,rfl,⟨_,rfl⟩,rfl,Nat.le_refl _,Nat.zero_le _,?_⟩;rw[if_neg (by omega)];refine⟨j,?_⟩;have g:(some (⟨b,0,none⟩:Addr)).map (·.add (0*EC))=some ⟨b,0,none⟩:=by simp[Addr.add]
 rw[g];exact⟨rfl,.inr ⟨b,c,d.toArray,rfl,by omega,i,Nat.zero_le _,m,by simpa using l,by simp⟩⟩
theorem zH{vs:List Value}{ps:List (Nat×List Value)}(e:Sl w v vs)(U:vs.length=ps.length)(y:∀(i:Nat) (l:i<vs.length) (D:i<ps.length),rB EC w vs[i] ps[i].1 ps[i].2)(h:∀p∈ps,∀u∈p.2,vA u=true)(T:(ps.map Prod.fst).sum<=1099511627776):
  nA prog 137 #[v] w λr a=>bA w a/\dB EC w.heap.size GC a r (ps.map Prod.fst).sum (ps.flatMap Prod.snd):=by
 apply YJ;unfold lF;have V:=e.len;have Y:(ps.map Prod.fst).length=ps.length:=List.length_map _;refine XC e ?_;refine MB (λs:Nat×Nat=>[iv (s.1:Int),iv (s.2:Int)]) (λs a=>s.2<=vs.length/\a=w/\s.1=((ps.map Prod.fst).take s.2).sum) (λs=>vs.length-s.2) (0,0) rfl ⟨Nat.zero_le _,rfl,rfl⟩ ?_;rintro⟨m,i⟩ g R ⟨n,rfl,k⟩ G;have n:i<=vs.length:=n;have k:m=((ps.map Prod.fst).take i).sum:=k;have X:=uI (ps.map Prod.fst) i
 (intro _;(try simp only[gx]);(with_reducible refine jB ?_))
 refine dA (λl=>?_) (λl=>?_)
 ·have o:i<vs.length:=by omega
  have M:=y i o (by omega);have f:=CK (ps.map Prod.fst) (i:=i) (by omega);rw[List.getElem_map]at f;have J:=uI (ps.map Prod.fst) (i+1);refine pP e (by omega) (by omega) λp d=>?_;rw[Int.toNat_natCast,List.getElem?_eq_getElem o]at d;refine DD d ?_;refine VB M ?_;refine qA (by omega) ?_;(with_reducible refine jB ?_);refine dA (λD=>by omega) (λ_=>?_);refine qA (by omega) ?_;have B:(m:Int)+((ps[i].1:Nat):Int)=((m+ps[i].1:Nat):Int):=by omega
  rw[B];exact G (m+ps[i].1,i+1) _ ⟨by show i+1<=_;omega,rfl,by show m+ps[i].1=((ps.map Prod.fst).take (i+1)).sum;omega⟩ (by show vs.length-(i+1)<vs.length-i;omega)
 ·have A:i=vs.length:=by omega
  have W:m=(ps.map Prod.fst).sum:=by rw[k,List.take_of_length_le (by omega)]
  refine aA ((FR m (by omega) g).mono ?_);rintro r Z ⟨E,K⟩;refine XC e ?_;refine MB (λs:Value×Nat=>[s.1,iv (s.2:Int)]) (λs a=>s.2<=vs.length/\bA g a/\dB EC g.heap.size GC a s.1 ((ps.map Prod.fst).take s.2).sum ((ps.take s.2).flatMap Prod.snd)) (λs=>vs.length-s.2) (r,0) rfl ⟨Nat.zero_le _,E,K⟩ ?_;rintro⟨Q,j⟩ P S ⟨q,c,b⟩ H;have q:j<=vs.length:=q;have b:dB EC g.heap.size GC P Q ((ps.map Prod.fst).take j).sum ((ps.take j).flatMap Prod.snd):=b
  (intro _;(try simp only[gx]);(with_reducible refine jB ?_))
  refine dA (λF=>?_) (λF=>?_)
  ·have t:j<vs.length:=by omega
   have N:=(y j t (by omega)).ext c;have f:=CK (ps.map Prod.fst) (i:=j) (by omega);rw[List.getElem_map]at f;have J:=uI (ps.map Prod.fst) (j+1);have L:=e.ext c;refine pP L (by omega) (by omega) λp d=>?_;rw[Int.toNat_natCast,List.getElem?_eq_getElem t]at d;refine DD d ?_;refine o7 CG zO rfl (by decide) b N (h _ (List.getElem_mem _)) (by omega) (by omega) c.size λO w8 x I _=>?_;refine qA (by omega) ?_;have C:(ps.take (j+1)).flatMap Prod.snd=(ps.take j).flatMap Prod.snd++ps[j].2:=by
    rw[List.take_succ_eq_append_getElem (by omega),List.flatMap_append];simp
   rw[<-f,<-C]at x;exact H (O,j+1) _ ⟨by show j+1<=_;omega,c.grown I (λz h=>(b.blk z h).1),x⟩ (by show vs.length-(j+1)<vs.length-j;omega)
  ·have A:j=vs.length:=by omega
   rw[List.take_of_length_le (by omega),List.take_of_length_le (by omega)]at b;exact⟨c,b⟩
theorem Iw{b c d x y:Value}
  (h:∀q w',q=w.heap.size/\w'.heap.size=q+1->bA w w'->GA u w' q [U,b,c,d,x,y]->t (.slice (some ⟨q,0,none⟩) 3 3) w'):
  xB u (Value.cells (.agg #[v,i])) 2 3 [(0,.agg #[U,b]),(1,.agg #[c,d]),(2,.agg #[x,y])] w t:=by
 refine⟨#[U,b,c,d,x,y],?_,h _ _ ⟨rfl,by simp⟩ (bA.alloc w _) (GA.new w #[U,b,c,d,x,y] u)⟩;simp[Instr.fill,Value.cells,show Array.range 6=#[0,1,2,3,4,5]from rfl]
theorem ZG{b:Value}(a:vA U=true)(c:vA b=true)(h:z (.agg #[U,b])):zB #[v,i] #[(0,1),(1,1)] [(0,U),(1,b)] z:=
 GD (cs:=#[U,b]) (by simp[Instr.fill,sA a,sA c]) h
theorem qh(a:vA U=true)(h:z (.agg #[U,i])):zB #[v,i] #[(0,1),(1,1)] [(0,U)] z:=
 GD (cs:=#[U,i]) (by simp[Instr.fill,sA a]) h
def KN(e:TypeId)(b:Nat)(t:jA)(s:FG)(w:World):Prop:=∃k,k<=t.length/\s.1=t.drop k/\GA e w b [sv t,iv k,.bool s.2]
theorem KN.lt{s:jA}{B:FG}(h:KN u x s B w):x<w.heap.size:=by obtain⟨_,_,_,h⟩:=h;exact h.lt
theorem KN.ext{b:Nat}{s:jA}{B:FG}(h:KN u b s B w)(f:bA w a):KN u b s B a:=by obtain⟨k,c,d,e⟩:=h;exact⟨k,c,d,e.ext f⟩
theorem KN.len{s:jA}{B:FG}(h:KN u x s B w):B.1.length<=s.length:=by obtain⟨_,_,h,_⟩:=h;rw[h,List.length_drop];omega
theorem E7{s:jA}(a:x<s.length):tk q (s.drop x,K)=(!K&&decide (s.getD x 0=q)):=by
 simp only[tk,List.head?_drop,List.getElem?_eq_getElem a,Option.some.injEq]
 congr 2
 simp[List.getD_eq_getElem?_getD,a]
theorem ui{s:jA}(a:s.length<=x):tk q (s.drop x,K)=false:=by
 simp[tk,List.drop_of_length_le a]
theorem Wr(a c:UInt8):(((a.toNat:Nat):Int)=((c.toNat:Nat):Int))↔a=c:=by
 constructor
 ·intro h;exact UInt8.toNat_inj.1 (by omega)
 ·rintro rfl;rfl
theorem qD(b:Nat)(a:Fm)(s:FG):(iB b a s).1.size+3*(iB b a s).2.1.length<=a.size+3*s.1.length:=yE _ _ _ _
theorem pJ(b:Nat)(a:Fm)(s:FG):(iB b a s).2.1.length<=s.1.length:=(FC _ _ _ _).length_le
abbrev iL(b:Nat)(w:World)(v:Value)(a:Fm):Prop:=dB 2 b NA w v a.size a.cells
abbrev oC(w:World)(v:Value)(a:Fm):Prop:=rB 2 w v a.size a.cells
theorem yH(c:x=w.heap.size/\a.heap.size=x+1)(b:GA NA a x [v,i]):dB 2 w.heap.size NA a (.slice (some ⟨x,0,none⟩) 1 1) 1 [v,i]:=dB.ofBlk b (by omega) rfl (by omega)
theorem xN(w:World):nA prog 320 #[] w λv a=>bA w a/\iL w.heap.size a v .fls:=by
 apply Od;unfold mY;refine ZG rfl rfl ?_;refine PX λe f d b c=>⟨b,yH d c⟩
theorem Ve(w:World):nA prog 321 #[] w λv a=>bA w a/\iL w.heap.size a v (.imp .fls .fls):=by
 apply Pg;unfold N0;refine ZG rfl rfl ?_;refine ZG rfl rfl ?_;refine ZG rfl rfl ?_;refine Iw λd f e b c=>⟨b,dB.ofBlk c (by omega) rfl (by decide)⟩
theorem CQ(v:Nat)(w:World):nA prog 146 #[iv v] w λr a=>bA w a/\iL w.heap.size a r (.var v):=by
 apply W7;unfold oS;refine ZG rfl rfl ?_;refine PX λe f d b c=>⟨b,yH d c⟩
theorem cG{r P c:Fm}{k:Nat}(x:c.cells=nd k 0++r.cells++P.cells)(B:c.size=1+r.size+P.size)(f:oC w v r)(g:oC w i P)(G:c.size<=1099511627776):
  nA prog 221 #[iv k,v,i] w λl m=>bA w m/\iL w.heap.size m l c:=by
 apply Ri;unfold S6;have y:vA v=true:=by obtain⟨_,_,_,h,_⟩:=f;rw[h];rfl
 have z:vA i=true:=by obtain⟨_,_,_,h,_⟩:=g;rw[h];rfl
 refine ZG rfl rfl ?_;refine PX λI L A b t=>?_;refine Hw rfl rfl y z λJ M F a u=>?_;have C:=(yH A t).sl;refine aA ((wD (ps:=[(1,nd k 0),(r.size,r.cells),(P.size,P.cells)]) (Sl.ofBlk (n:=3) u rfl (by decide)) rfl (λD q E=>?_) (λH j K e=>?_) ?_).mono ?_)
 ·match D,q with
  |0,_=>exact C.ext a
  |1,_=>exact(f.ext b).ext a
  |2,_=>exact(g.ext b).ext a
 ·simp only[List.mem_cons,List.not_mem_nil,or_false]at j;rcases j with rfl|rfl|rfl
  ·simp only[nd,List.mem_cons,List.not_mem_nil,or_false]at e;rcases e with rfl|rfl<;>rfl
  ·exact r.cells_cell _ e
  ·exact P.cells_cell _ e
 ·simp;omega
 ·rintro l N ⟨s,d⟩;refine⟨b.trans (a.trans s),?_⟩;have d:=d.mono (b.trans a).size;have o:([(1,nd k 0),(r.size,r.cells),(P.size,P.cells)].map Prod.fst).sum=c.size:=by simp[B];omega
  have p:[(1,nd k 0),(r.size,r.cells),(P.size,P.cells)].flatMap Prod.snd=c.cells:=by simp[x]
  rw[o,p]at d;exact d
theorem jW{r c:Fm}{k:Nat}(t:c.cells=nd k 0++r.cells)(y:c.size=1+r.size)(f:oC w v r)(D:c.size<=1099511627776):
  nA prog 649 #[iv k,v] w λh i=>bA w i/\iL w.heap.size i h c:=by
 apply Xd;unfold uY;have u:vA v=true:=by obtain⟨_,_,_,m,_⟩:=f;rw[m];rfl
 refine ZG rfl rfl ?_;refine PX λF I x d q=>?_;refine Z8 rfl rfl u λG J C a s=>?_;have z:=(yH x q).sl;refine aA ((wD (ps:=[(1,nd k 0),(r.size,r.cells)]) (Sl.ofBlk (n:=2) s rfl (by decide)) rfl (λA o B=>?_) (λE g H e=>?_) ?_).mono ?_)
 ·match A,o with
  |0,_=>exact z.ext a
  |1,_=>exact(f.ext d).ext a
 ·simp only[List.mem_cons,List.not_mem_nil,or_false]at g;rcases g with rfl|rfl
  ·simp only[nd,List.mem_cons,List.not_mem_nil,or_false]at e;rcases e with rfl|rfl<;>rfl
  ·exact r.cells_cell _ e
 ·simp;omega
 ·rintro h K ⟨p,b⟩;refine⟨d.trans (a.trans p),?_⟩;have b:=b.mono (d.trans a).size;have j:([(1,nd k 0),(r.size,r.cells)].map Prod.fst).sum=c.size:=by simp[y]
  have l:[(1,nd k 0),(r.size,r.cells)].flatMap Prod.snd=c.cells:=by simp[t]
  rw[j,l]at b;exact b
theorem N5{r:Fm}(f:oC w v r)(i:r.size<=1099511627):nA prog 279 #[v] w λb d=>bA w d/\iL w.heap.size d b (.imp r .fls):=by
 apply R7;unfold fS;refine aA ((xN w).mono ?_);rintro u j ⟨a,g⟩;refine aA ((cG (c:=.imp r .fls) (k:=4) rfl rfl (f.ext a) g.sl (by show 1+r.size+1<=_;omega)).mono ?_);rintro b l ⟨e,h⟩;exact⟨a.trans e,h.mono a.size⟩
theorem mE(w:World):nA prog 117 #[] w λv a=>bA w a/\iL w.heap.size a v .fls:=by
 apply f8;unfold vS;refine qh rfl ?_;refine PX λe f d b c=>⟨b,yH d c⟩
theorem TG(v:Nat)(w:World):nA prog 49 #[iv v] w λr a=>bA w a/\iL w.heap.size a r (.var v):=by
 apply we;unfold KY;refine ZG rfl rfl ?_;refine PX λe f d b c=>⟨b,yH d c⟩
theorem jC{r P c:Fm}{k:Nat}(a:c.cells=nd k 0++r.cells++P.cells)(p:c.size=1+r.size+P.size)(j:oC w v r)(l:oC w i P)(s:c.size<=1099511627776):
  nA prog 120 #[iv k,v,i] w λq h=>bA w h/\iL w.heap.size h q c:=by
 apply jb;unfold RU;refine qh rfl ?_;refine PX λt y g b e=>?_;refine o7 tJ WI rfl (by omega) (yH g e) (j.ext b) r.cells_cell (by omega) (by omega) b.size λu z f m _=>?_;have d:=b.grown m (λc a=>((yH g e).blk c a).1);refine o7 tJ WI rfl (by omega) f (l.ext d) P.cells_cell (by omega) (by omega) d.size λx A o n _=>?_;refine⟨d.grown n (λc a=>(f.blk c a).1),?_⟩;unfold iL;rw[p,a];exact o
theorem EN{r c:Fm}{k:Nat}(b:c.cells=nd k 0++r.cells)(j:c.size=1+r.size)(g:oC w v r)(m:c.size<=1099511627776):
  nA prog 118 #[iv k,v] w λl f=>bA w f/\iL w.heap.size f l c:=by
 apply ue;unfold IY;refine qh rfl ?_;refine PX λq o e a d=>?_;refine o7 tJ WI rfl (by omega) (yH e d) (g.ext a) r.cells_cell (by omega) (by omega) a.size λn p i h _=>?_;refine⟨a.grown h (λc b=>((yH e d).blk c b).1),?_⟩;unfold iL;rw[j,b];exact i
theorem mJ{r:Fm}(f:oC w v r)(i:r.size<=1099511627):nA prog 119 #[v] w λb d=>bA w d/\iL w.heap.size d b (.imp r .fls):=by
 apply te;unfold HY;refine aA ((mE w).mono ?_);rintro u j ⟨a,g⟩;refine aA ((jC (c:=.imp r .fls) (k:=4) rfl rfl (f.ext a) g.sl (by show 1+r.size+1<=_;omega)).mono ?_);rintro b l ⟨e,h⟩;exact⟨a.trans e,h.mono a.size⟩
theorem uT(w:World):nA prog 225 #[] w λr b=>bA w b/\iL w.heap.size b r (.imp .fls .fls):=by
 apply ub;unfold WU;refine aA ((mE w).mono ?_);rintro u f ⟨a,d⟩;refine aA ((mJ d.sl (by decide)).mono ?_);rintro r g ⟨c,e⟩;exact⟨a.trans c,e.mono a.size⟩
abbrev Tp(e:TypeId)(b:Nat)(t:jA)(s:FG)(w:World)(c:UInt8)(v:Value)(a:World):Prop:=v= .bool (tk c s)/\KN e b t (if tk c s then nx s else s) a/\Ch (λx=>x=b) w a
theorem Bk{s:jA}(f:GA u w x [sv s,iv n,.bool K])(e:bA w a)(h:tk q (s.drop n,K)=true):Tp u x s (s.drop n,K) w q (.bool true) (a.setCell ⟨x,1,none⟩ (iv ((n:Int)+1))):=by
 have g:n<s.length:=by
  rcases Nat.lt_or_ge n s.length with b|b
  ·exact b
  ·rw[ui b]at h;cases h
 have c:=Ur h;have c:K=false:=c;subst c;refine⟨by rw[h],?_,(e.ch (S:=λd=>d=x)).trans ((PI.setCell a x 1 _).ch (S:=λd=>d=x) rfl) (λ_ h=>.inl h)⟩;rw[if_pos h];refine⟨n+1,g,by simp[nx,List.tail_drop],?_⟩;have:=(f.ext e).set 1 (iv ((n:Int)+1));show GA u _ x [sv s,iv ((n+1:Nat):Int),.bool false];simpa using this
theorem uB{s:jA}{B:FG}(c:UInt8)(r:o=((c.toNat:Nat):Int))(z:s.length<=1099511627776)(h:KN u x s B w):
  nA prog 220 #[.pointer (some ⟨x,0,none⟩),.int .u8 o] w (Tp u x s B w c):=by
 apply qZ;unfold VM;obtain⟨k,q,g,a⟩:=h;obtain⟨t,b⟩:=B;have g:t=s.drop k:=g;have a:GA u w x [sv s,iv k,.bool b]:=a;subst g;subst r;refine WB (λy v=>y=[.bool !tk c (s.drop k,b)]/\bA w v) (λJ e=>?_) ?_
 ·(with_reducible refine bB ?_;refine pB ?_);refine mA (by assumption) (by first|rfl|simp) ?_
  cases b
  ·refine cA rfl ?_
   (with_reducible refine bB ?_;refine pB ?_);refine mA (by assumption) (by first|rfl|simp) ?_;(with_reducible refine bB ?_;refine pB ?_);refine mA (by assumption) (by first|rfl|simp) ?_
   refine HD ?_
   (with_reducible refine LF ?_)
   refine dA (λi=>?_) (λi=>?_)
   ·intro D l;exact e _ _ ⟨by rw[ui (by omega)];rfl,l⟩
   ·(with_reducible refine bB ?_;refine pB ?_);refine mA (by assumption) (by first|rfl|simp) ?_;(with_reducible refine bB ?_;refine pB ?_);refine mA (by assumption) (by first|rfl|simp) ?_
    refine Hp (by omega) ?_
    (with_reducible refine ZF ?_)
    intro E m;refine e _ _ ⟨?_,m⟩;rw[E7 (by omega),Bool.not_false,Bool.true_and,<-decide_not]
    congr 2
    exact decide_eq_decide.2 (not_congr (Wr _ _))
  ·refine iA rfl ?_;intro C j;exact e _ _ ⟨by simp[tk],j⟩
 rintro _ A ⟨rfl,d⟩;intro _;cases f:tk c (s.drop k,b)
 ·refine iA rfl ⟨by rw[f],?_,d.ch⟩;rw[f,if_neg (by decide)];exact⟨k,q,rfl,a.ext d⟩
 ·refine cA rfl ?_;have n:=a.ext d;have p:=Bk a d f
  (with_reducible refine bB ?_;refine pB ?_);refine mA (by assumption) (by first|rfl|simp) ?_;refine qA (by omega) ?_;(with_reducible refine bB ?_;refine pB ?_)
  refine QH n (by simp) rfl λ_=>?_;exact p
theorem kC{s:jA}{B:FG}(c:UInt8)(r:o=((c.toNat:Nat):Int))(z:s.length<=1099511627776)(h:KN u x s B w):
  nA prog 229 #[.pointer (some ⟨x,0,none⟩),.int .u8 o] w (Tp u x s B w c):=by
 apply pb;unfold TU;obtain⟨k,q,g,a⟩:=h;obtain⟨t,b⟩:=B;have g:t=s.drop k:=g;have a:GA u w x [sv s,iv k,.bool b]:=a;subst g;subst r;refine WB (λy v=>y=[.bool (tk c (s.drop k,b))]/\bA w v) (λJ e=>?_) ?_
 ·(with_reducible refine bB ?_;refine pB ?_);refine mA (by assumption) (by first|rfl|simp) ?_;(with_reducible refine TA ?_)
  cases b
  ·refine iA rfl ?_
   (with_reducible refine bB ?_;refine pB ?_);refine mA (by assumption) (by first|rfl|simp) ?_;(with_reducible refine bB ?_;refine pB ?_);refine mA (by assumption) (by first|rfl|simp) ?_
   refine HD ?_
   (with_reducible refine jB ?_)
   refine dA (λi=>?_) (λi=>?_)
   ·(with_reducible refine bB ?_;refine pB ?_);refine mA (by assumption) (by first|rfl|simp) ?_;(with_reducible refine bB ?_;refine pB ?_);refine mA (by assumption) (by first|rfl|simp) ?_
    refine Hp (by omega) ?_
    (with_reducible refine BA ?_)
    intro E m;refine e _ _ ⟨?_,m⟩;rw[E7 (by omega),Bool.not_false,Bool.true_and]
    congr 2
    exact decide_eq_decide.2 (Wr _ _)
   ·intro D l;exact e _ _ ⟨by rw[ui (by omega)],l⟩
  ·refine cA rfl ?_;intro C j;exact e _ _ ⟨by simp[tk],j⟩
 rintro _ A ⟨rfl,d⟩;intro _;cases f:tk c (s.drop k,b)
 ·refine cA rfl ⟨by rw[f],?_,d.ch⟩;rw[f,if_neg (by decide)];exact⟨k,q,rfl,a.ext d⟩
 ·refine iA rfl ?_;have n:=a.ext d;have p:=Bk a d f
  (with_reducible refine bB ?_;refine pB ?_);refine mA (by assumption) (by first|rfl|simp) ?_;refine qA (by omega) ?_;(with_reducible refine bB ?_;refine pB ?_)
  refine QH n (by simp) rfl λ_=>?_;exact p
theorem KN.bad{t:jA}{B:FG}(h:KN u x t B w):KN u x t (B.1,true) (w.setCell ⟨x,2,none⟩ (.bool true)):=by
 obtain⟨k,a,b,c⟩:=h;refine⟨k,a,b,?_⟩;have:=c.set 2 (.bool true);simpa using this
theorem oH{s:jA}{B:FG}(c:UInt8)(j:o=((c.toNat:Nat):Int))(i:s.length<=1099511627776)(h:KN u x s B w):
  nA prog 648 #[.pointer (some ⟨x,0,none⟩),.int .u8 o] w λ_ f=>KN u x s (ndd c B) f/\Ch (λb=>b=x) w f:=by
 apply pZ;unfold UM;refine aA ((uB c j i h).mono ?_);rintro _ k ⟨rfl,a,d⟩;unfold ndd;refine TA ?_;cases e:tk c B
 ·rw[e,if_neg (by decide)]at a;refine iA rfl ?_;obtain⟨l,_,_,g⟩:=id a
  (with_reducible refine bB ?_;refine pB ?_)
  refine QH g (by simp) rfl λ_=>?_;exact⟨KN.bad a,d.trans ((PI.setCell k x 2 _).ch (S:=λb=>b=x) rfl) (λ_ h=>.inl h)⟩
 ·rw[e,if_pos rfl]at a;exact cA rfl ⟨a,d⟩
theorem BL{s:jA}{B:FG}(c:UInt8)(j:o=((c.toNat:Nat):Int))(i:s.length<=1099511627776)(h:KN u x s B w):
  nA prog 651 #[.pointer (some ⟨x,0,none⟩),.int .u8 o] w λ_ f=>KN u x s (ndd c B) f/\Ch (λb=>b=x) w f:=by
 apply ib;unfold QU;refine aA ((kC c j i h).mono ?_);rintro _ k ⟨rfl,a,d⟩;unfold ndd;refine TA ?_;cases e:tk c B
 ·rw[e,if_neg (by decide)]at a;refine iA rfl ?_;obtain⟨l,_,_,g⟩:=id a
  (with_reducible refine bB ?_;refine pB ?_)
  refine QH g (by simp) rfl λ_=>?_;exact⟨KN.bad a,d.trans ((PI.setCell k x 2 _).ch (S:=λb=>b=x) rfl) (λ_ h=>.inl h)⟩
 ·rw[e,if_pos rfl]at a;exact cA rfl ⟨a,d⟩
def Fm.kind:Fm->Nat
 | .var _=>0
 | .fls=>1
 | .and _ _=>2
 | .or _ _=>3
 | .imp _ _=>4
 | .box _=>5
 | .dia _=>6
def Fm.sym:Fm->Nat
 | .var v=>v
 |_=>0
def Fm.kids:Fm->List Fm
 | .and a b=>[a,b]
 | .or a b=>[a,b]
 | .imp a b=>[a,b]
 | .box a=>[a]
 | .dia a=>[a]
 |_=>[]
def YD(k:Nat):Nat:=if k=2∨k=3∨k=4 then 2 else if k=5∨k=6 then 1 else 0
def nB(a:List Fm):List Value:=a.flatMap Fm.cells
def wB(a:List Fm):Nat:=(a.map Fm.size).sum
theorem Fm.cells_kids(f:Fm):f.cells=nd f.kind f.sym++nB f.kids:=by cases f<;>simp[Fm.cells,Fm.kind,Fm.sym,Fm.kids,nB]
theorem Fm.size_kids(f:Fm):f.size=1+wB f.kids:=by cases f<;>simp[Fm.size,Fm.kids,wB]<;>omega
theorem Fm.arity_kids(f:Fm):YD f.kind=f.kids.length:=by cases f<;>rfl
theorem Qb(a:List Fm):(nB a).length=wB a*2:=by
 induction a with
 |nil=>rfl
 |cons f a ih=>simp only[nB,List.flatMap_cons,List.length_append,wB,List.map_cons,List.sum_cons]at ih⊢;rw[f.cells_len,ih];omega
theorem uR(a b:List Fm):nB (a++b)=nB a++nB b:=by simp[nB]
theorem rK(a b:List Fm):wB (a++b)=wB a+wB b:=by simp[wB]
theorem TQ:∀b:List Fm,b.length<=wB b
 |[]=>Nat.zero_le _
 |a::bs=>by have:=a.size_pos;have:=TQ bs;simp only[wB,List.map_cons,List.sum_cons,List.length_cons]at this⊢;omega
theorem So:∀{fs gs:List Fm} {r r':List Value},fs.length=gs.length->nB fs++r=nB gs++r'->fs=gs/\r=r':=by
 suffices H:∀(n:Nat) {fs gs:List Fm} {r r':List Value},wB fs<=n->fs.length=gs.length->nB fs++r=nB gs++r'->fs=gs/\r=r' fromλ{fs}=>H (wB fs) (Nat.le_refl _)
 intro n
 induction n with
 |zero=>
  intro fs gs r r' d a b;cases fs with
  |nil=>cases gs with
   |nil=>exact⟨rfl,b⟩
   |cons _ _=>cases a
  |cons f fs=>simp only[wB,List.map_cons,List.sum_cons]at d;have:=f.size_pos;omega
 |succ n ih=>
  intro fs gs r r' d a b;cases fs with
  |nil=>cases gs with
   |nil=>exact⟨rfl,b⟩
   |cons _ _=>cases a
  |cons f fs=>cases gs with
   |nil=>cases a
   |cons g gs=>
    simp only[List.length_cons,Nat.add_right_cancel_iff]at a;have q:wB (f.kids++fs)<=n:=by
     rw[rK];simp only[wB,List.map_cons,List.sum_cons]at d⊢;have:=f.size_kids;simp only[wB]at this;omega
    have h:nd f.kind f.sym++(nB (f.kids++fs)++r)=nd g.kind g.sym++(nB (g.kids++gs)++r'):=by
     have e:∀(f:Fm) (fs:List Fm) (r:List Value),nB (f::fs)++r=nd f.kind f.sym++(nB (f.kids++fs)++r):=λf fs r=>by
      rw[uR];simp only[nB,List.flatMap_cons];rw[f.cells_kids];simp[nB]
     rw[<-e,<-e];exact b
    simp only[nd,List.cons_append,List.nil_append,List.cons.injEq,Value.int.injEq,true_and]at h;obtain⟨c,j,p⟩:=h;have c:f.kind=g.kind:=by omega
    have j:f.sym=g.sym:=by omega
    have i:f.kids.length=g.kids.length:=by rw[<-f.arity_kids,<-g.arity_kids,c]
    obtain⟨k,l⟩:=ih q (by rw[List.length_append,List.length_append,i,a]) p;obtain⟨m,o⟩:=List.append_inj k i;refine⟨?_,l⟩;have:f=g:=by
     cases f<;>cases g<;>simp[Fm.kind]at c<;>simp[Fm.kids,Fm.sym]at m j<;>simp_all
    rw[this,o]
theorem yf{P g:Fm}(h:P.cells=g.cells):P=g:=by
 have:=(So (fs:=[P]) (gs:=[g]) (r:=[]) (r':=[]) rfl (by simpa[nB]using h)).1;simpa using this
def Fm.isNeg:Fm->Bool
 | .imp _ b=>decide (b= .fls)
 |_=>false
theorem oD:∀f:Fm,f.body.length+2<=4*f.size:=by
 have c:∀(b:Bool) (s:jA),(par b s).length<=s.length+2:=λb s=>by cases b<;>simp[par]
 intro f
 induction f with
 |var v=>simp[Fm.body,Fm.size]
 |fls=>simp[Fm.body,Fm.size]
 |and a b ha hb=>
  have e:=c (decide (a.own<2)) a.body;have d:=c (decide (b.own<3)) b.body;simp only[Fm.body,Fm.size,List.length_append,List.length_cons];omega
 |or a b ha hb=>
  have e:=c (decide (a.own<1)) a.body;have d:=c (decide (b.own<2)) b.body;simp only[Fm.body,Fm.size,List.length_append,List.length_cons];omega
 |imp a b ha hb=>
  have e:=c (decide (a.own<1)) a.body;have d:=c (decide (a.own<3)) a.body;simp only[Fm.body,Fm.size];split
  ·split
   ·simp;have:=a.size_pos;have:=b.size_pos;omega
   ·simp only[List.length_cons];omega
  ·simp only[List.length_append,List.length_cons];omega
 |box a ha=>
  have d:=c (decide (a.own<3)) a.body;simp only[Fm.body,Fm.size,List.length_cons];omega
 |dia a ha=>
  have d:=c (decide (a.own<3)) a.body;simp only[Fm.body,Fm.size,List.length_cons];omega
theorem gE(a:Nat)(f:Fm):(f.txt a).length<=4*f.size:=by
 have:=oD f;unfold Fm.txt par;split
 ·simp;omega
 ·omega
section
variable{P:Program}{w:World}
theorem Jv{i j:Nat}{b d:IntKind}(l:rB x w v n y)(a:i<=j)(k:j<=n)(h:∀r,rB x w r (j-i) ((y.drop (i*x)).take ((j-i)*x))->z r):qP x v (some (.int b (i:Int))) (some (.int d (j:Int))) z:=by
 obtain⟨s,p,q,rfl,t,u,f⟩:=l;have A:i*x<=j*x:=Nat.mul_le_mul_right _ a;have B:j*x<=n*x:=Nat.mul_le_mul_right _ k;refine⟨_,_,_,i,j,rfl,⟨d,rfl⟩,⟨b,rfl⟩,a,by omega,h _ ⟨?_,_,_,rfl,by omega,by omega,?_⟩⟩
 ·rw[List.length_take,List.length_drop,Nat.sub_mul];omega
 ·rcases f with rfl|⟨e,o,rfl,g⟩
  ·exact .inl (by omega)
  ·by_cases m:j-i=0
   ·exact .inl m
   ·refine .inr ⟨e,o+i*x,by rw[if_neg (by omega),Option.map_some,XD],λC c=>?_⟩;rw[Nat.sub_mul]at c⊢;rw[Nat.add_assoc,g _ (by omega),List.getElem?_take,if_pos c,List.getElem?_drop]
theorem sN{i:Nat}{ki:IntKind}{K:Value->Prop}(f:rB x w v n y)(a:i<=n)(h:∀r,rB x w r (n-i) (y.drop (i*x))->K r):qP x v (some (.int ki (i:Int))) none K:=by
 obtain⟨l,j,k,rfl,m,p,c⟩:=f;have q:i*x<=n*x:=Nat.mul_le_mul_right _ a;refine⟨_,_,_,i,n,rfl,rfl,⟨ki,rfl⟩,a,by omega,h _ ⟨?_,_,_,rfl,by omega,by omega,?_⟩⟩
 ·rw[List.length_drop,Nat.sub_mul];omega
 ·rcases c with rfl|⟨b,o,rfl,d⟩
  ·exact .inl (by omega)
  ·by_cases g:n-i=0
   ·exact .inl g
   ·refine .inr ⟨b,o+i*x,by rw[if_neg (by omega),Option.map_some,XD],λs e=>?_⟩;rw[Nat.sub_mul]at e;rw[Nat.add_assoc,d _ (by omega),List.getElem?_drop]
theorem Kv{J:Option Value}{f j:Nat}{b h i:IntKind}(E:P.underlying u=some (.slice H))(s:(P.info? H).map (λC=>(C.zero,C.size,C.bytes))=some (J,x,n))
  (B:rB x w v f y)(e:C<=j)(t:j<=f)(m:∀r,rB x w r (j-C) ((y.drop (C*x)).take ((j-C)*x))->z r):xR P w (Instr.sliceAt u v (some (.int b (C:Int))) (some (.int h (j:Int))) (some (.int i (j:Int)))) z:=by
 obtain⟨Q,F,a⟩:=Option.map_eq_some_iff.1 s;simp only[Prod.mk.injEq]at a;obtain⟨-,D,-⟩:=a;obtain⟨K,c,d,rfl,L,a,o⟩:=B;have M:C*x<=j*x:=Nat.mul_le_mul_right _ e;have N:j*x<=f*x:=Nat.mul_le_mul_right _ t;refine⟨.slice (if j=C then c else c.map (·.add (C*x))) (j-C) (j-C),λk _=>?_,m _ ⟨?_,_,_,rfl,Nat.le_refl _,by omega,?_⟩⟩
 ·have p:(Instr.sliceBounds true f d (some (.int b (C:Int))) (some (.int h (j:Int))) (some (.int i (j:Int)))).run P k= .ok (C,j,j) k:=by
   have A:j<=d:=by omega
   unfold Instr.sliceBounds;simp[Instr.sliceBound,asIntOf,e,A]
  simp[Instr.sliceAt,Instr.slice,CD E,p,AE F,D]
 ·rw[List.length_take,List.length_drop,Nat.sub_mul];omega
 ·rcases o with rfl|⟨l,I,rfl,q⟩
  ·exact .inl (by omega)
  ·by_cases G:j-C=0
   ·exact .inl G
   ·refine .inr ⟨l,I+C*x,by rw[if_neg (by omega),Option.map_some,XD],λO g=>?_⟩;rw[Nat.sub_mul]at g⊢;rw[Nat.add_assoc,q _ (by omega),List.getElem?_take,if_pos g,List.getElem?_drop]
theorem eB{f:Nat}{j:Nat}{b:IntKind}(e:rB x w v n y)(k:o=(j:Int))(a:j<n)(d:f<x)(g:y[j*x+f]?=some i)(h:z i):wA x v (.int b o) λp=>FA f p λq=>kA w q z:=by
 subst k;refine Ys e a λl m c=>?_;refine⟨_,rfl,?_⟩;rw[XD];exact DD ((c f d).trans g) h
theorem uh{t0 t1:TypeId}{b h d:Int}{t v:Operand}(D:P.underlying u=some (.struct (P.fieldsOf u)))(C:P.stoodInHeld u=false)(m:P.eqGuardType P.depth u=false)
  (a:(P.fieldsOf u).toList.map (λf=>(f.name== "_",f.offset,f.type))=[(false,0,t0),(false,1,t1)])(k:P.underlying t0=some (.int .i64))(l:P.underlying t1=some (.int .i64))
  (A:z (.bool (decide (¬(o=h/\b=d))))):xR P w (do eqGuard .neq u t v (.agg #[iv o,iv b]) (.agg #[iv h,iv d]);binOp .neq u (.agg #[iv o,iv b]) (.agg #[iv h,iv d])) z:=by
 refine⟨_,λg _=>?_,A⟩;obtain⟨c,e,B,F,G,H,I,rfl,rfl⟩: ∃c e,(P.fieldsOf u).toList=[c,e]/\ ¬c.name= "_" /\ ¬e.name= "_" /\c.offset=0/\e.offset=1/\c.type=t0/\e.type=t1:=by
  generalize(P.fieldsOf u).toList=s at a;rcases s with _|⟨c,_|⟨e,_|⟨J,s⟩⟩⟩<;>simp at a
  exact⟨c,e,rfl,a.1.1,a.2.1,a.1.2.1,a.2.2.1,a.1.2.2,a.2.2.2⟩
 have i:∀(u:TypeId) (j:Array Value) (p:Nat) (x:Value),P.underlying u=some (.int .i64)->j[p]?=some x->(part u j p).run P g= .ok x g:=λu j p x n E=>by
  have m:VV P u=some false:=by simp[VV,n]
  simp[part,oQ m,E]
 have r:∀(d:Nat) (u:TypeId) (o b:Int),P.underlying u=some (.int .i64)->(Op.equalIn (d+1) u (iv o) (iv b)).run P g= .ok (o==b) g:=λd u o b n=>run_equalIn_int g d u .i64 .i64 o b n;rw[Sem.run_bind,run_eqGuard_agg g .neq u t v _ _ m,Result.andThen_ok,run_neq_struct,run_equalIn_struct g 9999 u _ _ D C,B];simp only[Op.eqFields,ne_eq,F,G,not_false_eq_true,if_true,H,I,Sem.run_bind];rw[i _ _ 0 (iv o) k rfl,Result.andThen_ok,i _ _ 0 (iv h) k rfl,Result.andThen_ok,r 9998 _ o h k,Result.andThen_ok];by_cases q:o=h
 ·subst q;simp only[beq_self_eq_true,Bool.not_true,Bool.false_eq_true,if_false,Sem.run_bind];rw[i _ _ 1 (iv b) l rfl,Result.andThen_ok,i _ _ 1 (iv d) l rfl,Result.andThen_ok,r 9998 _ b d l,Result.andThen_ok];by_cases y:b=d<;>simp[y]
 ·simp[q]
end
theorem xL(k:Nat)(w:World):CB prog 439 #[iv k] w (iv (YD k:Int)):=by
 apply Ma;unfold DU;refine BA ?_;refine sB (decide (k=2∨k=3∨k=4)) w (λJ a=>?_) (λg d=>?_)
 ·refine dA (λh=>?_) (λh=>?_)
  ·rw[decide_eq_true (.inl (by omega))]at a;exact a _ (bA.refl _)
  ·refine BA ?_;refine sB (decide (k=2∨k=3∨k=4)) w (λi c=>?_) (λj f=>?_)
   ·refine dA (λb=>?_) (λb=>?_)
    ·rw[decide_eq_true (.inr (.inl (by omega)))]at c;exact c _ (bA.refl _)
    ·refine BA ?_;rw[show decide (k=2∨k=3∨k=4)=decide ((k:Int)=4)from decide_eq_decide.2 (by omega)]at c;exact c _ (bA.refl _)
   ·intro _;exact a _ f
 ·intro _;simp only[gx];refine dA (λh=>?_) (λh=>?_)
  ·rw[show(YD k:Int)=2 by unfold YD;rw[if_pos h];rfl];exact⟨by first|trivial|rfl,d⟩
  ·refine BA ?_;refine sB (decide (k=5∨k=6)) g (λJ a=>?_) (λl e=>?_)
   ·refine dA (λb=>?_) (λb=>?_)
    ·rw[decide_eq_true (.inl (by omega))]at a;exact a _ (bA.refl _)
    ·refine BA ?_;rw[show decide (k=5∨k=6)=decide ((k:Int)=6)from decide_eq_decide.2 (by omega)]at a;exact a _ (bA.refl _)
   ·intro _;simp only[gx];refine dA (λb=>?_) (λb=>?_)
    ·rw[show(YD k:Int)=1 by unfold YD;rw[if_neg h,if_pos b];rfl];exact⟨by first|trivial|rfl,d.trans e⟩
    ·rw[show(YD k:Int)=0 by unfold YD;rw[if_neg h,if_neg b];rfl];exact⟨by first|trivial|rfl,d.trans e⟩
theorem HQ(k:Nat)(w:World):CB prog 543 #[iv k] w (iv (YD k:Int)):=by
 apply j8;unfold xS;refine BA ?_;refine sB (decide (k=2∨k=3∨k=4)) w (λJ a=>?_) (λg d=>?_)
 ·refine dA (λh=>?_) (λh=>?_)
  ·rw[decide_eq_true (.inl (by omega))]at a;exact a _ (bA.refl _)
  ·refine BA ?_;refine sB (decide (k=2∨k=3∨k=4)) w (λi c=>?_) (λj f=>?_)
   ·refine dA (λb=>?_) (λb=>?_)
    ·rw[decide_eq_true (.inr (.inl (by omega)))]at c;exact c _ (bA.refl _)
    ·refine BA ?_;rw[show decide (k=2∨k=3∨k=4)=decide ((k:Int)=4)from decide_eq_decide.2 (by omega)]at c;exact c _ (bA.refl _)
   ·intro _;exact a _ f
 ·intro _;simp only[gx];refine dA (λh=>?_) (λh=>?_)
  ·rw[show(YD k:Int)=2 by unfold YD;rw[if_pos h];rfl];exact⟨by first|trivial|rfl,d⟩
  ·refine BA ?_;refine sB (decide (k=5∨k=6)) g (λJ a=>?_) (λl e=>?_)
   ·refine dA (λb=>?_) (λb=>?_)
    ·rw[decide_eq_true (.inl (by omega))]at a;exact a _ (bA.refl _)
    ·refine BA ?_;rw[show decide (k=5∨k=6)=decide ((k:Int)=6)from decide_eq_decide.2 (by omega)]at a;exact a _ (bA.refl _)
   ·intro _;simp only[gx];refine dA (λb=>?_) (λb=>?_)
    ·rw[show(YD k:Int)=1 by unfold YD;rw[if_neg h,if_pos b];rfl];exact⟨by first|trivial|rfl,d.trans e⟩
    ·rw[show(YD k:Int)=0 by unfold YD;rw[if_neg h,if_neg b];rfl];exact⟨by first|trivial|rfl,d.trans e⟩
theorem Eh{j:List Fm}{r:Fm}(h:J.drop (x*2)=nB (r::j)++y):J[x*2+0]?=some (iv (r.kind:Int))/\J[x*2+1]?=some (iv (r.sym:Int))/\J.drop ((x+1)*2)=nB (r.kids++j)++y:=by
 have e:nB (r::j)++y=nd r.kind r.sym++(nB (r.kids++j)++y):=by
  rw[uR];simp only[nB,List.flatMap_cons];rw[r.cells_kids];simp[nB]
 rw[e]at h;refine⟨?_,?_,?_⟩
 ·have:=congrArg (λl=>l[0]?) h;simpa[List.getElem?_drop]using this
 ·have:=congrArg (λl=>l[1]?) h;simpa[List.getElem?_drop]using this
 ·have:=congrArg (List.drop 2) h;rw[List.drop_drop]at this;rw[show(x+1)*2=x*2+2 by omega,this];rfl
theorem wL{i:Nat}{r:Fm}(d:rB 2 w v x y)(p:y.drop (i*2)=r.cells++J)(E:x<=1099511627776):CB prog 276 #[v,iv i] w (iv ((i+r.size:Nat):Int)):=by
 apply EV;unfold SM;have D:y.length=x*2:=d.1;refine MB (λs:Nat×List Fm=>[iv (s.1:Int),iv (s.2.length:Int)]) (λs q=>bA w q/\y.drop (s.1*2)=nB s.2++J/\s.1+wB s.2=i+r.size) (λs=>wB s.2) (i,[r]) rfl ⟨bA.refl _,by simpa[nB]using p,by simp[wB]⟩ ?_;rintro⟨j,c⟩ t u ⟨a,b,e⟩ h;have b:y.drop (j*2)=nB c++J:=b;have e:j+wB c=i+r.size:=e;intro _;simp only[gx];refine jB ?_;cases c with
 |nil=>
  refine cA (by simp) ?_;have:j=i+r.size:=by simpa[wB]using e
  exact⟨by rw[this],a⟩
 |cons g gs=>
  refine iA (by simp) ?_;have F:1<=wB (g::gs):=by simp only[wB,List.map_cons,List.sum_cons];have:=g.size_pos;omega
  have o:=congrArg List.length b;rw[List.length_drop,List.length_append,Qb]at o;have m:j<x:=by omega
  refine VB (d.ext a) ?_;refine LF ?_;refine dA (λz=>by omega) (λ_=>?_);obtain⟨n,-,l⟩:=Eh b;refine eB (d.ext a) rfl m (by decide) n ?_;refine gA (xL g.kind t) λH f=>?_;have k:=g.arity_kids;have C:g.kids.length<=2:=by cases g<;>simp[Fm.kids]
  have B:=TQ gs;have G:wB (g::gs)=g.size+wB gs:=by simp[wB]
  refine HB (by omega) ?_;refine qA (by rw[List.length_cons];omega) ?_;refine qA (by omega) ?_;rw[show((g::gs).length:Int)+((YD g.kind:Int)-1)=((g.kids++gs).length:Int)by rw[k,List.length_append,List.length_cons];omega];have A:=g.size_kids;exact h (j+1,g.kids++gs) _ ⟨a.trans f,l,by show j+1+wB (g.kids++gs)=_;rw[rK];omega⟩ (by show wB (g.kids++gs)<wB (g::gs);rw[rK];omega)
theorem pG{i:Nat}{r:Fm}(d:rB 2 w v x y)(p:y.drop (i*2)=r.cells++J)(E:x<=1099511627776):CB prog 373 #[v,iv i] w (iv ((i+r.size:Nat):Int)):=by
 apply IV;unfold eN;have D:y.length=x*2:=d.1;refine MB (λs:Nat×List Fm=>[iv (s.1:Int),iv (s.2.length:Int)]) (λs q=>bA w q/\y.drop (s.1*2)=nB s.2++J/\s.1+wB s.2=i+r.size) (λs=>wB s.2) (i,[r]) rfl ⟨bA.refl _,by simpa[nB]using p,by simp[wB]⟩ ?_;rintro⟨j,c⟩ t u ⟨a,b,e⟩ h;have b:y.drop (j*2)=nB c++J:=b;have e:j+wB c=i+r.size:=e;intro _;simp only[gx];refine jB ?_;cases c with
 |nil=>
  refine cA (by simp) ?_;have:j=i+r.size:=by simpa[wB]using e
  exact⟨by rw[this],a⟩
 |cons g gs=>
  refine iA (by simp) ?_;have F:1<=wB (g::gs):=by simp only[wB,List.map_cons,List.sum_cons];have:=g.size_pos;omega
  have o:=congrArg List.length b;rw[List.length_drop,List.length_append,Qb]at o;have m:j<x:=by omega
  refine VB (d.ext a) ?_;refine LF ?_;refine dA (λz=>by omega) (λ_=>?_);obtain⟨n,-,l⟩:=Eh b;have k:=g.arity_kids;have C:g.kids.length<=2:=by cases g<;>simp[Fm.kids]
  have B:=TQ gs;have G:wB (g::gs)=g.size+wB gs:=by simp[wB]
  refine HB (by rw[List.length_cons];omega) ?_;refine eB (d.ext a) rfl m (by decide) n ?_;refine gA (HQ g.kind t) λH f=>?_;refine qA (by rw[List.length_cons];omega) ?_;refine qA (by omega) ?_;rw[show((g::gs).length:Int)-1+(YD g.kind:Int)=((g.kids++gs).length:Int)by rw[k,List.length_append,List.length_cons];omega];have A:=g.size_kids;exact h (j+1,g.kids++gs) _ ⟨a.trans f,l,by show j+1+wB (g.kids++gs)=_;rw[rK];omega⟩ (by show wB (g.kids++gs)<wB (g::gs);rw[rK];omega)
theorem TI{r P:Fm}{j:List Fm}(a:r.kids=P::j):r.cells.drop (1*2)=P.cells++nB j:=by
 rw[r.cells_kids,a];simp[nB]
theorem Yb{r P h:Fm}(a:r.kids=[P,h]):r.cells.drop ((1+P.size)*2)=h.cells++[]/\r.size=1+P.size+h.size:=by
 refine⟨?_,by have:=r.size_kids;rw[a]at this;simp[wB]at this;omega⟩;rw[r.cells_kids,a,show(1+P.size)*2=2+P.cells.length by rw[P.cells_len];omega,<-List.drop_drop];simp[nB]
theorem IR{i:Nat}{r:Fm}(b:rB 2 w v x y)(c:y.drop (i*2)=r.cells++J)(h:i+r.size<=x)(e:x<=1099511627776):nA prog 392 #[v,iv i] w λu g=>bA w g/\oC g u r:=by
 apply Si;unfold T6;refine gA (wL b c e) λj a=>?_;refine gA (wL (b.ext a) c e) λk d=>?_;refine Kv tJ WI ((b.ext a).ext d) (by omega) h λu f=>⟨a.trans d,?_⟩
 rw[c,Nat.add_sub_cancel_left,<-r.cells_len,List.take_left]at f;exact f
theorem OA{f g:Fm}{gs:List Fm}(h:oC w v f)(a:f.kids=g::gs)(e:f.size<=1099511627776):nA prog 239 #[v] w λu c=>bA w c/\oC c u g:=by
 apply Mg;unfold K0;have b:=f.size_kids;rw[a]at b;simp only[wB,List.map_cons,List.sum_cons]at b;refine aA ((IR (i:=1) h (TI a) (by omega) e).mono ?_);rintro u k ⟨d,j⟩;exact⟨d,j⟩
theorem gB{f g h:Fm}(d:oC w v f)(b:f.kids=[g,h])(c:f.size<=1099511627776):nA prog 240 #[v] w λu e=>bA w e/\oC e u h:=by
 apply Yd;unfold wY;obtain⟨k,m⟩:=Yb b;refine gA (wL (i:=1) d (TI b) c) λn a=>?_;refine aA ((IR (i:=1+g.size) (d.ext a) k (by omega) c).mono ?_);rintro u o ⟨j,l⟩;exact⟨a.trans j,l⟩
theorem rA{r:Fm}(a:oC w v r):r.cells[0*2+0]?=some (iv (r.kind:Int))/\r.cells[0*2+1]?=some (iv (r.sym:Int)):=by
 have _:=a;rw[r.cells_kids];simp[nd]
section
universe u
section
variable{α:Type u}[Inhabited α]
def gt(L:List α)(k:Nat):α:=L.getD k default
theorem LA{e:List α}(h:x<e.length):gt e x=e[x]:=by unfold gt;simp[List.getD_eq_getElem?_getD,h]
theorem oh{e:List α}(a:α)(b:x<e.length)(k:Nat):gt (e.set x a) k=if k=x then a else gt e k:=by
 unfold gt;simp only[List.getD_eq_getElem?_getD,List.getElem?_set];by_cases h:x=k
 ·subst h;simp[b]
 ·simp[h,Ne.symm h]
def sw(L:List α)(i j:Nat):List α:=(L.set i (gt L j)).set j (gt L i)
theorem kw(L:List α)(i j:Nat):(sw L i j).length=L.length:=by simp[sw]
theorem kT{e:List α}(a:x<e.length)(b:n<e.length)(k:Nat):gt (sw e x n) k=if k=n then gt e x else if k=x then gt e n else gt e k:=by
 unfold sw;rw[oh _ (by simpa using b),oh _ a]
theorem lu{e:List α}(a:x<e.length)(b:n<e.length):List.Perm (sw e x n) e:=by
 unfold sw;rw[LA a,LA b];exact List.set_set_perm a b
inductive uH(a b:Nat)(L:List α):List α->Prop
 |refl:uH a b L L
 |step {L':List α} {i j:Nat}:uH a b L L'->a<=i->i<b->a<=j->j<b->b<=L.length->uH a b L (sw L' i j)
theorem uH.len{e a:List α}(h:uH x n e a):a.length=e.length:=by
 induction h with
 |refl=>rfl
 |step _ _ _ _ _ _ ih=>rw[kw,ih]
theorem uH.perm{e a:List α}(h:uH x n e a):List.Perm a e:=by
 induction h with
 |refl=>exact List.Perm.refl _
 |step hs _ _ _ _ _ ih=>exact(lu (by rw[hs.len];omega) (by rw[hs.len];omega)).trans ih
theorem uH.trans{a b:Nat}{e c d:List α}(h:uH a b e c)(k:uH a b c d):uH a b e d:=by
 induction k with
 |refl=>exact h
 |step _ h1 h2 h3 h4 h5 ih=>exact .step ih h1 h2 h3 h4 (by rw[<-h.len];exact h5)
theorem uH.mono{f:Nat}{e a:List α}(h:uH x n e a)(c:f<=x)(d:n<=C)(b:C<=e.length):uH f C e a:=by
 induction h with
 |refl=>exact .refl
 |step _ h1 h2 h3 h4 _ ih=>exact .step ih (by omega) (by omega) (by omega) (by omega) b
theorem uH.out{e a:List α}(h:uH x n e a){k:Nat}(b:k<x∨n<=k):gt a k=gt e k:=by
 induction h with
 |refl=>rfl
 |step hs h1 h2 h3 h4 h5 ih=>rw[kT (by rw[hs.len];omega) (by rw[hs.len];omega),if_neg (by omega),if_neg (by omega),ih]
theorem uH.all{e a:List α}(h:uH x n e a){p:α->Prop}(d:∀k,x<=k->k<n->p (gt e k)):∀k,x<=k->k<n->p (gt a k):=by
 induction h with
 |refl=>exact d
 |step hs h1 h2 h3 h4 h5 ih=>
  intro k b c;rw[kT (by rw[hs.len];omega) (by rw[hs.len];omega)];split
  ·exact ih _ h1 h2
  ·split
   ·exact ih _ h3 h4
   ·exact ih _ b c
theorem uH.one{a b:Nat}{e:List α}(c:a<=x)(d:x<b)(f:a<=n)(g:n<b)(h:b<=e.length):uH a b e (sw e x n):=.step .refl c d f g h
structure j4(lt:α->α->Bool):Prop where
 asym:∀{a b},lt a b=true->lt b a=false
 tr:∀{a b c},lt b a=false->lt c b=false->lt c a=false
variable{lt:α->α->Bool}
 omit [Inhabited α] in
theorem j4.rfl(O:j4 lt)(a:α):lt a a=false:=by
  cases h:lt a a
  ·exact Eq.refl _
  ·have:=O.asym h;rw[h]at this;exact this
 omit [Inhabited α] in
theorem j4.lt_le(O:j4 lt){a b c:α}(h:lt a b=true)(k:lt c b=false):lt a c=true:=by
  cases d:lt a c
  ·have:=O.tr (a:=b) (b:=c) (c:=a) k d;rw[h]at this;cases this
  ·exact Eq.refl _
 omit [Inhabited α] in
def QY(lt:α->α->Bool)(a b:Nat)(L:List α):Prop:=∀p q,a<=p->p<q->q<b->lt (gt L q) (gt L p)=false
theorem QY.mono{f:Nat}{e:List α}(h:QY lt x n e)(d:x<=f)(g:C<=n):QY lt f C e:=λp q b a c=>h p q (by omega) a (by omega)
theorem QY.short{e:List α}(h:n<=x+1):QY lt x n e:=λp q a b c=>by omega
theorem QY.out{f:Nat}{e a:List α}(h:QY lt x n e)(b:uH f C e a)(i:C<=x∨n<=f):QY lt x n a:=λp q c d g=>by
 rw[b.out (by omega),b.out (by omega)];exact h p q c d g
def Pp(lt:α->α->Bool)(a i j:Nat)(L:List α):Prop:=∀p q,a<=p->p<q->q<=i->q≠j->lt (gt L q) (gt L p)=false
theorem Pp.init{e:List α}(h:QY lt x n e):Pp lt x n n e:=λp q a b c d=>h p q a b (by omega)
theorem Pp.done(O:j4 lt){f:Nat}{e:List α}(h:Pp lt x n f e)(c:f<=x∨(x<f/\lt (gt e f) (gt e (f-1))=false))(l:f<=n):QY lt x (n+1) e:=λp q a g j=>by
 by_cases d:q=f
 ·subst d;rcases c with c|⟨k,b⟩
  ·omega
  ·by_cases i:p=q-1
   ·subst i;exact b
   ·exact O.tr (h p (q-1) a (by omega) (by omega) (by omega)) b
 ·exact h p q a g (by omega) d
theorem Pp.swap(O:j4 lt){f:Nat}{e:List α}(h:Pp lt x n f e)(l:x<f)(o:f<=n)(m:n<e.length)(k:lt (gt e f) (gt e (f-1))=true):Pp lt x n (f-1) (sw e f (f-1)):=λp q d i c j=>by
 rw[kT (by omega) (by omega),kT (by omega) (by omega)];rw[if_neg j];by_cases b:q=f
 ·subst b;rw[if_pos rfl];by_cases a:p=q-1
  ·rw[if_pos a];exact O.asym k
  ·rw[if_neg a,if_neg (by omega)];exact h p (q-1) d (by omega) (by omega) (by omega)
 ·rw[if_neg b];by_cases a:p=f-1
  ·rw[if_pos a];exact h f q (by omega) (by omega) c b
  ·rw[if_neg a];by_cases g:p=f
   ·rw[if_pos g];exact h (f-1) q (by omega) (by omega) c b
   ·rw[if_neg g];exact h p q d i c b
def Fg(lt:α->α->Bool)(first b a:Nat)(L:List α):Prop:=∀p c,b<=p->(c=2*p+1∨c=2*p+2)->c<a->lt (gt L (first+p)) (gt L (first+c))=false
def Gg (lt:α → α → Bool) (first lo hi r:Nat) (L:List α):Prop:=
 (∀ p c,lo ≤ p → p ≠ r → (c = 2 * p + 1 ∨ c = 2 * p + 2) → c < hi → lt (gt L (first + p)) (gt L (first + c)) = false) ∧
 (∀ p c,lo ≤ p → (r = 2 * p + 1 ∨ r = 2 * p + 2) → (c = 2 * r + 1 ∨ c = 2 * r + 2) → c < hi → lt (gt L (first + p)) (gt L (first + c)) = false)
theorem Gg.init {first lo hi:Nat} {L:List α} (h:Fg lt first (lo + 1) hi L):Gg lt first lo hi lo L:=
 ⟨fun p c h1 h2 h3 h4=>h p c (by omega) h3 h4,fun p c h1 h2 h3 h4=>by omega⟩
theorem Gg.done {first lo hi r:Nat} {L:List α} (h:Gg lt first lo hi r L) (hr:∀ c,(c = 2 * r + 1 ∨ c = 2 * r + 2) → c < hi → lt (gt L (first + r)) (gt L (first + c)) = false):Fg lt first lo hi L:=fun p c h1 h2 h3=>by
 by_cases hp:p = r
 ·subst hp;exact hr c h2 h3
 ·exact h.1 p c h1 hp h2 h3
theorem Gg.swap (O:j4 lt) {first lo hi r c:Nat} {L:List α} (h:Gg lt first lo hi r L) (hlo:lo ≤ r) (hc:c = 2 * r + 1 ∨ c = 2 * r + 2) (hch:c < hi) (hl:first + hi ≤ L.length)
  (hlt:lt (gt L (first + r)) (gt L (first + c)) = true) (hmax:∀ d,(d = 2 * r + 1 ∨ d = 2 * r + 2) → d < hi → lt (gt L (first + c)) (gt L (first + d)) = false):
  Gg lt first lo hi c (sw L (first + r) (first + c)):=by
 have e:∀ k,k < hi → gt (sw L (first + r) (first + c)) (first + k) = if k = c then gt L (first + r) else if k = r then gt L (first + c) else gt L (first + k):=fun k hk=>by
  rw [kT (by omega) (by omega)]
  simp only [Nat.add_left_cancel_iff]
 constructor
 ·intro p d h1 h2 h3 h4
  rw [e p (by omega),e d h4,if_neg h2]
  by_cases hp:p = r
  ·subst hp
   rw [if_pos rfl]
   by_cases hd:d = c
   ·rw [if_pos hd];exact O.asym hlt
   ·rw [if_neg hd,if_neg (by omega)];exact hmax d h3 h4
  ·rw [if_neg hp]
   have hdc:d ≠ c:=by omega
   rw [if_neg hdc]
   by_cases hd:d = r
   ·rw [if_pos hd];subst hd;exact h.2 p c h1 h3 hc hch
   ·rw [if_neg hd];exact h.1 p d h1 hp h3 h4
 ·intro p d h1 h2 h3 h4
  have hp:p = r:=by omega
  subst hp
  rw [e p (by omega),e d h4,if_neg (by omega),if_pos rfl,if_neg (by omega),if_neg (by omega)]
  exact h.1 c d (by omega) (by omega) h3 h4
theorem Fg.top(O:j4 lt){first:Nat}{e:List α}(h:Fg lt first 0 x e):∀k,k<x->lt (gt e first) (gt e (first+k))=false:=by
 intro k
 induction k using Nat.strongRecOn with
 |ind k c=>
  intro b;by_cases a:k=0
  ·subst a;exact O.rfl _
  ·exact O.tr (h ((k-1)/2) k (Nat.zero_le _) (by omega) b) (c ((k-1)/2) (by omega) (by omega))
def Bg(lt:α->α->Bool)(b d a c:Nat)(L:List α):Prop:=∀p q,b<=p->p<q->q<d-> ¬(a<=p/\q<c)->lt (gt L q) (gt L p)=false
def Qk(lt:α->α->Bool)(a b:Nat)(L:List α):Prop:=∀k,a<=k->k<b->1<=a->lt (gt L k) (gt L (a-1))=false
theorem Bg.all{e:List α}:Bg lt x n x n e:=λ_ _ a _ b c=>(c ⟨a,b⟩).elim
theorem Bg.keep{f:Nat}{e c:List α}(h:Bg lt x n f C e)(a:uH f C e c)(s:x<=f)(t:C<=n):Bg lt x n f C c:=λp q d l g m=>by
 by_cases i:f<=p/\p<C
 ·rw[a.out (k:=q) (by omega)];exact a.all (p:=λb=>lt (gt e q) b=false) (λk o r=>h k q (by omega) (by omega) g (by omega)) p i.1 i.2
 ·rw[a.out (k:=p) (by omega)];by_cases j:f<=q/\q<C
  ·exact a.all (p:=λb=>lt b (gt e p)=false) (λk o r=>h p k d (by omega) (by omega) (by omega)) q j.1 j.2
  ·rw[a.out (k:=q) (by omega)];exact h p q d l g m
theorem Bg.done{f:Nat}{e a:List α}(h:Bg lt x n f C e)(k:uH f C e a)(i:x<=f)(j:C<=n)(l:QY lt f C a):QY lt x n a:=λp q d c g=>by
 by_cases b:f<=p/\q<C
 ·exact l p q b.1 c b.2
 ·exact h.keep k i j p q d c g b
theorem Qk.keep{f:Nat}{e c:List α}(h:Qk lt x n e)(b:uH f C e c)(l:x<=f)(m:C<=n):Qk lt x n c:=λk g i d=>by
 rw[b.out (k:=x-1) (by omega)];by_cases a:f<=k/\k<C
 ·exact b.all (p:=λj=>lt j (gt e (x-1))=false) (λk a o=>h k (by omega) (by omega) d) k a.1 a.2
 ·rw[b.out (k:=k) (by omega)];exact h k g i d
theorem Qk.low{f:Nat}{e:List α}(h:Qk lt x n e)(d:f<=n):Qk lt x f e:=λk a c b=>h k a (by omega) b
def BI(lt:α->α->Bool)(a b m:Nat)(L:List α):Prop:=(∀k,a<=k->k<m->lt (gt L k) (gt L m)=true)/\ ∀k,m<k->k<b->lt (gt L k) (gt L m)=false
theorem BI.lowS{f:Nat}{e d:List α}(h:BI lt x n f e)(a:uH x f e d):BI lt x n f d:=
 ⟨λk b c=>by rw[a.out (k:=f) (by omega)];exact a.all (p:=λg=>lt g (gt e f)=true) h.1 k b c,
  λk b c=>by rw[a.out (k:=f) (by omega),a.out (k:=k) (by omega)];exact h.2 k b c⟩
theorem BI.highS{f:Nat}{e d:List α}(h:BI lt x n f e)(b:uH (f+1) n e d):BI lt x n f d:=
 ⟨λk c a=>by rw[b.out (k:=f) (by omega),b.out (k:=k) (by omega)];exact h.1 k c a,
  λk c a=>by rw[b.out (k:=f) (by omega)];exact b.all (p:=λg=>lt g (gt e f)=false) (λk c a=>h.2 k (by omega) a) k (by omega) a⟩
theorem BI.blw{f:Nat}{e:List α}(h:BI lt x n f e):Qk lt (f+1) n e:=λk b a _=>h.2 k (by omega) a
theorem BI.up(O:j4 lt){f m:Nat}{e:List α}(h:BI lt f C m e)(j:Bg lt x n f C e)(k:QY lt f m e):Bg lt x n (m+1) C e:=λp q g d i l=>by
 by_cases b:f<=p/\q<C
 ·rcases Nat.lt_trichotomy q m with a|a|a
  ·exact k p q b.1 d a
  ·subst a;exact O.asym (h.1 p b.1 d)
  ·rcases Nat.lt_trichotomy p m with c|c|c
   ·exact O.tr (O.asym (h.1 p b.1 c)) (h.2 q a b.2)
   ·subst c;exact h.2 q a b.2
   ·omega
 ·exact j p q g d i b
theorem BI.down(O:j4 lt){f m:Nat}{e:List α}(h:BI lt f C m e)(j:Bg lt x n f C e)(k:QY lt (m+1) C e):Bg lt x n f m e:=λp q g c i l=>by
 by_cases a:f<=p/\q<C
 ·rcases Nat.lt_trichotomy p m with b|b|b
  ·rcases Nat.lt_trichotomy q m with d|d|d
   ·omega
   ·subst d;exact O.asym (h.1 p a.1 c)
   ·exact O.tr (O.asym (h.1 p a.1 b)) (h.2 q d a.2)
  ·subst b;exact h.2 q c a.2
  ·exact k p q b c a.2
 ·exact j p q g c i a
theorem Aq(O:j4 lt){f m:Nat}{e:List α}{b:α}(i:Bg lt x n f C e)(j:∀k,f<=k->k<C->lt (gt e k) b=false)(h:∀k,f<=k->k<m->lt b (gt e k)=false)(_:m<=C):Bg lt x n m C e:=λp q c d g l=>by
 by_cases a:f<=p/\q<C
 ·exact O.tr (h p a.1 (by omega)) (j q (by omega) a.2)
 ·exact i p q c d g a
theorem io(O:j4 lt){f:Nat}{e:List α}{a:α}(d:∀k,x<=k->k<n->lt (gt e k) a=false)(c:∀k,x<=k->k<f->lt a (gt e k)=false)(h:x<f):Qk lt f n e:=λk g b _=>
 O.tr (c (f-1) (by omega) (by omega)) (d k (by omega) b)
theorem QY.pairwise{e:List α}(h:QY lt 0 e.length e):e.Pairwise λx y=>lt y x=false:=by
 rw[List.pairwise_iff_getElem];intro i j b a c;rw[<-LA b,<-LA a];exact h i j (Nat.zero_le _) c a
theorem rI:j4 wC:=⟨pQ,λ{a b c} h k=>by
 cases d:wC c a
 ·rfl
 ·rcases qQ b c with e|e|e
  ·have:=CM e d;rw[h]at this;cases this
  ·subst e;rw[h]at d;cases d
  ·rw[k]at e;cases e⟩
end
end
abbrev RN:=Int×Int
def J3(q:RN):List Value:=[iv q.1,iv q.2]
def OH(N:List RN):List Value:=N.flatMap J3
def cB:Fm->List RN
 | .var v=>[(0,(v:Int))]
 | .fls=>[(1,0)]
 | .and a b=>(2,0)::(cB a++cB b)
 | .or a b=>(3,0)::(cB a++cB b)
 | .imp a b=>(4,0)::(cB a++cB b)
 | .box a=>(5,0)::cB a
 | .dia a=>(6,0)::cB a
theorem MG(q:RN)(N:List RN):OH (q::N)=J3 q++OH N:=by simp[OH]
theorem AZ(M N:List RN):OH (M++N)=OH M++OH N:=by simp[OH]
theorem uD:∀f:Fm,OH (cB f)=f.cells
 | .var v=>rfl
 | .fls=>rfl
 | .and a b=>by rw[cB,MG,AZ,uD a,uD b];simp[Fm.cells,J3]
 | .or a b=>by rw[cB,MG,AZ,uD a,uD b];simp[Fm.cells,J3]
 | .imp a b=>by rw[cB,MG,AZ,uD a,uD b];simp[Fm.cells,J3]
 | .box a=>by rw[cB,MG,uD a];simp[Fm.cells,J3]
 | .dia a=>by rw[cB,MG,uD a];simp[Fm.cells,J3]
theorem ZC:∀f:Fm,(cB f).length=f.size
 | .var _=>rfl
 | .fls=>rfl
 | .and a b=>by simp only[cB,Fm.size,List.length_cons,List.length_append,ZC a,ZC b];omega
 | .or a b=>by simp only[cB,Fm.size,List.length_cons,List.length_append,ZC a,ZC b];omega
 | .imp a b=>by simp only[cB,Fm.size,List.length_cons,List.length_append,ZC a,ZC b];omega
 | .box a=>by simp only[cB,Fm.size,List.length_cons,ZC a];omega
 | .dia a=>by simp only[cB,Fm.size,List.length_cons,ZC a];omega
theorem wl(N:List RN):(OH N).length=N.length*2:=by
 induction N with
 |nil=>rfl
 |cons q N ih=>rw[MG,List.length_append,ih,List.length_cons];show 2+_=_;omega
theorem tG:∀{N:List RN} {i:Nat} (h:i<N.length),(OH N)[i*2+0]?=some (iv N[i].1)/\(OH N)[i*2+1]?=some (iv N[i].2)
 |[],_,h=>by simp at h
 |q::N,0,_=>⟨rfl,rfl⟩
 |q::N,i+1,h=>by
  have:=tG (N:=N) (i:=i) (by simpa using h);have e:∀f,(OH (q::N))[(i+1)*2+f]?=(OH N)[i*2+f]?:=λf=>by
   rw[MG,List.getElem?_append_right (by simp[J3];omega)]
   congr 1
   simp[J3];omega
  rw[e,e];simpa using this
def cP(q:RN):Bool:=decide (0<=q.1/\q.1<=6)&&(decide (0<=q.2/\q.2<=5)&&(decide (q.1=0)||decide (q.2=0)))
theorem bX{q:RN}:cP q=true↔(0<=q.1/\q.1<=6)/\(0<=q.2/\q.2<=5)/\(q.1=0∨q.2=0):=by
 unfold cP;rw[Bool.and_eq_true,Bool.and_eq_true,Bool.or_eq_true,decide_eq_true_eq,decide_eq_true_eq,decide_eq_true_eq,decide_eq_true_eq]
def Gs(k:Int):Nat:=if k=2∨k=3∨k=4 then 2 else if k=5∨k=6 then 1 else 0
theorem zm(k:Nat):Gs (k:Int)=YD k:=by
 unfold Gs YD;have c:((k:Int)=2∨(k:Int)=3∨(k:Int)=4)↔(k=2∨k=3∨k=4):=by omega
 have d:((k:Int)=5∨(k:Int)=6)↔(k=5∨k=6):=by omega
 by_cases a:k=2∨k=3∨k=4
 ·rw[if_pos (c.2 a),if_pos a]
 ·rw[if_neg (λh=>a (c.1 h)),if_neg a];by_cases b:k=5∨k=6
  ·rw[if_pos (d.2 b),if_pos b]
  ·rw[if_neg (λh=>b (d.1 h)),if_neg b]
def f4:List RN->Nat->Option (List RN)
 |N,0=>some N
 |[],_+1=>none
 |q::N,o+1=>f4 N (o+Gs q.1)
theorem o2(N:List RN):f4 N 0=some N:=by cases N<;>rfl
theorem uj(q:RN)(N:List RN)(o:Nat):f4 (q::N) (o+1)=f4 N (o+Gs q.1):=rfl
theorem qM:∀(f:Fm) (R:List RN) (o:Nat),f4 (cB f++R) (o+1)=f4 R o
 | .var v,R,o=>rfl
 | .fls,R,o=>rfl
 | .and a b,R,o=>by
  show f4 (cB a++cB b++R) (o+1+1)=_;rw[List.append_assoc,qM a,qM b]
 | .or a b,R,o=>by
  show f4 (cB a++cB b++R) (o+1+1)=_;rw[List.append_assoc,qM a,qM b]
 | .imp a b,R,o=>by
  show f4 (cB a++cB b++R) (o+1+1)=_;rw[List.append_assoc,qM a,qM b]
 | .box a,R,o=>by
  show f4 (cB a++R) (o+1)=_;rw[qM a]
 | .dia a,R,o=>by
  show f4 (cB a++R) (o+1)=_;rw[qM a]
theorem Ef:∀(N:List RN) (o:Nat) (R:List RN),(∀t∈N,cP t=true)->f4 N o=some R-> ∃a:List Fm,a.length=o/\(∀f∈a,f.good)/\N=a.flatMap cB++R
 |N,0,R,_,h=>by
  rw[o2]at h;refine⟨[],rfl,λf d=>?_,?_⟩
  ·cases d
  ·exact Option.some.inj h
 |[],o+1,R,_,h=>by cases h
 |t::N,o+1,R,hok,h=>by
  rw[uj]at h;obtain⟨a,g,i,m⟩:=Ef N (o+Gs t.1) R (λG F=>hok G (List.mem_cons_of_mem _ F)) h;obtain⟨k,s⟩:=t;have E:=bX.1 (hok _ List.mem_cons_self);obtain⟨⟨y,z⟩,⟨v,C⟩,x⟩:=E;have y:0<=k:=y;have z:k<=6:=z;have v:0<=s:=v;have C:s<=5:=C;have x:k=0∨s=0:=x;have g:a.length=o+Gs k:=g;have w:∀{c:Fm->Fm->Fm} {n:Int},k=n->Gs k=2->s=0->(∀b l,cB (c b l)=(n,0)::(cB b++cB l))->(∀b l,b.good->l.good->(c b l).good)-> ∃a:List Fm,a.length=o+1/\(∀f∈a,f.good)/\(k,s)::N=a.flatMap cB++R:=by
   intro c n u e r p q;rw[e]at g
   match a,g,i,m with
   |b::l::a,g,i,m=>
    refine⟨c b l::a,by simpa using g,λf d=>?_,?_⟩
    ·rcases List.mem_cons.1 d with rfl|d
     ·exact q _ _ (i b (by simp)) (i l (by simp))
     ·exact i f (by simp[d])
    ·rw[m,u,r];simp[p]
  have B:∀{c:Fm->Fm} {n:Int},k=n->Gs k=1->s=0->(∀b,cB (c b)=(n,0)::cB b)->(∀b,b.good->(c b).good)-> ∃a:List Fm,a.length=o+1/\(∀f∈a,f.good)/\(k,s)::N=a.flatMap cB++R:=by
   intro c n u e r p q;rw[e]at g
   match a,g,i,m with
   |b::a,g,i,m=>
    refine⟨c b::a,by simpa using g,λf d=>?_,?_⟩
    ·rcases List.mem_cons.1 d with rfl|d
     ·exact q _ (i b (by simp))
     ·exact i f (by simp[d])
    ·rw[m,u,r];simp[p]
  have A:∀{c:Fm},Gs k=0->cB c=[(k,s)]->c.good-> ∃a:List Fm,a.length=o+1/\(∀f∈a,f.good)/\(k,s)::N=a.flatMap cB++R:=by
   intro c e p q;rw[e]at g;refine⟨c::a,by rw[List.length_cons];omega,λf d=>?_,?_⟩
   ·rcases List.mem_cons.1 d with rfl|d
    ·exact q
    ·exact i f d
   ·rw[m,List.flatMap_cons,p];simp
  have D:k=0∨k=1∨k=2∨k=3∨k=4∨k=5∨k=6:=by omega
  rcases D with h|h|h|h|h|h|h
  ·refine A (c:=.var s.toNat) (by rw[h];rfl) ?_ (show s.toNat<6 by omega);rw[h];show[(0,((s.toNat:Nat):Int))]=_;rw[Int.toNat_of_nonneg v]
  ·have r:s=0:=by omega
   exact A (c:=.fls) (by rw[h];rfl) (by rw[h,r];rfl) trivial
  ·exact w (c:=.and) h (by rw[h];rfl) (by omega) (λ_ _=>rfl) λ_ _ j e=>⟨j,e⟩
  ·exact w (c:=.or) h (by rw[h];rfl) (by omega) (λ_ _=>rfl) λ_ _ j e=>⟨j,e⟩
  ·exact w (c:=.imp) h (by rw[h];rfl) (by omega) (λ_ _=>rfl) λ_ _ j e=>⟨j,e⟩
  ·exact B (c:=.box) h (by rw[h];rfl) (by omega) (λ_=>rfl) λ_ j=>j
  ·exact B (c:=.dia) h (by rw[h];rfl) (by omega) (λ_=>rfl) λ_ j=>j
theorem BD:∀{f:Fm},f.good-> ∀q∈cB f,cP q=true
 | .var v,h,q,c=>by
  simp only[cB,List.mem_singleton]at c;subst c;have h:v<6:=h;exact bX.2 ⟨by simp,by simp;omega,.inl rfl⟩
 | .fls,_,q,c=>by simp only[cB,List.mem_singleton]at c;subst c;rfl
 | .and a b,h,q,c=>by
  simp only[cB,List.mem_cons,List.mem_append]at c;rcases c with rfl|c|c
  ·rfl
  ·exact BD h.1 q c
  ·exact BD h.2 q c
 | .or a b,h,q,c=>by
  simp only[cB,List.mem_cons,List.mem_append]at c;rcases c with rfl|c|c
  ·rfl
  ·exact BD h.1 q c
  ·exact BD h.2 q c
 | .imp a b,h,q,c=>by
  simp only[cB,List.mem_cons,List.mem_append]at c;rcases c with rfl|c|c
  ·rfl
  ·exact BD h.1 q c
  ·exact BD h.2 q c
 | .box a,h,q,c=>by
  simp only[cB,List.mem_cons]at c;rcases c with rfl|c
  ·rfl
  ·exact BD (f:=a) h q c
 | .dia a,h,q,c=>by
  simp only[cB,List.mem_cons]at c;rcases c with rfl|c
  ·rfl
  ·exact BD (f:=a) h q c
def MW(N:List RN):Bool:=N.all cP&&decide (f4 N 1=some [])
def Jj(N:List RN):Bool:=decide (N.length<=40)&&MW N
theorem zp{T:List RN}:MW T=true↔ ∃f:Fm,f.good/\T=cB f:=by
 unfold MW;rw[Bool.and_eq_true,decide_eq_true_eq,List.all_eq_true];constructor
 ·rintro⟨d,e⟩;obtain⟨c,g,a,b⟩:=Ef T 1 [] d e
  match c,g,a,b with
  |[f],_,a,b=>exact⟨f,a f (by simp),by simpa using b⟩
 ·rintro⟨f,a,rfl⟩;refine⟨BD a,?_⟩;have:=qM f [] 0;rw[List.append_nil]at this;rw[this];rfl
theorem WW{T:List RN}:Jj T=true↔ ∃f:Fm,f.good/\f.size<=40/\T=cB f:=by
 unfold Jj;rw[Bool.and_eq_true,decide_eq_true_eq,zp];constructor
 ·rintro⟨h,f,a,rfl⟩;exact⟨f,a,by rwa [ZC]at h,rfl⟩
 ·rintro⟨f,a,h,rfl⟩;exact⟨by rwa [ZC],f,a,rfl⟩
theorem Gr{r P:Fm}(h:cB r=cB P):r=P:=yf (by rw[<-uD,<-uD,h])
theorem Av{a:Type}[Inhabited a]{e B:List a}(h:x<e.length):gt (e++B) x=gt e x:=by
 rw[LA (by rw[List.length_append];omega),LA h,List.getElem_append_left h]
theorem Au:fl 0=4:=rfl
theorem tw:fl 1=3:=rfl
theorem Bu:fl 2=2:=rfl
theorem Hm:fl 3=1:=rfl
theorem Hd:∀v,v<6->(vl v).toNat=112+v
 |0,_=>rfl
 |1,_=>rfl
 |2,_=>rfl
 |3,_=>rfl
 |4,_=>rfl
 |5,_=>rfl
 |v+6,h=>by omega
theorem ns(b:x<6)(a:n<6)(h:vl x=vl n):x=n:=by
 have:=congrArg UInt8.toNat h;rw[Hd x b,Hd n a]at this;omega
theorem rG(a:x<6)(h:q.toNat<112∨117<q.toNat):vl x≠q:=by
 rintro rfl;rw[Hd x a]at h;omega
abbrev pf(e:TypeId)(b:Nat)(t:jA)(c:TypeId)(r:Fm×FG)(w:World)(v:Value)(a:World):Prop:=KN e b t r.2 a/\Ch (λx=>x=b) w a/\dB 2 w.heap.size c a v r.1.size r.1.cells
theorem qJ{s:jA}{B:FG}{f:Nat}(h:KN u x s B w)(d:dB 2 n H a v f y)(g:w.heap.size<=n):∀c,v.ownBlock=some c-> ¬c=x:=λc b e=>by
 have:=(d.blk c b).1;have:=h.lt;omega
def I0(f:FuncId)(a m:Nat):Prop:=∀(e:TypeId) (b:Nat) (t:jA) (s:FG) (w:World),t.length<=4194304->KN e b t s w->8*s.1.length+fl a<=m->nA prog f #[.pointer (some ⟨b,0,none⟩)] w (pf e b t NA (iB a .fls s) w)
theorem DW(z:I0 219 1 x)(r:I0 115 0 x):I0 115 0 (x+1):=by
 intro g f t s B o h u;rw[Au]at u;apply yX;unfold TL;refine aA ((z g f t s B o h (by rw[tw];omega)).mono ?_);rintro J M ⟨p,j,n⟩;have E:=pJ 1 .fls s;have H:=qD 1 .fls s;have G:=h.len;rw[Yo];refine aA ((uB 62 (by decide) (by omega) p).mono ?_);rintro _ C ⟨rfl,a,b⟩;have e:=n.ch b (qJ h n (Nat.le_refl _));cases d:tk 62 (iB 1 .fls s).2
 ·rw[d,if_neg (by decide)]at a;exact cA rfl ⟨a,tA j b,e⟩
 ·rw[d,if_pos rfl]at a;have F:=pC d;rw[if_pos rfl];refine iA rfl ?_;refine aA ((r g f t _ C o a (by rw[Au];omega)).mono ?_);rintro K N ⟨q,l,w⟩;have I:=qD 0 .fls (nx (iB 1 .fls s).2);have D:Fm.fls.size=1:=rfl;have v:=e.ch l (qJ h e (Nat.le_refl _));have A:(Fm.imp (iB 1 .fls s).1 (iB 0 .fls (nx (iB 1 .fls s).2)).1).size<=1099511627776:=by
   show 1+_+_<=_;omega
  refine aA ((cG (c:=.imp (iB 1 .fls s).1 (iB 0 .fls (nx (iB 1 .fls s).2)).1) (k:=4) rfl rfl v.sl w.sl A).mono ?_);rintro L O ⟨i,y⟩;have m:=tA j (tA b l);exact⟨q.ext i,oB m i,y.mono m.size⟩
theorem H6(z:I0 228 1 x)(r:I0 131 0 x):I0 131 0 (x+1):=by
 intro g f t s B o h u;rw[Au]at u;apply i8;unfold wS;refine aA ((z g f t s B o h (by rw[tw];omega)).mono ?_);rintro J M ⟨p,j,n⟩;have E:=pJ 1 .fls s;have H:=qD 1 .fls s;have G:=h.len;rw[Yo];refine aA ((kC 62 (by decide) (by omega) p).mono ?_);rintro _ C ⟨rfl,a,b⟩;have e:=n.ch b (qJ h n (Nat.le_refl _));cases d:tk 62 (iB 1 .fls s).2
 ·rw[d,if_neg (by decide)]at a;exact cA rfl ⟨a,tA j b,e⟩
 ·rw[d,if_pos rfl]at a;have F:=pC d;rw[if_pos rfl];refine iA rfl ?_;refine aA ((r g f t _ C o a (by rw[Au];omega)).mono ?_);rintro K N ⟨q,l,w⟩;have I:=qD 0 .fls (nx (iB 1 .fls s).2);have D:Fm.fls.size=1:=rfl;have v:=e.ch l (qJ h e (Nat.le_refl _));have A:(Fm.imp (iB 1 .fls s).1 (iB 0 .fls (nx (iB 1 .fls s).2)).1).size<=1099511627776:=by
   show 1+_+_<=_;omega
  refine aA ((jC (c:=.imp (iB 1 .fls s).1 (iB 0 .fls (nx (iB 1 .fls s).2)).1) (k:=4) rfl rfl v.sl w.sl A).mono ?_);rintro L O ⟨i,y⟩;have m:=tA j (tA b l);exact⟨q.ext i,oB m i,y.mono m.size⟩
theorem L3(A:I0 375 2 x):I0 219 1 (x+1):=by
 intro e b t s w B h J;rw[tw]at J;apply O4;unfold DP;refine aA ((A e b t s w B h (by rw[Bu];omega)).mono ?_);rintro v w1 ⟨E,H,K⟩;have I:=pJ 2 .fls s;have X:=qD 2 .fls s;have W:=h.len;have T:Fm.fls.size=1:=rfl;rw[Hr];refine MB (λq:Value×Fm×FG=>[q.1]) (λq n=>KN e b t q.2.2 n/\Ch (λR=>R=b) w n/\dB 2 w.heap.size NA n q.1 q.2.1.size q.2.1.cells/\iB 4 q.2.1 q.2.2=iB 4 (iB 2 .fls s).1 (iB 2 .fls s).2/\q.2.2.1.length<=s.1.length/\q.2.1.size+3*q.2.2.1.length<=1+3*s.1.length) (λq=>q.2.2.1.length) (v,iB 2 .fls s) rfl
  ⟨E,H,K,rfl,I,by show(iB 2 .fls s).1.size+3*(iB 2 .fls s).2.1.length<=_;omega⟩ ?_
 rintro⟨v,a,q⟩ C S ⟨j,p,g,i,y,z⟩ G;have j:KN e b t q C:=j;have g:dB 2 w.heap.size NA C v a.size a.cells:=g;have i:iB 4 a q=_:=i;have y:q.1.length<=s.1.length:=y;have z:a.size+3*q.1.length<=1+3*s.1.length:=z;intro _;refine aA ((uB 124 (by decide) (by omega) j).mono ?_);rintro _ Q ⟨rfl,d,l⟩;have m:=g.ch l (qJ h g (Nat.le_refl _));rw[<-i,pk];cases f:tk 124 q
 ·rw[f,if_neg (by decide)]at d;rw[if_neg (by decide)];exact cA rfl ⟨d,tA p l,m⟩
 ·rw[f,if_pos rfl]at d;have V:=pC f;rw[if_pos rfl];refine iA rfl ?_;refine aA ((A e b t _ Q B d (by rw[Bu];omega)).mono ?_);rintro Z w5 ⟨F,r,M⟩;have Y:=qD 2 .fls (nx q);have U:=pJ 2 .fls (nx q);have L:=m.ch r (qJ h m (Nat.le_refl _));have O:(Fm.or a (iB 2 .fls (nx q)).1).size<=1099511627776:=by
   show 1+_+_<=_;omega
  refine aA ((cG (c:=.or a (iB 2 .fls (nx q)).1) (k:=3) rfl rfl L.sl M.sl O).mono ?_);rintro P w6 ⟨o,N⟩;have u:=tA p (tA l r);have D:iB 4 (iB 2 .fls s).1 (iB 2 .fls s).2=iB 4 (.or a (iB 2 .fls (nx q)).1) (iB 2 .fls (nx q)).2:=by rw[<-i,pk,if_pos f]
  refine G (P,.or a (iB 2 .fls (nx q)).1,(iB 2 .fls (nx q)).2) _ ⟨F.ext o,oB u o,N.mono u.size,D.symm,by show(iB 2 .fls (nx q)).2.1.length<=_;omega,?_⟩ (by show(iB 2 .fls (nx q)).2.1.length<q.1.length;omega);show 1+a.size+(iB 2 .fls (nx q)).1.size+3*(iB 2 .fls (nx q)).2.1.length<=_;omega
theorem A0(A:I0 549 3 x):I0 375 2 (x+1):=by
 intro e b t s w B h J;rw[Bu]at J;apply C1;unfold eO;refine aA ((A e b t s w B h (by rw[Hm];omega)).mono ?_);rintro v w1 ⟨E,H,K⟩;have I:=pJ 3 .fls s;have X:=qD 3 .fls s;have W:=h.len;have T:Fm.fls.size=1:=rfl;rw[Ir];refine MB (λq:Value×Fm×FG=>[q.1]) (λq n=>KN e b t q.2.2 n/\Ch (λR=>R=b) w n/\dB 2 w.heap.size NA n q.1 q.2.1.size q.2.1.cells/\iB 5 q.2.1 q.2.2=iB 5 (iB 3 .fls s).1 (iB 3 .fls s).2/\q.2.2.1.length<=s.1.length/\q.2.1.size+3*q.2.2.1.length<=1+3*s.1.length) (λq=>q.2.2.1.length) (v,iB 3 .fls s) rfl
  ⟨E,H,K,rfl,I,by show(iB 3 .fls s).1.size+3*(iB 3 .fls s).2.1.length<=_;omega⟩ ?_
 rintro⟨v,a,q⟩ C S ⟨j,p,g,i,y,z⟩ G;have j:KN e b t q C:=j;have g:dB 2 w.heap.size NA C v a.size a.cells:=g;have i:iB 5 a q=_:=i;have y:q.1.length<=s.1.length:=y;have z:a.size+3*q.1.length<=1+3*s.1.length:=z;intro _;refine aA ((uB 38 (by decide) (by omega) j).mono ?_);rintro _ Q ⟨rfl,d,l⟩;have m:=g.ch l (qJ h g (Nat.le_refl _));rw[<-i,qk];cases f:tk 38 q
 ·rw[f,if_neg (by decide)]at d;rw[if_neg (by decide)];exact cA rfl ⟨d,tA p l,m⟩
 ·rw[f,if_pos rfl]at d;have V:=pC f;rw[if_pos rfl];refine iA rfl ?_;refine aA ((A e b t _ Q B d (by rw[Hm];omega)).mono ?_);rintro Z w5 ⟨F,r,M⟩;have Y:=qD 3 .fls (nx q);have U:=pJ 3 .fls (nx q);have L:=m.ch r (qJ h m (Nat.le_refl _));have O:(Fm.and a (iB 3 .fls (nx q)).1).size<=1099511627776:=by
   show 1+_+_<=_;omega
  refine aA ((cG (c:=.and a (iB 3 .fls (nx q)).1) (k:=2) rfl rfl L.sl M.sl O).mono ?_);rintro P w6 ⟨o,N⟩;have u:=tA p (tA l r);have D:iB 5 (iB 3 .fls s).1 (iB 3 .fls s).2=iB 5 (.and a (iB 3 .fls (nx q)).1) (iB 3 .fls (nx q)).2:=by rw[<-i,qk,if_pos f]
  refine G (P,.and a (iB 3 .fls (nx q)).1,(iB 3 .fls (nx q)).2) _ ⟨F.ext o,oB u o,N.mono u.size,D.symm,by show(iB 3 .fls (nx q)).2.1.length<=_;omega,?_⟩ (by show(iB 3 .fls (nx q)).2.1.length<q.1.length;omega);show 1+a.size+(iB 3 .fls (nx q)).1.size+3*(iB 3 .fls (nx q)).2.1.length<=_;omega
theorem jf(A:I0 376 2 x):I0 228 1 (x+1):=by
 intro e b t s w B h J;rw[tw]at J;apply Rg;unfold P0;refine aA ((A e b t s w B h (by rw[Bu];omega)).mono ?_);rintro v w1 ⟨E,H,K⟩;have I:=pJ 2 .fls s;have X:=qD 2 .fls s;have W:=h.len;have T:Fm.fls.size=1:=rfl;rw[Hr];refine MB (λq:Value×Fm×FG=>[q.1]) (λq n=>KN e b t q.2.2 n/\Ch (λR=>R=b) w n/\dB 2 w.heap.size NA n q.1 q.2.1.size q.2.1.cells/\iB 4 q.2.1 q.2.2=iB 4 (iB 2 .fls s).1 (iB 2 .fls s).2/\q.2.2.1.length<=s.1.length/\q.2.1.size+3*q.2.2.1.length<=1+3*s.1.length) (λq=>q.2.2.1.length) (v,iB 2 .fls s) rfl
  ⟨E,H,K,rfl,I,by show(iB 2 .fls s).1.size+3*(iB 2 .fls s).2.1.length<=_;omega⟩ ?_
 rintro⟨v,a,q⟩ C S ⟨j,p,g,i,y,z⟩ G;have j:KN e b t q C:=j;have g:dB 2 w.heap.size NA C v a.size a.cells:=g;have i:iB 4 a q=_:=i;have y:q.1.length<=s.1.length:=y;have z:a.size+3*q.1.length<=1+3*s.1.length:=z;intro _;refine aA ((kC 124 (by decide) (by omega) j).mono ?_);rintro _ Q ⟨rfl,d,l⟩;have m:=g.ch l (qJ h g (Nat.le_refl _));rw[<-i,pk];cases f:tk 124 q
 ·rw[f,if_neg (by decide)]at d;rw[if_neg (by decide)];exact cA rfl ⟨d,tA p l,m⟩
 ·rw[f,if_pos rfl]at d;have V:=pC f;rw[if_pos rfl];refine iA rfl ?_;refine aA ((A e b t _ Q B d (by rw[Bu];omega)).mono ?_);rintro Z w5 ⟨F,r,M⟩;have Y:=qD 2 .fls (nx q);have U:=pJ 2 .fls (nx q);have L:=m.ch r (qJ h m (Nat.le_refl _));have O:(Fm.or a (iB 2 .fls (nx q)).1).size<=1099511627776:=by
   show 1+_+_<=_;omega
  refine aA ((jC (c:=.or a (iB 2 .fls (nx q)).1) (k:=3) rfl rfl L.sl M.sl O).mono ?_);rintro P w6 ⟨o,N⟩;have u:=tA p (tA l r);have D:iB 4 (iB 2 .fls s).1 (iB 2 .fls s).2=iB 4 (.or a (iB 2 .fls (nx q)).1) (iB 2 .fls (nx q)).2:=by rw[<-i,pk,if_pos f]
  refine G (P,.or a (iB 2 .fls (nx q)).1,(iB 2 .fls (nx q)).2) _ ⟨F.ext o,oB u o,N.mono u.size,D.symm,by show(iB 2 .fls (nx q)).2.1.length<=_;omega,?_⟩ (by show(iB 2 .fls (nx q)).2.1.length<q.1.length;omega);show 1+a.size+(iB 2 .fls (nx q)).1.size+3*(iB 2 .fls (nx q)).2.1.length<=_;omega
theorem qd(A:I0 550 3 x):I0 376 2 (x+1):=by
 intro e b t s w B h J;rw[Bu]at J;apply se;unfold GY;refine aA ((A e b t s w B h (by rw[Hm];omega)).mono ?_);rintro v w1 ⟨E,H,K⟩;have I:=pJ 3 .fls s;have X:=qD 3 .fls s;have W:=h.len;have T:Fm.fls.size=1:=rfl;rw[Ir];refine MB (λq:Value×Fm×FG=>[q.1]) (λq n=>KN e b t q.2.2 n/\Ch (λR=>R=b) w n/\dB 2 w.heap.size NA n q.1 q.2.1.size q.2.1.cells/\iB 5 q.2.1 q.2.2=iB 5 (iB 3 .fls s).1 (iB 3 .fls s).2/\q.2.2.1.length<=s.1.length/\q.2.1.size+3*q.2.2.1.length<=1+3*s.1.length) (λq=>q.2.2.1.length) (v,iB 3 .fls s) rfl
  ⟨E,H,K,rfl,I,by show(iB 3 .fls s).1.size+3*(iB 3 .fls s).2.1.length<=_;omega⟩ ?_
 rintro⟨v,a,q⟩ C S ⟨j,p,g,i,y,z⟩ G;have j:KN e b t q C:=j;have g:dB 2 w.heap.size NA C v a.size a.cells:=g;have i:iB 5 a q=_:=i;have y:q.1.length<=s.1.length:=y;have z:a.size+3*q.1.length<=1+3*s.1.length:=z;intro _;refine aA ((kC 38 (by decide) (by omega) j).mono ?_);rintro _ Q ⟨rfl,d,l⟩;have m:=g.ch l (qJ h g (Nat.le_refl _));rw[<-i,qk];cases f:tk 38 q
 ·rw[f,if_neg (by decide)]at d;rw[if_neg (by decide)];exact cA rfl ⟨d,tA p l,m⟩
 ·rw[f,if_pos rfl]at d;have V:=pC f;rw[if_pos rfl];refine iA rfl ?_;refine aA ((A e b t _ Q B d (by rw[Hm];omega)).mono ?_);rintro Z w5 ⟨F,r,M⟩;have Y:=qD 3 .fls (nx q);have U:=pJ 3 .fls (nx q);have L:=m.ch r (qJ h m (Nat.le_refl _));have O:(Fm.and a (iB 3 .fls (nx q)).1).size<=1099511627776:=by
   show 1+_+_<=_;omega
  refine aA ((jC (c:=.and a (iB 3 .fls (nx q)).1) (k:=2) rfl rfl L.sl M.sl O).mono ?_);rintro P w6 ⟨o,N⟩;have u:=tA p (tA l r);have D:iB 5 (iB 3 .fls s).1 (iB 3 .fls s).2=iB 5 (.and a (iB 3 .fls (nx q)).1) (iB 3 .fls (nx q)).2:=by rw[<-i,qk,if_pos f]
  refine G (P,.and a (iB 3 .fls (nx q)).1,(iB 3 .fls (nx q)).2) _ ⟨F.ext o,oB u o,N.mono u.size,D.symm,by show(iB 3 .fls (nx q)).2.1.length<=_;omega,?_⟩ (by show(iB 3 .fls (nx q)).2.1.length<q.1.length;omega);show 1+a.size+(iB 3 .fls (nx q)).1.size+3*(iB 3 .fls (nx q)).2.1.length<=_;omega
theorem gY(ak:I0 115 0 x)(e:TypeId)(b:Nat)(t:jA)(s:FG)(w:World)(ht:t.length<=4194304)(h:KN e b t s w)(hm:8*s.1.length+1<=x+1)(q:tk 126 s=false)(r:tk 91 s=false)(u:tk 60 s=false):
  nA prog 650 #[.pointer (some ⟨b,0,none⟩)] w (pf e b t NA (iB 3 .fls s) w):=by
 apply oZ;unfold UF;have au:=h.len;have av:∀{L:Fm×FG},(iB 3 .fls s=L->UF (.pointer (some ⟨b,0,none⟩)) w (pf e b t NA L w))->iB 3 .fls s=L->UF (.pointer (some ⟨b,0,none⟩)) w (pf e b t NA (iB 3 .fls s) w):=λh e=>by rw[e];exact h e
 refine aA ((uB 70 (by decide) (by omega) h).mono ?_);rintro _ w1 ⟨rfl,y,I⟩;have m:∀{E F:UInt8},tk E s=true->E≠F->tk F s=false:=λab b=>wi ab b;cases f:tk 70 s
 rotate_left
 ·rw[f,if_pos rfl]at y;refine iA rfl ?_;have g:iB 3 .fls s=(.fls,nx s):=OR (Q:=λa=>a=_) (λh=>absurd (q.symm.trans h) (by decide)) (λh=>absurd (r.symm.trans h) (by decide)) (λh=>absurd (u.symm.trans h) (by decide)) (λ_=>rfl) (λh=>absurd ((m f (by decide)).symm.trans h) (by decide)) (λh=>absurd ((m f (by decide)).symm.trans h) (by decide)) (λv d h=>absurd ((m f (rG d (by decide)).symm).symm.trans h) (by decide)) (λ_ _ _ h _ _ _=>absurd (h.symm.trans f) (by decide));rw[g];refine aA ((xN w1).mono ?_);rintro v N ⟨c,k⟩;exact⟨y.ext c,oB I c,k.mono I.size⟩
 rw[f,if_neg (by decide)]at y;refine cA rfl ?_;refine aA ((uB 84 (by decide) (by omega) y).mono ?_);rintro _ w3 ⟨rfl,A,af⟩;have J:=tA I af;cases j:tk 84 s
 rotate_left
 ·rw[j,if_pos rfl]at A;refine iA rfl ?_;have g:iB 3 .fls s=(.imp .fls .fls,nx s):=OR (Q:=λa=>a=_) (λh=>absurd (q.symm.trans h) (by decide)) (λh=>absurd (r.symm.trans h) (by decide)) (λh=>absurd (u.symm.trans h) (by decide)) (λh=>absurd (f.symm.trans h) (by decide)) (λ_=>rfl) (λh=>absurd ((m j (by decide)).symm.trans h) (by decide)) (λv d h=>absurd ((m j (rG d (by decide)).symm).symm.trans h) (by decide)) (λ_ _ _ _ h _ _=>absurd (h.symm.trans j) (by decide));rw[g];refine aA ((Ve w3).mono ?_);rintro v N ⟨c,k⟩;exact⟨A.ext c,oB J c,k.mono J.size⟩
 rw[j,if_neg (by decide)]at A;refine cA rfl ?_;refine aA ((uB 40 (by decide) (by omega) A).mono ?_);rintro _ w5 ⟨rfl,n,ag⟩;have o:=tA J ag;cases l:tk 40 s
 rotate_left
 ·rw[l,if_pos rfl]at n;refine iA rfl ?_;have g:iB 3 .fls s=((iB 0 .fls (nx s)).1,ndd 41 (iB 0 .fls (nx s)).2):=OR (Q:=λa=>a=_) (λh=>absurd (q.symm.trans h) (by decide)) (λh=>absurd (r.symm.trans h) (by decide)) (λh=>absurd (u.symm.trans h) (by decide)) (λh=>absurd (f.symm.trans h) (by decide)) (λh=>absurd (j.symm.trans h) (by decide)) (λ_=>rfl) (λv d h=>absurd ((m l (rG d (by decide)).symm).symm.trans h) (by decide)) (λ_ _ _ _ _ h _=>absurd (h.symm.trans l) (by decide));rw[g];have ar:=pC l;refine aA ((ak e b t _ w5 ht n (by rw[Au];omega)).mono ?_);rintro v w6 ⟨h6,ah,X⟩;refine aA ((oH 41 (by decide) (by omega) h6).mono ?_);rintro _ w7 ⟨h7,U⟩;exact⟨h7,tA o (tA ah U),(X.ch U (qJ h X o.size)).mono o.size⟩
 rw[l,if_neg (by decide)]at n;refine cA rfl ?_;have al:(.string ⟨#[112,113,114,115,116,117]⟩:Value)=sv [112,113,114,115,116,117]:=rfl;rw[al];refine Qq (by kernel_rfl) λD w8 hq O hI=>?_;have Y:D≠b:=by have:=n.lt;omega
 refine MB (λ_:Nat=>[]) (λi M=>i<=6/\KN e b t s M/\Ch (λa=>a=b) w M/\It M D [112,113,114,115,116,117] i/\w.heap.size<=D/\ ∀v,v<i->tk (vl v) s=false) (λi=>6-i) 0 rfl ⟨Nat.zero_le _,n.ext O,oB o O,hI,by have:=o.size;omega,λv d=>by omega⟩ ?_;rintro i ap Kn ⟨hi,G,R,P,ao,W⟩ ae;intro _;by_cases aj:i=6
 ·subst aj;refine Nq P (by decide) ?_;refine eD (by rfl) ?_;refine cA rfl ?_;have g:iB 3 .fls s=(.fls,(s.1,true)):=OR (Q:=λa=>a=_) (λh=>absurd (q.symm.trans h) (by decide)) (λh=>absurd (r.symm.trans h) (by decide)) (λh=>absurd (u.symm.trans h) (by decide)) (λh=>absurd (f.symm.trans h) (by decide)) (λh=>absurd (j.symm.trans h) (by decide)) (λh=>absurd (l.symm.trans h) (by decide)) (λv d h=>absurd ((W v d).symm.trans h) (by decide)) (λ_ _ _ _ _ _ _=>rfl);rw[g];obtain⟨Z,_,_,H⟩:=id G
  (with_reducible refine bB ?_;refine pB ?_)
  refine QH H (by simp) rfl λ_=>?_;have C:=PI.setCell ap b 2 (.bool true);refine aA ((xN _).mono ?_);rintro v N ⟨c,k⟩;have B:=R.trans (C.ch (S:=λa=>a=b) rfl) (λ_ h=>.inl h);exact⟨(KN.bad G).ext c,oB B c,k.mono B.size⟩
 ·have p:i<6:=by omega
  have ai:(([112,113,114,115,116,117]:jA).getD i 0)=vl i:=by
   have:i=0∨i=1∨i=2∨i=3∨i=4∨i=5:=by omega
   rcases this with rfl|rfl|rfl|rfl|rfl|rfl<;>rfl
  refine Oq P (by show i<6;exact p) λE F aa _ V _ _ C ad=>?_;rw[ai,Hd i p]at V;obtain⟨rfl,rfl⟩:=V (by omega);have B:Ch (λa=>a=b) w aa:=R.trans (C.ch (S:=λa=>a=D) rfl) (λa hx=>.inr (by omega));have ac:KN e b t s aa:=by
   obtain⟨Z,a1,a2,H⟩:=G;exact⟨Z,a1,a2,H.upd C (λe=>Y e.symm)⟩
  (with_reducible refine He ?_)
  refine iA rfl ?_
  (with_reducible refine Ie ?_;refine Je ?_)
  refine⟨_,_,rfl,?_⟩;have ew:IntKind.u8.wrap ((112+i:Nat):Int)=(((vl i).toNat:Nat):Int):=by
   rw[Hd i p];have:i=0∨i=1∨i=2∨i=3∨i=4∨i=5:=by omega
   rcases this with rfl|rfl|rfl|rfl|rfl|rfl<;>decide
  refine aA ((uB (vl i) ew (by omega) ac).mono ?_);rintro _ aq ⟨rfl,z,T⟩;have K:=tA B T;cases kv:tk (vl i) s
  ·rw[kv,if_neg (by decide)]at z;refine cA rfl ?_;refine ae (i+1) _ ⟨by omega,z,K,ad.ch T Y,ao,λv d=>?_⟩ (by omega);by_cases an:v=i
   ·rw[an];exact kv
   ·exact W v (by omega)
  ·rw[kv,if_pos rfl]at z;refine iA rfl ?_;have g:iB 3 .fls s=(.var i,nx s):=OR (Q:=λa=>a=_) (λh=>absurd (q.symm.trans h) (by decide)) (λh=>absurd (r.symm.trans h) (by decide)) (λh=>absurd (u.symm.trans h) (by decide)) (λh=>absurd (f.symm.trans h) (by decide)) (λh=>absurd (j.symm.trans h) (by decide)) (λh=>absurd (l.symm.trans h) (by decide)) (λv d h=>by
    have:vl i=vl v:=by
     apply Classical.byContradiction;intro am;exact absurd ((m kv am).symm.trans h) (by decide)
    rw[ns p d this]) (λ_ _ _ _ _ _ h=>absurd ((h i p).symm.trans kv) (by decide))
   rw[g];refine aA ((CQ i aq).mono ?_);rintro v N ⟨c,k⟩;exact⟨z.ext c,oB K c,k.mono K.size⟩
theorem oU(D:I0 549 3 x)(T:I0 115 0 x):I0 549 3 (x+1):=by
 intro o i t s ab r h I;rw[Hm]at I;apply FV;unfold JK;have aa:=h.len;have a:∀{c F:UInt8},tk c s=true->c≠F->tk F s=false:=λL i=>wi L i;refine aA ((uB 126 (by decide) (by omega) h).mono ?_);rintro _ Y ⟨rfl,p,G⟩;have hf:Fm.fls.size=1:=rfl;cases b:tk 126 s
 rotate_left
 ·rw[b,if_pos rfl]at p;refine iA rfl ?_;have j:iB 3 .fls s=(.imp (iB 3 .fls (nx s)).1 .fls,(iB 3 .fls (nx s)).2):=OR (Q:=λn=>n=_) (λ_=>rfl) (λh=>absurd ((a b (by decide)).symm.trans h) (by decide)) (λh=>absurd ((a b (by decide)).symm.trans h) (by decide)) (λh=>absurd ((a b (by decide)).symm.trans h) (by decide)) (λh=>absurd ((a b (by decide)).symm.trans h) (by decide)) (λh=>absurd ((a b (by decide)).symm.trans h) (by decide)) (λv m h=>absurd ((a b (rG m (by decide)).symm).symm.trans h) (by decide)) (λh _ _ _ _ _ _=>absurd (h.symm.trans b) (by decide));rw[j];have J:=pC b;refine aA ((D o i t _ Y r p (by rw[Hm];omega)).mono ?_);rintro v w2 ⟨M,O,V⟩;have K:=qD 3 .fls (nx s);refine aA ((N5 V.sl (by omega)).mono ?_);rintro v Z ⟨g,W⟩;have f:=tA G O;exact⟨M.ext g,oB f g,W.mono f.size⟩
 rw[b,if_neg (by decide)]at p;refine cA rfl ?_;refine aA ((uB 91 (by decide) (by omega) p).mono ?_);rintro _ Z ⟨rfl,g,P⟩;have H:=tA G P;cases d:tk 91 s
 rotate_left
 ·rw[d,if_pos rfl]at g;refine iA rfl ?_;have j:iB 3 .fls s=(.box (iB 3 .fls (ndd 93 (nx s))).1,(iB 3 .fls (ndd 93 (nx s))).2):=OR (Q:=λn=>n=_) (λh=>absurd (b.symm.trans h) (by decide)) (λ_=>rfl) (λh=>absurd ((a d (by decide)).symm.trans h) (by decide)) (λh=>absurd ((a d (by decide)).symm.trans h) (by decide)) (λh=>absurd ((a d (by decide)).symm.trans h) (by decide)) (λh=>absurd ((a d (by decide)).symm.trans h) (by decide)) (λv m h=>absurd ((a d (rG m (by decide)).symm).symm.trans h) (by decide)) (λ_ h _ _ _ _ _=>absurd (h.symm.trans d) (by decide));rw[j];have J:=pC d;have U:=aJ 93 (nx s);refine aA ((oH 93 (by decide) (by omega) g).mono ?_);rintro _ E ⟨u,z⟩;refine aA ((D o i t _ E r u (by rw[Hm];omega)).mono ?_);rintro v w5 ⟨w,A,B⟩;have K:=qD 3 .fls (ndd 93 (nx s));refine aA ((jW (c:=.box (iB 3 .fls (ndd 93 (nx s))).1) (k:=5) rfl rfl B.sl (by show 1+_<=_;omega)).mono ?_);rintro v w6 ⟨l,C⟩;have f:=tA H (tA z A);exact⟨w.ext l,oB f l,C.mono f.size⟩
 rw[d,if_neg (by decide)]at g;refine cA rfl ?_;refine aA ((uB 60 (by decide) (by omega) g).mono ?_);rintro _ w7 ⟨rfl,q,R⟩;have y:=tA H R;cases e:tk 60 s
 rotate_left
 ·rw[e,if_pos rfl]at q;refine iA rfl ?_;have j:iB 3 .fls s=(.dia (iB 3 .fls (ndd 62 (nx s))).1,(iB 3 .fls (ndd 62 (nx s))).2):=OR (Q:=λn=>n=_) (λh=>absurd (b.symm.trans h) (by decide)) (λh=>absurd (d.symm.trans h) (by decide)) (λ_=>rfl) (λh=>absurd ((a e (by decide)).symm.trans h) (by decide)) (λh=>absurd ((a e (by decide)).symm.trans h) (by decide)) (λh=>absurd ((a e (by decide)).symm.trans h) (by decide)) (λv m h=>absurd ((a e (rG m (by decide)).symm).symm.trans h) (by decide)) (λ_ _ h _ _ _ _=>absurd (h.symm.trans e) (by decide));rw[j];have J:=pC e;have U:=aJ 62 (nx s);refine aA ((oH 62 (by decide) (by omega) q).mono ?_);rintro _ E ⟨u,z⟩;refine aA ((D o i t _ E r u (by rw[Hm];omega)).mono ?_);rintro v w5 ⟨w,A,B⟩;have K:=qD 3 .fls (ndd 62 (nx s));refine aA ((jW (c:=.dia (iB 3 .fls (ndd 62 (nx s))).1) (k:=6) rfl rfl B.sl (by show 1+_<=_;omega)).mono ?_);rintro v w6 ⟨l,C⟩;have f:=tA y (tA z A);exact⟨w.ext l,oB f l,C.mono f.size⟩
 rw[e,if_neg (by decide)]at q;refine cA rfl ?_;refine aA ((gY T o i t s w7 r q I b d e).mono ?_);rintro v w8 ⟨N,S,X⟩;exact⟨N,tA y S,X.mono y.size⟩
theorem zn:∀m,I0 115 0 m/\I0 219 1 m/\I0 375 2 m/\I0 549 3 m
 |0=>⟨λ_ _ _ _ _ _ _ h=>by rw[Au]at h;omega,λ_ _ _ _ _ _ _ h=>by rw[tw]at h;omega,λ_ _ _ _ _ _ _ h=>by rw[Bu]at h;omega,λ_ _ _ _ _ _ _ h=>by rw[Hm]at h;omega⟩
 |m+1=>
  have h:=zn m
  ⟨DW h.2.1 h.1,L3 h.2.2.1,A0 h.2.2.2,oU h.2.2.2 h.1⟩
theorem QG{s:jA}{B:FG}(a:s.length<=4194304)(h:KN u x s B w):nA prog 115 #[.pointer (some ⟨x,0,none⟩)] w (pf u x s NA (iB 0 .fls B) w):=
 (zn _).1 u x s B w a h (Nat.le_refl _)
def pK(t:jA):Bool:=!(rd t).2.2&&decide ((rd t).2.1=[])
def Ut(t:jA):Nat:=t.length-(rd t).2.1.length
theorem Xh(t:jA):rd t=iB 0 .fls (t,false):=rfl
theorem Zl(t:jA):(rd t).2.1.length<=t.length:=pJ 0 .fls (t,false)
theorem ia(t:jA):(rd t).1.good:=xE _ _ _ _ trivial
theorem KN.place{s:jA}{B:FG}(h:KN u x s B w):GA u w x [sv s,iv ((s.length-B.1.length:Nat):Int),.bool B.2]:=by
 obtain⟨k,c,a,b⟩:=h;have:s.length-B.1.length=k:=by rw[a,List.length_drop];omega
 rw[this];exact b
theorem KN.new{s:jA}(h:GA u w x [sv s,iv 0,.bool false]):KN u x s (s,false) w:=⟨0,Nat.zero_le _,rfl,h⟩
theorem M3(T:I0 550 3 x)(aq:I0 131 0 x):I0 550 3 (x+1):=by
 intro A o G s ad N h hm;rw[Hm]at hm;apply T4;unfold IP;have ba:=h.len;have hf:Fm.fls.size=1:=rfl;have a:∀{c Y:UInt8},tk c s=true->c≠Y->tk Y s=false:=λaf o=>wi af o;have ar:(.string ⟨#[112,113,114,115,116,117]⟩:Value)=sv [112,113,114,115,116,117]:=rfl;rw[ar];refine MB (λi:Nat=>[iv i]) (λi w'=>i<=6/\KN A o G s w'/\Ch (λb=>b=o) ad w'/\ ∀v,v<i->tk (vl v) s=false) (λi=>6-i) 0 rfl ⟨Nat.zero_le _,h,(bA.refl ad).ch,λv e=>by omega⟩ ?_;rintro i w2 Kn ⟨hi,Z,aa,u⟩ am
 (intro _;(try simp only[gx]))
 refine HD ?_;refine jB ?_;refine dA (λR=>?_) (λR=>?_)
 ·have q:i<6:=by simp at R;omega
  have ao:(([112,113,114,115,116,117]:jA).getD i 0)=vl i:=by
   have:i=0∨i=1∨i=2∨i=3∨i=4∨i=5:=by omega
   rcases this with rfl|rfl|rfl|rfl|rfl|rfl<;>rfl
  refine Hp (by show i<6;exact q) ?_;rw[ao];refine aA ((kC (vl i) rfl (by omega) Z).mono ?_);rintro _ w3 ⟨rfl,t,C⟩;have m:=tA aa C;cases kv:tk (vl i) s
  ·rw[kv,if_neg (by decide)]at t;refine cA rfl ?_;refine qA (by omega) ?_;refine am (i+1) _ ⟨by omega,t,m,λv e=>?_⟩ (by omega);by_cases aw:v=i
   ·rw[aw];exact kv
   ·exact u v (by omega)
  ·rw[kv,if_pos rfl]at t;refine iA rfl ?_;have f:iB 3 .fls s=(.var i,nx s):=OR (Q:=λb=>b=_) (λh=>absurd ((a kv (rG q (by decide))).symm.trans h) (by decide)) (λh=>absurd ((a kv (rG q (by decide))).symm.trans h) (by decide)) (λh=>absurd ((a kv (rG q (by decide))).symm.trans h) (by decide)) (λh=>absurd ((a kv (rG q (by decide))).symm.trans h) (by decide)) (λh=>absurd ((a kv (rG q (by decide))).symm.trans h) (by decide)) (λh=>absurd ((a kv (rG q (by decide))).symm.trans h) (by decide)) (λv e h=>by
    have:vl i=vl v:=by
     apply Classical.byContradiction;intro av;exact absurd ((a kv av).symm.trans h) (by decide)
    rw[ns q e this]) (λ_ _ _ _ _ _ h=>absurd ((h i q).symm.trans kv) (by decide))
   rw[f];refine aA ((TG i w3).mono ?_);rintro v z ⟨d,j⟩;exact⟨t.ext d,oB m d,j.mono m.size⟩
 have ap:i=6:=by simp at R;omega
 subst ap;refine aA ((kC 70 (by decide) (by omega) Z).mono ?_);rintro _ ax ⟨rfl,I,ag⟩;have O:=tA aa ag;cases g:tk 70 s
 rotate_left
 ·rw[g,if_pos rfl]at I;refine iA rfl ?_;have f:iB 3 .fls s=(.fls,nx s):=OR (Q:=λb=>b=_) (λh=>absurd ((a g (by decide)).symm.trans h) (by decide)) (λh=>absurd ((a g (by decide)).symm.trans h) (by decide)) (λh=>absurd ((a g (by decide)).symm.trans h) (by decide)) (λ_=>rfl) (λh=>absurd ((a g (by decide)).symm.trans h) (by decide)) (λh=>absurd ((a g (by decide)).symm.trans h) (by decide)) (λv e h=>absurd ((u v e).symm.trans h) (by decide)) (λ_ _ _ h _ _ _=>absurd (h.symm.trans g) (by decide));rw[f];have E:=pC g;refine aA ((mE ax).mono ?_);rintro v z ⟨d,j⟩;exact⟨I.ext d,oB O d,j.mono O.size⟩
 rw[g,if_neg (by decide)]at I;refine cA rfl ?_;refine aA ((kC 84 (by decide) (by omega) I).mono ?_);rintro _ ay ⟨rfl,J,ah⟩;have P:=tA O ah;cases l:tk 84 s
 rotate_left
 ·rw[l,if_pos rfl]at J;refine iA rfl ?_;have f:iB 3 .fls s=(.imp .fls .fls,nx s):=OR (Q:=λb=>b=_) (λh=>absurd ((a l (by decide)).symm.trans h) (by decide)) (λh=>absurd ((a l (by decide)).symm.trans h) (by decide)) (λh=>absurd ((a l (by decide)).symm.trans h) (by decide)) (λh=>absurd (g.symm.trans h) (by decide)) (λ_=>rfl) (λh=>absurd ((a l (by decide)).symm.trans h) (by decide)) (λv e h=>absurd ((u v e).symm.trans h) (by decide)) (λ_ _ _ _ h _ _=>absurd (h.symm.trans l) (by decide));rw[f];have E:=pC l;refine aA ((uT ay).mono ?_);rintro v z ⟨d,j⟩;exact⟨J.ext d,oB P d,j.mono P.size⟩
 rw[l,if_neg (by decide)]at J;refine cA rfl ?_;refine aA ((kC 126 (by decide) (by omega) J).mono ?_);rintro _ az ⟨rfl,K,ai⟩;have V:=tA P ai;cases n:tk 126 s
 rotate_left
 ·rw[n,if_pos rfl]at K;refine iA rfl ?_;have f:iB 3 .fls s=(.imp (iB 3 .fls (nx s)).1 .fls,(iB 3 .fls (nx s)).2):=OR (Q:=λb=>b=_) (λ_=>rfl) (λh=>absurd ((a n (by decide)).symm.trans h) (by decide)) (λh=>absurd ((a n (by decide)).symm.trans h) (by decide)) (λh=>absurd (g.symm.trans h) (by decide)) (λh=>absurd (l.symm.trans h) (by decide)) (λh=>absurd ((a n (by decide)).symm.trans h) (by decide)) (λv e h=>absurd ((u v e).symm.trans h) (by decide)) (λh _ _ _ _ _ _=>absurd (h.symm.trans n) (by decide));rw[f];have E:=pC n;refine aA ((T A o G _ az N K (by rw[Hm];omega)).mono ?_);rintro v w5 ⟨d,D,j⟩;have hz:=qD 3 .fls (nx s);refine aA ((mJ j.sl (by omega)).mono ?_);rintro v U ⟨p,w⟩;have m:=tA V D;exact⟨d.ext p,oB m p,w.mono m.size⟩
 rw[n,if_neg (by decide)]at K;refine cA rfl ?_;refine aA ((kC 91 (by decide) (by omega) K).mono ?_);rintro _ bb ⟨rfl,L,aj⟩;have W:=tA V aj;cases r:tk 91 s
 rotate_left
 ·rw[r,if_pos rfl]at L;refine iA rfl ?_;have f:iB 3 .fls s=(.box (iB 3 .fls (ndd 93 (nx s))).1,(iB 3 .fls (ndd 93 (nx s))).2):=OR (Q:=λb=>b=_) (λh=>absurd (n.symm.trans h) (by decide)) (λ_=>rfl) (λh=>absurd ((a r (by decide)).symm.trans h) (by decide)) (λh=>absurd (g.symm.trans h) (by decide)) (λh=>absurd (l.symm.trans h) (by decide)) (λh=>absurd ((a r (by decide)).symm.trans h) (by decide)) (λv e h=>absurd ((u v e).symm.trans h) (by decide)) (λ_ h _ _ _ _ _=>absurd (h.symm.trans r) (by decide));rw[f];have E:=pC r;have au:=aJ 93 (nx s);refine aA ((BL 93 (by decide) (by omega) L).mono ?_);rintro _ z ⟨t,C⟩;refine aA ((T A o G _ z N t (by rw[Hm];omega)).mono ?_);rintro v w5 ⟨d,D,j⟩;have hz:=qD 3 .fls (ndd 93 (nx s));refine aA ((EN (c:=.box (iB 3 .fls (ndd 93 (nx s))).1) (k:=5) rfl rfl j.sl (by show 1+_<=_;omega)).mono ?_);rintro v U ⟨p,w⟩;have m:=tA W (tA C D);exact⟨d.ext p,oB m p,w.mono m.size⟩
 rw[r,if_neg (by decide)]at L;refine cA rfl ?_;refine aA ((kC 60 (by decide) (by omega) L).mono ?_);rintro _ bc ⟨rfl,M,ak⟩;have X:=tA W ak;cases y:tk 60 s
 rotate_left
 ·rw[y,if_pos rfl]at M;refine iA rfl ?_;have f:iB 3 .fls s=(.dia (iB 3 .fls (ndd 62 (nx s))).1,(iB 3 .fls (ndd 62 (nx s))).2):=OR (Q:=λb=>b=_) (λh=>absurd (n.symm.trans h) (by decide)) (λh=>absurd (r.symm.trans h) (by decide)) (λ_=>rfl) (λh=>absurd (g.symm.trans h) (by decide)) (λh=>absurd (l.symm.trans h) (by decide)) (λh=>absurd ((a y (by decide)).symm.trans h) (by decide)) (λv e h=>absurd ((u v e).symm.trans h) (by decide)) (λ_ _ h _ _ _ _=>absurd (h.symm.trans y) (by decide));rw[f];have E:=pC y;have au:=aJ 62 (nx s);refine aA ((BL 62 (by decide) (by omega) M).mono ?_);rintro _ z ⟨t,C⟩;refine aA ((T A o G _ z N t (by rw[Hm];omega)).mono ?_);rintro v w5 ⟨d,D,j⟩;have hz:=qD 3 .fls (ndd 62 (nx s));refine aA ((EN (c:=.dia (iB 3 .fls (ndd 62 (nx s))).1) (k:=6) rfl rfl j.sl (by show 1+_<=_;omega)).mono ?_);rintro v U ⟨p,w⟩;have m:=tA X (tA C D);exact⟨d.ext p,oB m p,w.mono m.size⟩
 rw[y,if_neg (by decide)]at M;refine cA rfl ?_;refine aA ((kC 40 (by decide) (by omega) M).mono ?_);rintro _ ae ⟨rfl,B,al⟩;have H:=tA X al;cases F:tk 40 s
 rotate_left
 ·rw[F,if_pos rfl]at B;refine iA rfl ?_;have f:iB 3 .fls s=((iB 0 .fls (nx s)).1,ndd 41 (iB 0 .fls (nx s)).2):=OR (Q:=λb=>b=_) (λh=>absurd (n.symm.trans h) (by decide)) (λh=>absurd (r.symm.trans h) (by decide)) (λh=>absurd (y.symm.trans h) (by decide)) (λh=>absurd (g.symm.trans h) (by decide)) (λh=>absurd (l.symm.trans h) (by decide)) (λ_=>rfl) (λv e h=>absurd ((u v e).symm.trans h) (by decide)) (λ_ _ _ _ _ h _=>absurd (h.symm.trans F) (by decide));rw[f];have E:=pC F;refine aA ((aq A o G _ ae N B (by rw[Au];omega)).mono ?_);rintro v U ⟨p,an,w⟩;refine aA ((BL 41 (by decide) (by omega) p).mono ?_);rintro _ w7 ⟨h7,ab⟩;exact⟨h7,tA H (tA an ab),(w.ch ab (qJ h w H.size)).mono H.size⟩
 rw[F,if_neg (by decide)]at B;refine cA rfl ?_;have f:iB 3 .fls s=(.fls,(s.1,true)):=OR (Q:=λb=>b=_) (λh=>absurd (n.symm.trans h) (by decide)) (λh=>absurd (r.symm.trans h) (by decide)) (λh=>absurd (y.symm.trans h) (by decide)) (λh=>absurd (g.symm.trans h) (by decide)) (λh=>absurd (l.symm.trans h) (by decide)) (λh=>absurd (F.symm.trans h) (by decide)) (λv e h=>absurd ((u v e).symm.trans h) (by decide)) (λ_ _ _ _ _ _ _=>rfl);rw[f];obtain⟨k,_,_,hB⟩:=id B
 (with_reducible refine bB ?_;refine pB ?_)
 refine QH hB (by simp) rfl λ_=>?_;have hu:=PI.setCell ae o 2 (.bool true);refine aA ((mE _).mono ?_);rintro v z ⟨d,j⟩;have ac:=H.trans (hu.ch (S:=λb=>b=o) rfl) (λ_ h=>.inl h);exact⟨(KN.bad B).ext d,oB ac d,j.mono ac.size⟩
theorem An:∀m,I0 131 0 m/\I0 228 1 m/\I0 376 2 m/\I0 550 3 m
 |0=>⟨λ_ _ _ _ _ _ _ h=>by rw[Au]at h;omega,λ_ _ _ _ _ _ _ h=>by rw[tw]at h;omega,λ_ _ _ _ _ _ _ h=>by rw[Bu]at h;omega,λ_ _ _ _ _ _ _ h=>by rw[Hm]at h;omega⟩
 |m+1=>
  have h:=An m
  ⟨H6 h.2.1 h.1,jf h.2.2.1,qd h.2.2.2,M3 h.2.2.2 h.1⟩
theorem d6{s:jA}{B:FG}(a:s.length<=4194304)(h:KN u x s B w):nA prog 131 #[.pointer (some ⟨x,0,none⟩)] w (pf u x s NA (iB 0 .fls B) w):=
 (An _).1 u x s B w a h (Nat.le_refl _)
theorem JH{s:jA}(A:s.length<=4194304)(w:World):nA prog 60 #[sv s] w λB p=>bA w p/\ ∃v,B= .tuple #[v,iv (if pK s then-1 else(Ut s:Int))]/\(pK s=true->iL w.heap.size p v (rd s).1)/\(pK s=false->v= .slice none 0 0):=by
 apply ob;unfold SU;refine GD (cs:=#[sv s,iv 0,.bool false]) (by simp[Instr.fill,Value.cells]) ?_;refine xC λq C F g e=>?_;obtain⟨f,e⟩:∃f,GA f C q [sv s,iv 0,.bool false]:=⟨_,e⟩
 refine aA ((d6 A (KN.new e)).mono ?_);rintro v d ⟨i,u,n⟩;rw[<-Xh]at i n;have j:bA w d:=g.thenCh u (λD G=>by omega);have t:=i.place;have o:=Zl s;have y:decide (((s.length-(rd s).2.1.length:Nat):Int)<(s.length:Nat))= !decide ((rd s).2.1=[]):=by
  cases z:(rd s).2.1 with
  |nil=>simp
  |cons x l=>rw[z]at o;simp only[List.length_cons]at o⊢;rw[decide_eq_true (by omega)];rfl
 have c:pK s= !((rd s).2.2|| !decide ((rd s).2.1=[])):=by unfold pK;rw[Bool.not_or,Bool.not_not]
 refine sB ((rd s).2.2|| !decide ((rd s).2.1=[])) d (λJ b=>?_) (λH a=>?_)
 ·(with_reducible refine bB ?_;refine pB ?_);refine mA (by assumption) (by first|rfl|simp) ?_
  cases k:(rd s).2.2
  ·rw[k,Bool.false_or]at b;refine cA rfl ?_
   (with_reducible refine bB ?_;refine pB ?_);refine mA (by assumption) (by first|rfl|simp) ?_
   refine HD ?_
   (with_reducible refine jB ?_)
   rw[y];exact b d (bA.refl _)
  ·rw[k,Bool.true_or]at b;exact iA rfl (b d (bA.refl _))
 ·intro _;have E:=t.ext a;cases m:pK s
  ·refine iA (by show((rd s).2.2|| !decide ((rd s).2.1=[]))=true;rw[m]at c;rwa [Eq.comm,Bool.not_eq_false']at c) ?_
   (with_reducible refine bB ?_;refine pB ?_);refine mA (by assumption) (by first|rfl|simp) ?_
   intro I r;exact⟨j.trans (a.trans r),_,rfl,(λh=>by cases h),λ_=>rfl⟩
  ·refine cA (by show((rd s).2.2|| !decide ((rd s).2.1=[]))=false;rw[m]at c;rwa [Eq.comm,Bool.not_eq_true']at c) ?_;exact⟨j.trans a,v,rfl,λ_=>(n.mono g.size).ext a,λh=>by cases h⟩
theorem rQ{p:UInt8->Bool}:∀{l:jA} {c:UInt8},c∈l.takeWhile p->p c=true
 |[],_,h=>by cases h
 |x::l,c,h=>by
  rw[List.takeWhile_cons]at h;split at h
  ·rcases List.mem_cons.1 h with rfl|h
   ·assumption
   ·exact rQ h
  ·cases h
def small(c:UInt8):Bool:=decide (97<=c.toNat)&&decide (c.toNat<=122)
def KD(t:jA):Bool:=t.all small&&(decide (1<=t.length)&&decide (t.length<=8))
theorem qN{p:UInt8->Bool}{s:jA}{Y:jA}(h:s.dropWhile p=q::Y):p q=false:=by
 induction s with
 |nil=>cases h
 |cons x s ih=>
  rw[List.dropWhile_cons]at h;split at h
  ·exact ih h
  ·rename_i b;injection h with a c
   subst a;simpa using b
def CA(t:jA):jA×List (jA×jA):=
 match _a:t.dropWhile (λc=>!decide (c=36))with
 |[]=>(t,[])
 |_::r=>(t.takeWhile (λc=>!decide (c=36)),(r.takeWhile small,(CA (r.dropWhile small)).1)::(CA (r.dropWhile small)).2)
 termination_by t.length
 decreasing_by
 all_goals
  have d:(r.dropWhile small).length<=r.length:=(List.dropWhile_suffix _).length_le
  have b:(t.dropWhile (λc=>!decide (c=36))).length<=t.length:=(List.dropWhile_suffix _).length_le
  rw[_a,List.length_cons]at b
  omega
theorem Qs{s:jA}(h:∀c∈s,c≠36):s.dropWhile (λc=>!decide (c=36))=[]:=by
 induction s with
 |nil=>rfl
 |cons x s ih=>
  rw[List.dropWhile_cons,if_pos (by simpa using h x (by simp))];exact ih λc a=>h c (by simp[a])
theorem pv{s r:jA}(h:∀c∈s,c≠36):(s++36::r).dropWhile (λc=>!decide (c=36))=36::r/\(s++36::r).takeWhile (λc=>!decide (c=36))=s:=by
 induction s with
 |nil=>simp
 |cons x s ih=>
  have a:=ih λc d=>h c (by simp[d]);have b:=h x (by simp);simp[b]at a⊢;exact a
theorem Pr{Y r:jA}(a:Y.all small=true)(b:∀c s,r=c::s->small c=false):(Y++r).takeWhile small=Y/\(Y++r).dropWhile small=r:=by
 induction Y with
 |nil=>
  cases r with
  |nil=>simp
  |cons c s=>simp[b c s rfl]
 |cons x Y ih=>
  simp only[List.all_cons,Bool.and_eq_true]at a;have:=ih a.2;simp[a.1,this.1,this.2]
theorem iI{s:jA}(h:∀c∈s,c≠36):CA s=(s,[]):=by
 rw[CA];split
 ·rfl
 ·rename_i e;rw[Qs h]at e;cases e
theorem fQ{a n r:jA}(f:∀c∈a,c≠36)(g:n.all small=true)(h:∀c s,r=c::s->small c=false):CA (a++36::(n++r))=(a,(n,(CA r).1)::(CA r).2):=by
 have b:=pv (r:=n++r) f;have d:=Pr g h;rw[CA];split
 ·rename_i e;rw[b.1]at e;cases e
 ·rename_i x s e;rw[b.1]at e;injection e with _ e
  subst e;rw[b.2,d.1,d.2]
abbrev xx:=jA×List (jA×jA)
def QA(p:xx):List jA:=p.2.map Prod.fst
def MR(p:xx):List jA:=p.1::p.2.map Prod.snd
def SB(g:jA->jA)(p:xx):jA:=p.1++p.2.flatMap λq=>40::(g q.1++41::q.2)
theorem nN(g:jA->jA)(a:jA):SB g (a,[])=a:=by simp[SB]
theorem iQ(g:jA->jA)(a n b:jA)(l:List (jA×jA)):SB g (a,(n,b)::l)=a++40::(g n++41::SB g (b,l)):=by simp[SB]
theorem T1{Q:jA->Prop}(h0:∀t,(∀c∈t,c≠36)->Q t)(h1:∀a n r,(∀c∈a,c≠36)->n.all small=true->(∀c s,r=c::s->small c=false)->Q r->Q (a++36::(n++r))):∀t,Q t:=by
 intro t;have key:∀k (t:jA),t.length<=k->Q t:=by
  intro k
  induction k with
  |zero=>intro t ht;exact h0 t λc hc=>by have:=List.length_pos_of_mem hc;omega
  |succ k ih=>
   intro t ht;cases e:t.dropWhile (λc=>!decide (c=36))with
   |nil=>
    refine h0 t λc hc=>?_;have:=List.takeWhile_append_dropWhile (p:=λc=>!decide (c=36)) (l:=t);rw[e,List.append_nil]at this;rw[<-this]at hc;have:=rQ hc;simpa using this
   |cons x s=>
    have hx:=qN e;have hx:x=36:=by simpa using hx
    subst hx;have h2:=List.takeWhile_append_dropWhile (p:=λc=>!decide (c=36)) (l:=t);have h3:=List.takeWhile_append_dropWhile (p:=small) (l:=s);rw[e]at h2;rw[<-h2,<-h3];have hl:t.length=(t.takeWhile (λc=>!decide (c=36))).length+(s.length+1):=by
     have:=congrArg List.length h2;rw[List.length_append,List.length_cons]at this;exact this.symm
    have hd:(s.dropWhile small).length<=s.length:=(List.dropWhile_suffix _).length_le;refine h1 _ _ _ (λc hc=>?_) ?_ (λc r hc=>qN hc) (ih _ (by omega))
    ·have:=rQ hc;simpa using this
    ·rw[List.all_eq_true];exactλc hc=>rQ hc
 exact key t.length t (Nat.le_refl _)
theorem mN(t:jA):(CA t).2.length<=t.length:=by
 induction t using T1 with
 |h0 t h=>rw[iI h];simp
 |h1 a n r ha hn hr ih=>rw[fQ ha hn hr];simp;omega
theorem Y1 {g:jA → jA} {B:Nat} (t:jA) (hg:∀ n ∈ QA (CA t),(g n).length ≤ B):(SB g (CA t)).length ≤ (B + 2) * t.length:=by
 induction t using T1 with
 | h0 t h=>rw [iI h,nN,Nat.add_mul];omega
 | h1 a n r ha hn hr ih=>
  rw [fQ ha hn hr] at hg ⊢
  have h1:=ih fun m hm=>hg m (by simp only [QA,List.map_cons,List.mem_cons];exact .inr hm)
  have h2:=hg n (by simp [QA])
  rw [iQ]
  have e:SB g ((CA r).1,(CA r).2) = SB g (CA r):=rfl
  rw [e]
  have h3:(B + 2) * (a ++ 36 :: (n ++ r)).length = (B + 2) * a.length + ((B + 2) * r.length + (B + 2) * n.length + (B + 2)):=by
   rw [List.length_append,List.length_cons,List.length_append,Nat.mul_add,Nat.mul_add,Nat.mul_add];omega
  rw [h3]
  have h4:a.length ≤ (B + 2) * a.length:=Nat.le_mul_of_pos_left _ (by omega)
  simp only [List.length_append,List.length_cons]
  omega
def AC(t:jA):Bool:=(QA (CA t)).all KD&&(!(rd (SB (λ_=>[112]) (CA t))).2.2&&decide ((rd (SB (λ_=>[112]) (CA t))).2.1=[]))
def Nj:Go.Shelf.Ren:=⟨λ |219=>190|217=>325|225=>326|224=>327|267=>328|266=>482|314=>483|n=>n,λ |9=>9|3=>3|4=>4|5=>5|46=>66|146=>442|51=>379|n=>n,λ |1=>1|n=>n⟩
theorem XW:Go.Proofs.Lays.n219 prog Nj:={
 mixed:=by kernel_rfl
 f217:=Tryz.func325.trans (congrArg some (by kernel_rfl))
 f219:=Tryz.func190.trans (congrArg some (by kernel_rfl))
 f224:=Tryz.func327.trans (congrArg some (by kernel_rfl))
 f225:=Tryz.func326.trans (congrArg some (by kernel_rfl))
 f266:=Tryz.func482.trans (congrArg some (by kernel_rfl))
 f267:=Tryz.func328.trans (congrArg some (by kernel_rfl))
 f314:=Tryz.func483.trans (congrArg some (by kernel_rfl))
 t3:=Tryz.underlying3
 a3:=Tryz.isAgg3
 z3:=Tryz.sizeOf3
 v3:=Tryz.zeroValue3
 t4:=Tryz.underlying4
 a4:=Tryz.isAgg4
 z4:=Tryz.sizeOf4
 v4:=Tryz.zeroValue4
 t5:=Tryz.underlying5
 a5:=Tryz.isAgg5
 z5:=Tryz.sizeOf5
 v5:=Tryz.zeroValue5
 t9:=Tryz.underlying9
 a9:=Tryz.isAgg9
 z9:=Tryz.sizeOf9
 v9:=Tryz.zeroValue9
 t46:=Tryz.underlying66
 a46:=Tryz.isAgg66
 z46:=Tryz.sizeOf66
 v46:=Tryz.zeroValue66
 t51:=Tryz.underlying379
 a51:=Tryz.isAgg379
 z51:=Tryz.sizeOf379
 v51:=Tryz.zeroValue379
 t146:=Tryz.underlying442
 a146:=Tryz.isAgg442
 z146:=Tryz.sizeOf442
 v146:=Tryz.zeroValue442
 g1:=by kernel_rfl}
def Mj:Go.Shelf.Ren:=⟨λ |213=>218|265=>374|n=>n,λ |9=>9|3=>3|n=>n,λ |n=>n⟩
theorem Ft:Go.Proofs.Lays.n213 prog Mj:={
 mixed:=by kernel_rfl
 f213:=Tryz.func218.trans (congrArg some (by kernel_rfl))
 f265:=Tryz.func374.trans (congrArg some (by kernel_rfl))
 t3:=Tryz.underlying3
 a3:=Tryz.isAgg3
 z3:=Tryz.sizeOf3
 v3:=Tryz.zeroValue3
 t9:=Tryz.underlying9
 a9:=Tryz.isAgg9
 z9:=Tryz.sizeOf9
 v9:=Tryz.zeroValue9}
def Lj:Go.Shelf.Ren:=⟨λ |138=>237|195=>389|218=>391|143=>100|219=>190|217=>325|225=>326|224=>327|267=>328|266=>482|314=>483|n=>n,λ |9=>9|3=>3|4=>4|5=>5|0=>0|46=>66|146=>442|51=>379|n=>n,λ |1=>1|n=>n⟩
theorem Et:Go.Proofs.Lays.n138 prog Lj:={
 mixed:=by kernel_rfl
 f138:=Tryz.func237.trans (congrArg some (by kernel_rfl))
 f143:=Tryz.func100.trans (congrArg some (by kernel_rfl))
 f195:=Tryz.func389.trans (congrArg some (by kernel_rfl))
 f217:=Tryz.func325.trans (congrArg some (by kernel_rfl))
 f218:=Tryz.func391.trans (congrArg some (by kernel_rfl))
 f219:=Tryz.func190.trans (congrArg some (by kernel_rfl))
 f224:=Tryz.func327.trans (congrArg some (by kernel_rfl))
 f225:=Tryz.func326.trans (congrArg some (by kernel_rfl))
 f266:=Tryz.func482.trans (congrArg some (by kernel_rfl))
 f267:=Tryz.func328.trans (congrArg some (by kernel_rfl))
 f314:=Tryz.func483.trans (congrArg some (by kernel_rfl))
 t0:=Tryz.underlying0
 a0:=Tryz.isAgg0
 z0:=Tryz.sizeOf0
 v0:=Tryz.zeroValue0
 t3:=Tryz.underlying3
 a3:=Tryz.isAgg3
 z3:=Tryz.sizeOf3
 v3:=Tryz.zeroValue3
 t4:=Tryz.underlying4
 a4:=Tryz.isAgg4
 z4:=Tryz.sizeOf4
 v4:=Tryz.zeroValue4
 t5:=Tryz.underlying5
 a5:=Tryz.isAgg5
 z5:=Tryz.sizeOf5
 v5:=Tryz.zeroValue5
 t9:=Tryz.underlying9
 a9:=Tryz.isAgg9
 z9:=Tryz.sizeOf9
 v9:=Tryz.zeroValue9
 t46:=Tryz.underlying66
 a46:=Tryz.isAgg66
 z46:=Tryz.sizeOf66
 v46:=Tryz.zeroValue66
 t51:=Tryz.underlying379
 a51:=Tryz.isAgg379
 z51:=Tryz.sizeOf379
 v51:=Tryz.zeroValue379
 t146:=Tryz.underlying442
 a146:=Tryz.isAgg442
 z146:=Tryz.sizeOf442
 v146:=Tryz.zeroValue442
 g1:=by kernel_rfl}
def Fh:Go.Shelf.Ren:=⟨λ |246=>243|283=>393|284=>394|285=>395|286=>396|129=>388|317=>558|318=>559|319=>560|320=>561|337=>653|338=>654|n=>n,λ |2=>2|3=>3|9=>9|4=>4|171=>385|0=>0|53=>37|37=>22|5=>5|173=>387|212=>481|51=>379|20=>20|213=>482|46=>66|232=>579|233=>580|n=>n,λ |17=>2|18=>5|19=>6|n=>n⟩
theorem Oj:Go.Proofs.LaysM.n246 prog Fh:={
 mixed:=by kernel_rfl
 f129:=Tryz.func388.trans (congrArg some (by kernel_rfl))
 f246:=Tryz.func243.trans (congrArg some (by kernel_rfl))
 f283:=Tryz.func393.trans (congrArg some (by kernel_rfl))
 f284:=Tryz.func394.trans (congrArg some (by kernel_rfl))
 f285:=Tryz.func395.trans (congrArg some (by kernel_rfl))
 f286:=Tryz.func396.trans (congrArg some (by kernel_rfl))
 f317:=Tryz.func558.trans (congrArg some (by kernel_rfl))
 f318:=Tryz.func559.trans (congrArg some (by kernel_rfl))
 f319:=Tryz.func560.trans (congrArg some (by kernel_rfl))
 f320:=Tryz.func561.trans (congrArg some (by kernel_rfl))
 f337:=Tryz.func653.trans (congrArg some (by kernel_rfl))
 f338:=Tryz.func654.trans (congrArg some (by kernel_rfl))
 t0:=Tryz.underlying0
 a0:=Tryz.isAgg0
 z0:=Tryz.sizeOf0
 v0:=Tryz.zeroValue0
 t2:=Tryz.underlying2
 a2:=Tryz.isAgg2
 z2:=Tryz.sizeOf2
 v2:=Tryz.zeroValue2
 t3:=Tryz.underlying3
 a3:=Tryz.isAgg3
 z3:=Tryz.sizeOf3
 v3:=Tryz.zeroValue3
 t4:=Tryz.underlying4
 a4:=Tryz.isAgg4
 z4:=Tryz.sizeOf4
 v4:=Tryz.zeroValue4
 t5:=Tryz.underlying5
 a5:=Tryz.isAgg5
 z5:=Tryz.sizeOf5
 v5:=Tryz.zeroValue5
 t9:=Tryz.underlying9
 a9:=Tryz.isAgg9
 z9:=Tryz.sizeOf9
 v9:=Tryz.zeroValue9
 t20:=Tryz.underlying20
 a20:=Tryz.isAgg20
 z20:=Tryz.sizeOf20
 v20:=Tryz.zeroValue20
 t37:=Tryz.underlying22
 a37:=Tryz.isAgg22
 z37:=Tryz.sizeOf22
 v37:=Tryz.zeroValue22
 t46:=Tryz.underlying66
 a46:=Tryz.isAgg66
 z46:=Tryz.sizeOf66
 v46:=Tryz.zeroValue66
 t51:=Tryz.underlying379
 a51:=Tryz.isAgg379
 z51:=Tryz.sizeOf379
 v51:=Tryz.zeroValue379
 t53:=Tryz.underlying37
 a53:=Tryz.isAgg37
 z53:=Tryz.sizeOf37
 v53:=Tryz.zeroValue37
 t171:=Tryz.underlying385
 a171:=Tryz.isAgg385
 z171:=Tryz.sizeOf385
 v171:=Tryz.zeroValue385
 t173:=Tryz.underlying387
 a173:=Tryz.isAgg387
 z173:=Tryz.sizeOf387
 v173:=Tryz.zeroValue387
 t212:=Tryz.underlying481
 a212:=Tryz.isAgg481
 z212:=Tryz.sizeOf481
 v212:=Tryz.zeroValue481
 t213:=Tryz.underlying482
 a213:=Tryz.isAgg482
 z213:=Tryz.sizeOf482
 t232:=Tryz.underlying579
 a232:=Tryz.isAgg579
 z232:=Tryz.sizeOf579
 v232:=Tryz.zeroValue579
 t233:=Tryz.underlying580
 a233:=Tryz.isAgg580
 z233:=Tryz.sizeOf580
 v233:=Tryz.zeroValue580
 g17:=by kernel_rfl
 g18:=by kernel_rfl
 g19:=by kernel_rfl
 i0:=by kernel_rfl
 i2:=by kernel_rfl
 i3:=by kernel_rfl
 i4:=by kernel_rfl
 i5:=by kernel_rfl
 i9:=by kernel_rfl
 i20:=by kernel_rfl
 i37:=by kernel_rfl
 i46:=by kernel_rfl
 i51:=by kernel_rfl
 i53:=by kernel_rfl
 i171:=by kernel_rfl
 i173:=by kernel_rfl
 i212:=by kernel_rfl
 i232:=by kernel_rfl
 i233:=by kernel_rfl
 m17:=by kernel_rfl
 m18:=by kernel_rfl
 m19:=by kernel_rfl}
def r7:Go.Shelf.Ren:=⟨λ |156=>171|165=>289|166=>133|169=>134|240=>231|241=>450|276=>377|277=>591|n=>n,λ |31=>31|9=>9|3=>3|4=>4|0=>0|20=>20|72=>171|76=>176|70=>169|37=>22|75=>175|127=>246|164=>369|5=>5|80=>178|n=>n,λ |n=>n⟩
theorem W9:Go.Proofs.Lays.n156 prog r7:={
 mixed:=by kernel_rfl
 f156:=Tryz.func171.trans (congrArg some (by kernel_rfl))
 f165:=Tryz.func289.trans (congrArg some (by kernel_rfl))
 f166:=Tryz.func133.trans (congrArg some (by kernel_rfl))
 f169:=Tryz.func134.trans (congrArg some (by kernel_rfl))
 f240:=Tryz.func231.trans (congrArg some (by kernel_rfl))
 f241:=Tryz.func450.trans (congrArg some (by kernel_rfl))
 f276:=Tryz.func377.trans (congrArg some (by kernel_rfl))
 f277:=Tryz.func591.trans (congrArg some (by kernel_rfl))
 t0:=Tryz.underlying0
 a0:=Tryz.isAgg0
 z0:=Tryz.sizeOf0
 v0:=Tryz.zeroValue0
 t3:=Tryz.underlying3
 a3:=Tryz.isAgg3
 z3:=Tryz.sizeOf3
 v3:=Tryz.zeroValue3
 t4:=Tryz.underlying4
 a4:=Tryz.isAgg4
 z4:=Tryz.sizeOf4
 v4:=Tryz.zeroValue4
 t9:=Tryz.underlying9
 a9:=Tryz.isAgg9
 z9:=Tryz.sizeOf9
 v9:=Tryz.zeroValue9
 t20:=Tryz.underlying20
 a20:=Tryz.isAgg20
 z20:=Tryz.sizeOf20
 v20:=Tryz.zeroValue20
 t31:=Tryz.underlying31
 a31:=Tryz.isAgg31
 z31:=Tryz.sizeOf31
 v31:=Tryz.zeroValue31
 t37:=Tryz.underlying22
 a37:=Tryz.isAgg22
 z37:=Tryz.sizeOf22
 v37:=Tryz.zeroValue22
 t70:=Tryz.underlying169
 a70:=Tryz.isAgg169
 z70:=Tryz.sizeOf169
 v70:=Tryz.zeroValue169
 t72:=Tryz.underlying171
 a72:=Tryz.isAgg171
 z72:=Tryz.sizeOf171
 v72:=Tryz.zeroValue171
 t75:=Tryz.underlying175
 a75:=Tryz.isAgg175
 z75:=Tryz.sizeOf175
 v75:=Tryz.zeroValue175
 t76:=Tryz.underlying176
 a76:=Tryz.isAgg176
 z76:=Tryz.sizeOf176
 v76:=Tryz.zeroValue176
 t127:=Tryz.underlying246
 a127:=Tryz.isAgg246
 z127:=Tryz.sizeOf246
 v127:=Tryz.zeroValue246
 t164:=Tryz.underlying369
 a164:=Tryz.isAgg369
 z164:=Tryz.sizeOf369
 v164:=Tryz.zeroValue369}
theorem JE(l:jA)(c:UInt8):((∀x∈l,x≠c)/\Lib.indexByte l c= -1)∨ ∃b r,l=b++c::r/\(∀x∈b,x≠c)/\Lib.indexByte l c=(b.length:Int):=by
 have m:=Lib.indexByte_ge l c;rcases Int.lt_or_le (Lib.indexByte l c) 0 with h|h
 ·left;have a:Lib.indexByte l c= -1:=by omega
  refine⟨λx f e=>?_,a⟩;obtain⟨k,d,rfl⟩:=List.getElem_of_mem f;exact Lib.indexByte_none a k (by rw[List.getElem?_eq_getElem d,e])
 ·right;obtain⟨o,g⟩:=Int.eq_ofNat_of_zero_le h;obtain⟨a,i⟩:=Lib.indexByte_some g;obtain⟨n,j⟩:=List.getElem?_eq_some_iff.1 a;refine⟨l.take o,l.drop (o+1),?_,λx f e=>?_,?_⟩
  ·rw[<-j,List.getElem_cons_drop,List.take_append_drop]
  ·obtain⟨k,d,rfl⟩:=List.getElem_of_mem f;rw[List.length_take]at d;rw[List.getElem_take]at e;exact i k (by omega) (by rw[List.getElem?_eq_getElem (by omega),e])
  ·rw[g,List.length_take,Nat.min_eq_left (by omega)]
def U8(e:TypeId)(w:World)(c:Nat):Prop:=∃a b,w.heap[c]?=some (.cells a e b)
def mm(l:jA):List Value:=l.map λb=>.int .u8 ((b.toNat:Nat):Int)
def Bd(T e:TypeId)(B b:Nat)(l:jA)(w:World):Prop:=
 B<=b/\ ∃p v,GA T w b [p,v]/\(p= .pointer none∨p= .pointer (some ⟨b,0,none⟩))/\Ow B e w v (mm l)/\v.ownBlock≠some b
theorem Bd.lt{s:jA}(h:Bd u H x n s w):n<w.heap.size:=by obtain⟨_,p,v,h,_⟩:=h;exact h.lt
theorem Bd.ch{s:jA}{S:Nat->Prop}(h:Bd u H x n s w)(k:Ch S w a)(m:¬S n)(j:∀c,S c-> ¬U8 H w c):Bd u H x n s a:=by
 obtain⟨e,q,v,f,g,b,i⟩:=h;refine⟨e,q,v,f.ch k m,g,b.ch k λc o l=>j c l ?_,i⟩;obtain⟨d,p⟩:=b.ty o;exact⟨d,_,p⟩
theorem Bd.ext{b:Nat}{l:jA}(h:Bd u H x b l w)(k:bA w a):Bd u H x b l a:=h.ch (S:=λ_=>False) k.ch id (λ_ h=>h.elim)
abbrev bZ(e:TypeId)(B b:Nat)(w a:World):Prop:=Ch (λc=>B<=c/\(c=b∨U8 e w c)) w a
theorem bZ.trans{b:Nat}{g:World}(h:bZ u x b w a)(k:bZ u x b a g):bZ u x b w g:=by
 refine⟨k.os.trans h.os,k.tape.trans h.tape,k.output.trans h.output,Nat.le_trans h.size k.size,λi n c=>?_⟩;have d:=h.block i n c;refine(k.block i (by have:=h.size;omega) ?_).trans d;rintro⟨e,m|⟨j,l,f⟩⟩
 ·exact c ⟨e,.inl m⟩
 ·rw[d]at f;exact c ⟨e,.inr ⟨j,l,f⟩⟩
theorem xv{B:Nat}{b:Nat×Nat}(d:w.heap[n]?=some (.cells h u b))(e:B<=n)(c:Nat):bZ u B x w (w.freeze ⟨n,0,none⟩ c):=by
 have a:=Lib.below_freeze (B:=n) (Below.refl n w) (p:=⟨n,0,none⟩) (Nat.le_refl _) c;refine⟨a.os,a.tape,a.output,a.size,λi j f=>?_⟩;have g:i≠n:=λu=>f (by rw[u];exact⟨e,.inr ⟨h,b,d⟩⟩);unfold World.freeze;split
 ·rfl
 ·simp only[Array.getElem?_modify];rw[if_neg (λu=>g u.symm)]
section
variable{P:Program}{w:World}
theorem Gw{t e:TypeId}{s:jA}{K:Value->World->Prop}(r:P.underlying t=some (.slice e))(z:P.underlying u=some .string)(m:(P.info? e).map (λi=>(i.zero,i.size,i.bytes))=some (some (.int .u8 0),1,1))
  (p:Ow x e w v y)(k:y.length+s.length<=140737488355328)(o:x<=w.heap.size)(h:∀b a,Ow x e a b (y++mm s)->w.grownBy a v.ownBlock->K b a):nD P (Builtin.append_ #[t,u] H #[v,sv s]) w K:=by
 obtain⟨i,n,d⟩:=Option.map_eq_some_iff.1 m;simp only[Prod.mk.injEq]at d;obtain⟨A,q,l⟩:=d;obtain⟨b,a,g,c,j,_⟩:=Lib.run_append_own_string (P:=P) (w:=w) x t u H e i r z n A q l v y.length y p ⟨s.toArray⟩ (by rw[dH];unfold maxLen;omega) (by rw[dH];exact k) o;refine⟨b,a,g,h b a ?_ j⟩;rw[dH]at c;have f:Lib.strCells ⟨s.toArray⟩=mm s:=by simp[Lib.strCells,mm]
 rw[f]at c;unfold Ow;rw[List.length_append,show(mm s).length=s.length by simp[mm]];exact c
end
theorem W2(l:jA)(c:UInt8)(w:World):CB prog (190) #[sv l,sv [c]] w (iv (Lib.indexByte l c)):=by
 refine⟨⟨_,Tryz.func190,by kernel_rfl,by kernel_rfl⟩,?_⟩;refine(Any.stringslite_Index_one XW ⟨l.toArray⟩ c w).mono ?_;rintro e a ⟨rfl,rfl⟩;exact⟨_,rfl,rfl,bA.refl _⟩
theorem W5{s:jA}(h:∀x∈s,x≠q)(w:World):CB prog 230 #[sv s,sv [q]] w (.tuple #[sv s,sv [],.bool false]):=by
 apply KG;unfold oE;refine gA (W2 s q w) λc a=>?_;rcases JE s q with⟨_,e⟩|⟨b,r,rfl,_,_⟩
 ·rw[e]
  (with_reducible refine LF ?_)
  exact cA rfl ⟨rfl,a⟩
 ·exact absurd rfl (h q (by simp))
theorem D9{s Y:jA}(h:∀x∈s,x≠q)(i:(s++q::Y).length<=1099511627776)(w:World):CB prog 230 #[sv (s++q::Y),sv [q]] w (.tuple #[sv s,sv Y,.bool true]):=by
 apply KG;unfold oE;refine gA (W2 _ q w) λo f=>?_;have j:Lib.indexByte (s++q::Y) q=(s.length:Int):=by
  rcases JE (s++q::Y) q with⟨b,_⟩|⟨c,n,e,b,g⟩
  ·exact absurd rfl (b q (by simp))
  ·rw[g];have:c.length=s.length:=by
    apply Classical.byContradiction;intro m;rcases Nat.lt_or_ge c.length s.length with d|k
    ·have a:=congrArg (λl:jA=>l[c.length]?) e;simp only[List.getElem?_append_left d]at a;rw[List.getElem?_append_right (Nat.le_refl _),Nat.sub_self]at a;exact h q (List.mem_of_getElem? a) rfl
    ·have d:s.length<c.length:=by omega
     have a:=congrArg (λl:jA=>l[s.length]?) e;simp only[List.getElem?_append_left d]at a;rw[List.getElem?_append_right (Nat.le_refl _),Nat.sub_self]at a;exact b q (List.mem_of_getElem? a.symm) rfl
   rw[this]
 rw[j];rw[List.length_append,List.length_cons]at i
 (with_reducible refine LF ?_)
 refine iA (by simp) ?_;refine Cc (by simp) ?_;refine HD ?_;have a:(s.length:Int)+(([q]:jA).length:Nat)=((s.length+1:Nat):Int):=by simp
 refine qA (by rw[a];omega) ?_;rw[a];refine yO (by simp) ?_;intro p b;refine⟨?_,f.trans b⟩;simp
theorem fY{s:jA}(h:∀x∈s,x≠q)(w:World):CB prog 132 #[sv s,sv [q]] w (.tuple #[sv s,sv [],.bool false]):=by
 apply SY;unfold UO;refine gA (W5 h w) λb a=>?_
 (with_reducible refine He ?_;refine Ie ?_;refine Je ?_)
 exact⟨rfl,a⟩
theorem l0{s Y:jA}(h:∀x∈s,x≠q)(b:(s++q::Y).length<=1099511627776)(w:World):CB prog 132 #[sv (s++q::Y),sv [q]] w (.tuple #[sv s,sv Y,.bool true]):=by
 apply SY;unfold UO;refine gA (D9 h b w) λc a=>?_
 (with_reducible refine He ?_;refine Ie ?_;refine Je ?_)
 exact⟨rfl,a⟩
abbrev mf:TypeId:=171
abbrev ND:TypeId:=5
theorem Tu:(prog.info? mf).map (λi=>i.size)=some 2:=by kernel_rfl
set_option maxRecDepth 100000 in
set_option maxHeartbeats 1000000 in
theorem Yn(c:w.cell? ⟨x,0,none⟩=some (.pointer (some ⟨x,0,none⟩))):
  Calls prog 231 #[.pointer (some ⟨x,0,none⟩)] w λe b=>e= .returned (.tuple #[])/\b=w:=by
 obtain⟨j,a,_⟩:=Option.map_eq_some_iff.1 Tu
 go_enter Tryz.func231,Tryz.ntmps231
 go_wp2
 rw[Lib.run_neq_ptr_same w _ Tryz.underlying169 a]
 go_wp2
 go_end0
 exact⟨rfl,rfl⟩
set_option maxRecDepth 100000 in
set_option maxHeartbeats 1000000 in
theorem Al(f:w.cell? ⟨x,0,none⟩=some (.pointer none))(b:w.shape? x=some (mf,2))(g:w.frozen? ⟨x,0,none⟩=false):
  Calls prog 231 #[.pointer (some ⟨x,0,none⟩)] w λe d=>e= .returned (.tuple #[])/\d=w.setCell ⟨x,0,none⟩ (.pointer (some ⟨x,0,none⟩)):=by
 obtain⟨j,a,c⟩:=Option.map_eq_some_iff.1 Tu
 go_enter Tryz.func231,Tryz.ntmps231
 go_wp2
 rw[Lib.run_to_unsafe w ⟨x,0,none⟩ Tryz.underlying169 Tryz.underlying369 a (by rw[c];decide) b (Nat.zero_lt_succ 1)];simp only[Result.andThen];rw[Oper.upon_value]
 go_wp2
 rw[run_callFunc_extern Tryz.func377 (by kernel_rfl) (by kernel_rfl) (by kernel_rfl) (e:=Extern.AbiNoEscape.same) (by kernel_rfl)];rw[Lib.run_noEscape];simp only[Result.andThen];rw[Oper.upon_value]
 go_wp2
 rw[Lib.run_from_unsafe w ⟨x,0,none⟩ Tryz.underlying369 Tryz.underlying169 a b (by kernel_rfl)];simp only[Result.andThen];rw[Oper.upon_value]
 go_wp2
 go_end0
 exact⟨rfl,rfl⟩
theorem QV{s:jA}(h:x<s.length):s.getD x 0=s[x]:=by simp[List.getD_eq_getElem?_getD,h]
def UJ(l:jA):Nat:=(l.takeWhile small).length
theorem xd{s:jA}{k:Nat}(c:k<s.length)(h:∀i,i<k->small (s.getD i 0)=true)(a:small (s.getD k 0)=false):UJ s=k/\s.all small=false:=by
 induction s generalizing k with
 |nil=>simp at c
 |cons x s ih=>
  cases k with
  |zero=>
   have a:small x=false:=a;simp[UJ,a]
  |succ k=>
   have d:small x=true:=h 0 (by omega);have:=ih (k:=k) (by simpa using c) (λi e=>by simpa using h (i+1) (by omega)) (by simpa using a);constructor
   ·have b:=this.1;simp only[UJ]at b⊢;rw[List.takeWhile_cons,if_pos d,List.length_cons,b]
   ·rw[List.all_cons,d,this.2];rfl
theorem K6{s:jA}(h:∀i,i<s.length->small (s.getD i 0)=true):UJ s=s.length/\s.all small=true:=by
 have a:s.all small=true:=by
  rw[List.all_eq_true];intro x c;obtain⟨i,b,rfl⟩:=List.getElem_of_mem c;have:=h i b
  rwa [QV b]at this
 refine⟨?_,a⟩;unfold UJ;have:s.takeWhile small=s:=by
  clear h
  induction s with
  |nil=>rfl
  |cons x s ih=>
   simp only[List.all_cons,Bool.and_eq_true]at a;rw[List.takeWhile_cons,if_pos a.1,ih a.2]
 rw[this]
def T2(l:jA):Int:=if l.all small then-1 else(UJ l:Int)
theorem Tf:(decide (((q.toNat:Nat):Int)<97)||decide ((122:Int)<((q.toNat:Nat):Int)))= !small q:=by
 unfold small;rw[Bool.not_and,Bool.or_comm,Bool.or_comm (!_)];by_cases a:q.toNat<97
 ·rw[decide_eq_true (show((q.toNat:Nat):Int)<97 by omega),decide_eq_false (show¬97<=q.toNat by omega)];simp
 ·rw[decide_eq_false (show¬((q.toNat:Nat):Int)<97 by omega),decide_eq_true (show 97<=q.toNat by omega)];by_cases b:122<q.toNat
  ·rw[decide_eq_true (show(122:Int)<((q.toNat:Nat):Int)by omega),decide_eq_false (show¬q.toNat<=122 by omega)];rfl
  ·rw[decide_eq_false (show¬(122:Int)<((q.toNat:Nat):Int)by omega),decide_eq_true (show q.toNat<=122 by omega)];rfl
theorem Oh(a:GA mf w x [v,i])(d:v= .pointer none∨v= .pointer (some ⟨x,0,none⟩)):
  nA prog 231 #[.pointer (some ⟨x,0,none⟩)] w λ_ b=>GA mf b x [.pointer (some ⟨x,0,none⟩),i]/\PI x w b:=by
 refine⟨⟨_,Tryz.func231,by kernel_rfl,by kernel_rfl⟩,?_⟩;have c:w.cell? ⟨x,0,none⟩=some v:=by rw[a.cell];rfl
 rcases d with rfl|rfl
 ·refine(Al c ?_ (a.frozen 0)).mono ?_
  ·unfold GA at a;simp[World.shape?,a]
  ·rintro e b ⟨rfl,rfl⟩;exact⟨_,rfl,by simpa using a.set 0 (.pointer (some ⟨x,0,none⟩)),PI.setCell w x 0 _⟩
 ·refine(Yn c).mono ?_;rintro e b ⟨rfl,rfl⟩;exact⟨_,rfl,a,PI.refl _ _⟩
theorem bG{s Y:jA}(y:Bd mf ND x n s w)(G:s.length+Y.length<=1099511627776)(z:x<=w.heap.size):
  nA prog 133 #[.pointer (some ⟨n,0,none⟩),sv Y] w λ_ p=>Bd mf ND x n (s++Y) p/\bZ ND x n w p:=by
 apply UK;unfold KF;obtain⟨b,I,J,A,F,E,k⟩:=y;refine aA ((Oh A F).mono ?_);rintro _ f ⟨B,e⟩;have d:=E.upd e k;have H:(mm s).length=s.length:=by simp[mm]
 (with_reducible refine bB ?_;refine pB ?_);refine mA (by assumption) (by first|rfl|simp) ?_
 refine Gw (t:=22) (by kernel_rfl) (by kernel_rfl) (by kernel_rfl) d (by omega) (by rw[e.size];exact z) λo g a j=>?_;have h:=B.grown j k
 (with_reducible refine bB ?_;refine pB ?_)
 refine QH h (by simp) a.cell λC=>?_;refine HD ?_;have m:=PI.setCell g n 1 o;have v:mm s++mm Y=mm (s++Y):=by simp[mm]
 rw[v]at a;have l:=a.ne_blk h (by decide);refine⟨⟨b,.pointer (some ⟨n,0,none⟩),o,by simpa using C,.inr rfl,a.upd m l,l⟩,?_⟩;have q:bZ ND x n w f:=e.ch (S:=λc=>x<=c/\(c=n∨U8 ND w c)) ⟨b,.inl rfl⟩;have r:bZ ND x n f g:=sE (S:=λc=>x<=c/\(c=n∨U8 ND f c)) j λc i=>by
  obtain⟨u,D⟩:=d.ty i;exact⟨(d.blk c i).1,.inr ⟨u,_,D⟩⟩
 exact(q.trans r).trans (m.ch (S:=λc=>x<=c/\(c=n∨U8 ND g c)) ⟨b,.inl rfl⟩)
theorem U2{s:jA}(m:Bd mf ND x n s w):nA prog 134 #[.pointer (some ⟨n,0,none⟩)] w λH j=>H=sv s/\bZ ND x n w j:=by
 apply YO;unfold tH;obtain⟨J,R,T,K,Q,u,P⟩:=m;have v:(mm s).length=s.length:=by simp[mm]
 have c:∀{j w''},bZ ND x n w j->bA j w''->bZ ND x n w w'':=λm G=>bZ.trans m (G.ch (S:=λk=>x<=k/\(k=n∨U8 ND _ k)));have i:bZ ND x n w w:=(bA.refl w).ch
 (with_reducible refine bB ?_;refine pB ?_);refine mA (by assumption) (by first|rfl|simp) ?_;(with_reducible refine bB ?_;refine pB ?_);refine mA (by assumption) (by first|rfl|simp) ?_
 refine XC u.sl ?_;rw[v];intro e h;have p:=u.ext h;obtain⟨_,⟨D,O⟩|⟨g,y,l,C,B,o,L,A,M,N⟩⟩:=id p
 ·have f:s=[]:=List.length_eq_zero_iff.1 (by omega);subst f;subst D;refine⟨_,e,Lib.run_unsafeSliceData_nil (w:=e) _ _ _ _,bA.refl _,?_⟩;intro a b;refine⟨_,a,Lib.run_unsafeString_none a _ _ _ none,?_⟩;intro q d;exact⟨rfl,c (c i (h.trans b)) d⟩
 ·subst C;rw[v]at*;by_cases r:y=0
  ·subst r;have f:s=[]:=List.length_eq_zero_iff.1 (by omega);subst f;refine⟨_,_,Lib.run_unsafeSliceData_zero e _ _ ND (by kernel_rfl) ⟨g,0,none⟩ 0 (ND,l.size) (by simp[World.shape?,o]),bA.alloc e _,?_⟩;intro a b;refine⟨_,a,Lib.run_unsafeString_none a _ _ _ _,?_⟩;intro q d;exact⟨rfl,c (c i (h.trans ((bA.alloc e _).trans b))) d⟩
  ·refine⟨_,e,Lib.run_unsafeSliceData_row (w:=e) _ _ _ _ _ r,bA.refl _,?_⟩;intro a b;have t:a.heap[g]?=some (.cells l ND (0,0)):=by rw[RowKit.Below.block b g (OE o)];exact o
   by_cases f:s=[]
   ·subst f;refine⟨_,a,Lib.run_unsafeString_none a _ _ _ _,?_⟩;intro q d;exact⟨rfl,c (c i (h.trans b)) d⟩
   ·refine⟨_,_,Lib.run_unsafeString_row a _ _ _ ND (by kernel_rfl) (by kernel_rfl) g l.size (by simp[World.shape?,t]) s f (by omega) (by unfold maxLen at A;omega) ?_,?_⟩
    ·intro F I E;have:=(p.ext b).sl;have z:=World.ownsRow.cells (p.ext b) (g:=g) rfl F (.int .u8 I.toNat) (by simp[mm,E]);exact z
    ·intro q d;exact⟨rfl,c (bZ.trans (c i (h.trans b)) (xv t B _)) d⟩
theorem Qh(y:∀(c:Nat) (w:World),c<=2147483647->TB prog i [.int .i32 (c:Int)] w λv f=>v= .bool (decide ((c:Int)<97)||decide ((122:Int)<(c:Int)))/\bA w f){s:jA}(w:World):
  CB prog 232 #[sv s,i,.bool true] w (iv (T2 s)):=by
 apply NX;unfold hM;refine Qq (by kernel_rfl) λo K G q r=>?_;refine MB (λ_:Nat=>[]) (λa f=>a<=s.length/\bA w f/\It f o s a/\ ∀k,k<a->small (s.getD k 0)=true) (λa=>s.length-a) 0 rfl ⟨Nat.zero_le _,q,r,λk A=>by omega⟩ ?_;rintro a L E ⟨J,l,m,d⟩ u;intro _;by_cases j:a<s.length
 ·refine Oq m j λc F n I C z x D t=>?_;have g:bA w n:=l.upd D (by omega)
  (with_reducible refine He ?_)
  refine iA rfl ?_
  (with_reducible refine Ie ?_;refine Je ?_)
  refine(y c n x).mono ?_;rintro _ M ⟨rfl,b⟩;refine⟨_,_,rfl,rfl,?_⟩;rcases Nat.lt_or_ge (s.getD a 0).toNat 128 with h|h
  ·obtain⟨rfl,rfl⟩:=C h;rw[Tf];cases e:small (s.getD a 0)
   ·refine iA rfl ?_;have:=xd j d e;refine⟨?_,g.trans b⟩;unfold T2;rw[this.2,if_neg (by decide),this.1]
   ·refine cA rfl ?_;refine u (a+1) _ ⟨by omega,g.trans b,t.ext b,λk A=>?_⟩ (by omega);by_cases B:k=a
    ·rw[B];exact e
    ·exact d k (by omega)
  ·have H:=z h;rw[show decide ((122:Int)<(c:Int))=true by rw[decide_eq_true_eq];omega,Bool.or_true];refine iA rfl ?_;have e:small (s.getD a 0)=false:=by unfold small;rw[decide_eq_false (show¬(s.getD a 0).toNat<=122 by omega),Bool.and_false]
   have:=xd j d e;refine⟨?_,g.trans b⟩;unfold T2;rw[this.2,if_neg (by decide),this.1]
 ·have p:a=s.length:=by omega
  subst p;refine Nq m (Nat.le_refl _) ?_;refine eD (by rfl) ?_;refine cA rfl ?_;refine⟨?_,l⟩;unfold T2;rw[(K6 d).2,if_pos rfl]
theorem V2(b:∀(c:Nat) (w:World),c<=2147483647->TB prog i [.int .i32 (c:Int)] w λv w'=>v= .bool (decide ((c:Int)<97)||decide ((122:Int)<(c:Int)))/\bA w w'){s:jA}(w:World):
  CB prog 135 #[sv s,i] w (iv (T2 s)):=by
 apply MX;unfold gM;exact gA (Qh b w) λd a=>⟨rfl,a⟩
theorem PQ(b:∀(c:Nat) (w:World),c<=2147483647->TB prog i [.int .i32 (c:Int)] w λv w'=>v= .bool (decide ((c:Int)<97)||decide ((122:Int)<(c:Int)))/\bA w w'){s:jA}(w:World):
  CB prog 123 #[sv s,i] w (.bool !(s.all small)):=by
 apply tR;unfold OI;refine gA (V2 b w) λd a=>?_
 (with_reducible refine LF ?_)
 refine⟨?_,a⟩;unfold T2;cases s.all small
 ·rw[if_neg (by decide)];simp
 ·rw[if_pos rfl];rfl
theorem L5(c:Nat)(w:World)(_:c<=2147483647):cf 124 [.int .i32 (c:Int)] w λv d=>v= .bool (decide ((c:Int)<97)||decide ((122:Int)<(c:Int)))/\bA w d:=by
 refine aA ?_;show nA prog 124 #[.int .i32 (c:Int)] w _;apply P7;unfold dS;refine sB (decide ((c:Int)<97)||decide ((122:Int)<(c:Int))) w (λJ a=>?_) (λf b=>?_)
 ·(with_reducible refine jB ?_)
  refine dA (λh=>?_) (λh=>?_)
  ·rw[decide_eq_true h,Bool.true_or]at a;exact a w (bA.refl _)
  ·rw[decide_eq_false h,Bool.false_or]at a
   (with_reducible refine jB ?_)
   exact a w (bA.refl _)
 ·intro _;exact⟨rfl,b⟩
theorem TZ(c:Nat)(w:World)(_:c<=2147483647):cf 136 [.int .i32 (c:Int)] w λv d=>v= .bool (decide ((c:Int)<97)||decide ((122:Int)<(c:Int)))/\bA w d:=by
 refine aA ?_;show nA prog 136 #[.int .i32 (c:Int)] w _;apply E1;unfold gO;refine sB (decide ((c:Int)<97)||decide ((122:Int)<(c:Int))) w (λJ a=>?_) (λf b=>?_)
 ·(with_reducible refine jB ?_)
  refine dA (λh=>?_) (λh=>?_)
  ·rw[decide_eq_true h,Bool.true_or]at a;exact a w (bA.refl _)
  ·rw[decide_eq_false h,Bool.false_or]at a
   (with_reducible refine jB ?_)
   exact a w (bA.refl _)
 ·intro _;exact⟨rfl,b⟩
theorem dW{s:jA}(f:s.length<=1099511627776)(w:World):CB prog 51 #[sv s] w (.bool (KD s)):=by
 apply Qd;unfold oY;refine sB (KD s) w (λJ a=>?_) (λg b=>λ_=>⟨rfl,b⟩);unfold KD at a;refine HD ?_
 (with_reducible refine LF ?_)
 refine dA (λc=>?_) (λc=>?_)
 ·refine HD ?_
  (with_reducible refine LF ?_)
  refine dA (λb=>?_) (λb=>?_)
  ·refine gA (PQ L5 w) λe d=>?_
   (with_reducible refine TA ?_)
   rw[decide_eq_true (show 1<=s.length by omega),decide_eq_true (show s.length<=8 by omega),Bool.and_true,Bool.and_true]at a;rw[Bool.not_not];exact a e d
  ·rw[decide_eq_false (show¬s.length<=8 by omega),Bool.and_false,Bool.and_false]at a;exact a w (bA.refl _)
 ·rw[decide_eq_false (show¬1<=s.length by omega),Bool.false_and,Bool.and_false]at a;exact a w (bA.refl _)
theorem C6(c:UInt8)(w:World):CB prog 67 #[.int .u8 ((c.toNat:Nat):Int)] w (.bool (small c)):=by
 apply Q8;unfold WS;refine sB (small c) w (λJ a=>?_) (λe d=>λ_=>⟨rfl,d⟩);unfold small at a
 (with_reducible refine LF ?_)
 refine dA (λb=>?_) (λb=>?_)
 ·rw[decide_eq_true (show 97<=c.toNat by omega),Bool.true_and]at a
  (with_reducible refine LF ?_)
  rw[show decide (((c.toNat:Nat):Int)<=122)=decide (c.toNat<=122)from decide_eq_decide.2 (by omega)];exact a w (bA.refl _)
 ·rw[decide_eq_false (show¬97<=c.toNat by omega),Bool.false_and]at a;exact a w (bA.refl _)
theorem CT{s:jA}(v:s.length<=1099511627776)(w:World):CB prog 59 #[sv s] w (.bool (KD s)):=by
 apply Kb;unfold mV;refine MB (λi:Nat=>[iv i]) (λi q=>i<=s.length/\bA w q/\ ∀k,k<i->small (s.getD k 0)=true) (λi=>s.length-i) 0 rfl ⟨Nat.zero_le _,bA.refl _,λk o=>by omega⟩ ?_;rintro i b t ⟨u,d,f⟩ m
 (intro _;(try simp only[gx]))
 refine HD ?_
 (with_reducible refine jB ?_)
 refine dA (λl=>?_) (λl=>?_)
 ·have e:i<s.length:=by omega
  refine sB (!small (s.getD i 0)) b (λJ a=>?_) (λr c=>?_)
  ·rw[<-Tf]at a;refine Hp e ?_
   (with_reducible refine jB ?_)
   refine dA (λh=>?_) (λh=>?_)
   ·rw[decide_eq_true h,Bool.true_or]at a;exact a b (bA.refl _)
   ·rw[decide_eq_false h,Bool.false_or]at a;refine Hp e ?_
    (with_reducible refine jB ?_)
    exact a b (bA.refl _)
  ·intro _;cases g:small (s.getD i 0)
   ·refine iA rfl ⟨?_,d.trans c⟩;unfold KD;rw[(xd e f g).2,Bool.false_and]
   ·refine cA rfl ?_;refine qA (by omega) ?_;refine m (i+1) _ ⟨by omega,d.trans c,λk o=>?_⟩ (by omega);by_cases p:k=i
    ·rw[p];exact g
    ·exact f k (by omega)
 ·have j:i=s.length:=by omega
  subst j;have n:=(K6 f).2;refine sB (KD s) b (λJ a=>?_) (λr c=>λ_=>⟨rfl,d.trans c⟩);unfold KD at a;rw[n,Bool.true_and]at a;refine HD ?_
  (with_reducible refine LF ?_)
  refine dA (λh=>?_) (λh=>?_)
  ·rw[decide_eq_true (show 1<=s.length by omega),Bool.true_and]at a;refine HD ?_
   (with_reducible refine LF ?_)
   rw[show decide (((s.length:Nat):Int)<=8)=decide (s.length<=8)from decide_eq_decide.2 (by omega)];exact a b (bA.refl _)
  ·rw[decide_eq_false (show¬1<=s.length by omega),Bool.false_and]at a;exact a b (bA.refl _)
theorem lg(t:jA)(h:x<=n):t.drop x=(t.drop x).take (n-x)++t.drop n:=by
 have:=(List.take_append_drop (n-x) (t.drop x)).symm
 rwa [List.drop_drop,show x+(n-x)=n by omega]at this
theorem Zh{t:jA}{p:UInt8->Prop}{i j:Nat}(d:j<=t.length)(h:∀k,i<=k->k<j->p (t.getD k 0)):∀c∈(t.drop i).take (j-i),p c:=by
 intro c a;obtain⟨k,b,rfl⟩:=List.getElem_of_mem a;rw[List.length_take,List.length_drop]at b;rw[List.getElem_take,List.getElem_drop];have:=h (i+k) (by omega) (by omega)
 rwa [QV (by omega)]at this
theorem oq{s:jA}{f:Nat}(y:x<=f)(d:f<s.length)(v:f+1<=C)(w:C<=s.length)(o:∀k,x<=k->k<f->s.getD k 0≠36)(q:s.getD f 0=36)(t:∀k,f+1<=k->k<C->small (s.getD k 0)=true)(u:C<s.length->small (s.getD C 0)=false):
  CA (s.drop x)=((s.drop x).take (f-x),((s.drop (f+1)).take (C-(f+1)),(CA (s.drop C)).1)::(CA (s.drop C)).2):=by
 have i:=lg s y;have j:s.drop f=36::s.drop (f+1):=by rw[List.drop_eq_getElem_cons d,<-QV d,q]
 have l:=lg s v;have m:s.drop x=(s.drop x).take (f-x)++36::((s.drop (f+1)).take (C-(f+1))++s.drop C):=by rw[<-l,<-j];exact i
 have g:=fQ (a:=(s.drop x).take (f-x)) (n:=(s.drop (f+1)).take (C-(f+1))) (r:=s.drop C) (Zh (p:=λc=>c≠36) (Nat.le_of_lt d) o)
  (by rw[List.all_eq_true];exact Zh (p:=λc=>small c=true) w t) (λc z b=>by
   have e:C<s.length:=by
    rcases Nat.lt_or_ge C s.length with h|h
    ·exact h
    ·rw[List.drop_of_length_le h]at b;cases b
   rw[List.drop_eq_getElem_cons e]at b;injection b with b _
   rw[<-b,<-QV e];exact u e)
 rw[<-m]at g;exact g
theorem Ce(t:jA):∀n∈QA (CA t),n.length<=t.length:=by
 induction t using T1 with
 |h0 t h=>rw[iI h];intro n c;cases c
 |h1 a n r ha c hr ih=>
  rw[fQ ha c hr];intro m b;simp only[QA,List.map_cons,List.mem_cons]at b;simp only[List.length_append,List.length_cons];rcases b with rfl|b
  ·omega
  ·have:=ih m b;omega
def yA(L:List jA):List Value:=L.map sv
theorem AA(L:List jA):(yA L).length=L.length:=List.length_map _
theorem uG(L:List jA)(s:jA):yA L++[sv s]=yA (L++[s]):=by simp[yA]
abbrev iM(w:World)(v:Value)(L:List jA):Prop:=Sl w v (yA L)
theorem mQ{L:List jA}{j:Nat}{b:IntKind}(d:iM w v L)(a:j<L.length)(h:∀p,w.cell? p=some (sv L[j])->z (.pointer (some p))):wA 1 v (.int b (j:Int)) z:=by
 refine pP d (by omega) (by rw[AA];omega) λp c=>h p (c.trans ?_);rw[Int.toNat_natCast];simp[yA,a]
theorem ZA{L:List jA}(a:iM w v L)(h:z (iv (L.length:Nat))):lA v z:=XC a (by rw[AA];exact h)
theorem tI(L:List jA):∀u∈yA L,vA u=true:=by
 intro u a;obtain⟨s,_,rfl⟩:=List.mem_map.1 a;rfl
def WK(a:jA)(q:List (jA×jA)):jA:=a++q.flatMap λx=>40::(x.1++41::x.2)
theorem EZ(g:jA->jA)(c:xx):WK c.1 (c.2.map λx=>(g x.1,x.2))=SB g c:=by
 unfold WK SB;rw[List.flatMap_map]
theorem Fl(a:jA)(q:List (jA×jA))(k:Nat):(WK a (q.take k)).length<=(WK a q).length:=by
 have:WK a q=WK a (q.take k)++(q.drop k).flatMap λx=>40::(x.1++41::x.2):=by
  unfold WK;rw[List.append_assoc,<-List.flatMap_append,List.take_append_drop]
 rw[this,List.length_append];omega
theorem El(a:jA)(q:List (jA×jA))(b:x<q.length):WK a (q.take (x+1))=WK a (q.take x)++[40]++q[x].1++[41]++q[x].2:=by
 unfold WK;rw[List.take_succ_eq_append_getElem b,List.flatMap_append];simp
theorem oJ{t:jA}(ht:t.length<=4194304)(w:World):nA prog 31 #[sv t] w λay l=>bA w l/\ ∃q b,ay= .tuple #[q,b]/\Ow w.heap.size fA l q (yA (MR (CA t)))/\Ow w.heap.size fA l b (yA (QA (CA t))):=by
 apply Be;unfold PY;refine PH λba w1 bg M ae=>?_;refine PH λaz w2 bh O aa=>?_;have ax:=M.size;refine MB (λs:Value×Value×Nat×Nat=>[s.1,s.2.1,iv (s.2.2.1:Int),iv (s.2.2.2:Int)]) (λs l=>s.2.2.1<=s.2.2.2/\s.2.2.2<=t.length/\(∀k,s.2.2.1<=k->k<s.2.2.2->t.getD k 0≠36)/\bA w l/\(∀c,s.1.ownBlock=some c->s.2.1.ownBlock≠some c)/\
   ∃P N:List jA,P.length<=s.2.2.1/\N.length<=s.2.2.1/\Ow w.heap.size fA l s.1 (yA P)/\Ow w.heap.size fA l s.2.1 (yA N)/\P++MR (CA (t.drop s.2.2.1))=MR (CA t)/\N++QA (CA (t.drop s.2.2.1))=QA (CA t)) (λs=>t.length-s.2.2.2) (ba,az,0,0) rfl
  ⟨Nat.le_refl _,Nat.zero_le _,λk _ g=>absurd g (Nat.not_lt_zero _),M.trans O,λc a d=>by have:=(ae.blk c a).2;have:=(aa.blk c d).1;omega,[],[],Nat.le_refl _,Nat.le_refl _,ae.ext O,aa.mono ax,rfl,rfl⟩ ?_
 rintro⟨q,b,f,i⟩ K Kn ⟨G,Y,y,B,n,P,N,I,H,o,z,v,u⟩ R;have G:f<=i:=G;have Y:i<=t.length:=Y;have y:∀k,f<=k->k<i->t.getD k 0≠36:=y;have n:∀c,q.ownBlock=some c->b.ownBlock≠some c:=n;have I:P.length<=f:=I;have H:N.length<=f:=H;have o:Ow w.heap.size fA K q (yA P):=o;have z:Ow w.heap.size fA K b (yA N):=z;have v:P++MR (CA (t.drop f))=MR (CA t):=v;have u:N++QA (CA (t.drop f))=QA (CA t):=u;have be:=AA P;have bd:=AA N
 (intro _;(try simp only[gx]))
 refine HD ?_
 (with_reducible refine jB ?_)
 refine dA (λh5=>?_) (λh5=>?_)
 ·have x:i<t.length:=by omega
  refine Hp x ?_
  (with_reducible refine ZF ?_)
  refine dA (λC=>?_) (λC=>?_)
  ·refine qA (by omega) ?_;refine R (q,b,f,i+1) _ ⟨by show f<=i+1;omega,by show i+1<=t.length;omega,λk g m=>?_,B,n,P,N,I,H,o,z,v,u⟩ (by show t.length-(i+1)<t.length-i;omega);have m:k<i+1:=m;by_cases av:k=i
   ·rw[av];intro e;rw[e]at C;exact C rfl
   ·exact y k g (by omega)
  ·have an:t.getD i 0=36:=by
    have:((((t.getD i 0).toNat:Nat):Int))=(((36:UInt8).toNat:Nat):Int):=Classical.not_not.1 C;exact(Wr _ _).1 this
   refine qA (by omega) ?_;refine MB (λe:Nat=>[iv e]) (λe l=>i+1<=e/\e<=t.length/\bA K l/\ ∀k,i+1<=k->k<e->small (t.getD k 0)=true) (λe=>t.length-e) (i+1) (by simp) ⟨Nat.le_refl _,by omega,bA.refl _,λk g m=>by omega⟩ ?_;rintro e L bc ⟨U,J,D,ak⟩ ao;intro _;simp only[gx];refine sB (decide (e<t.length)&&small (t.getD e 0)) L (λbb F=>?_) (λw8 E=>?_)
   ·refine HD ?_
    (with_reducible refine jB ?_)
    refine dA (λh=>?_) (λh=>?_)
    ·have x:e<t.length:=by omega
     rw[decide_eq_true x,Bool.true_and]at F;refine Hp x ?_;exact gA (C6 _ L) λw9 h9=>F w9 h9
    ·rw[decide_eq_false (show¬e<t.length by omega),Bool.false_and]at F;exact F L (bA.refl _)
   ·intro _;simp only[gx];cases a:decide (e<t.length)&&small (t.getD e 0)
    rotate_left
    ·rw[Bool.and_eq_true,decide_eq_true_eq]at a;refine iA rfl ?_;refine qA (by omega) ?_;refine ao (e+1) _ ⟨by omega,by omega,D.trans E,λk g m=>?_⟩ (by omega);by_cases au:k=e
     ·rw[au];exact a.2
     ·exact ak k g (by omega)
    ·refine cA rfl ?_;have aj:=oq G x U J y an ak (λh=>by rw[decide_eq_true h,Bool.true_and]at a;exact a);have T:=B.trans (D.trans E);have ai:=o.ext (D.trans E);have ad:=z.ext (D.trans E);refine Bc G (by omega) ?_;refine WE IB EB rfl ai rfl (by omega) (by omega) T.size λr bi af V aq=>?_;have S:=T.grown V (λc a=>(ai.blk c a).1);have ab:=ad.grown V (by
      cases A:b.ownBlock with
      |none=>exact .inl rfl
      |some c=>exact .inr λe=>n c e.symm A)
     refine qA (by omega) ?_;have e1:(i:Int)+1=((i+1:Nat):Int):=by omega
     rw[e1];refine Bc U J ?_;refine WE IB EB rfl ab rfl (by omega) (by omega) S.size λal bj ac W ar=>?_;have ap:=S.grown W (λc a=>(ab.blk c a).1);have Q:∀c,r.ownBlock=some c->b.ownBlock≠some c:=λc a d=>by
      rcases aq with h|⟨am,h,hd⟩
      ·exact n c (by rw[<-h];exact a) d
      ·rw[a]at h;cases h;have:=(ad.blk c d).2;omega
     have ag:=af.grown W (by
      cases A:r.ownBlock with
      |none=>exact .inl rfl
      |some c=>exact .inr λe=>Q c A e.symm)
     refine HB (by omega) ?_;refine qA (by omega) ?_;have e2:(e:Int)-1+1=(e:Int):=by omega
     rw[e2];rw[uG]at ag ac;refine R (r,al,e,e) _ ⟨Nat.le_refl _,J,λk g m=>by have g:e<=k:=g;have m:k<e:=m;omega,ap,λc a d=>?_,P++[(t.drop f).take (i-f)],N++[(t.drop (i+1)).take (e-(i+1))],by rw[List.length_append,List.length_singleton];show P.length+1<=e;omega,by rw[List.length_append,List.length_singleton];show N.length+1<=e;omega,ag,ac,?_,?_⟩ (by show t.length-e<t.length-i;omega)
     ·have a:r.ownBlock=some c:=a;have d:al.ownBlock=some c:=d;rcases ar with h|⟨am,h,hd⟩
      ·exact Q c a (by rw[<-h];exact d)
      ·rw[d]at h;cases h;have:=(af.blk c a).2;omega
     ·show P++[_]++MR (CA (t.drop e))=MR (CA t);rw[<-v,aj,List.append_assoc];rfl
     ·show N++[_]++QA (CA (t.drop e))=QA (CA t);rw[<-u,aj,List.append_assoc];rfl
 ·have ei:i=t.length:=by omega
  subst ei;refine yO (by omega) ?_;refine WE IB EB rfl o rfl (by omega) (by omega) B.size λr bk ah X _=>?_;have Z:CA (t.drop f)=(t.drop f,[]):=iI λc a=>by
   have:=Zh (t:=t) (p:=λc=>c≠36) (i:=f) (j:=t.length) (Nat.le_refl _) y c;rw[List.take_of_length_le (by simp)]at this;exact this a
  have aw:=z.grown X (by
   cases A:b.ownBlock with
   |none=>exact .inl rfl
   |some c=>exact .inr λe=>n c e.symm A)
  rw[uG]at ah;refine⟨B.grown X (λc a=>(o.blk c a).1),r,b,rfl,?_,?_⟩
  ·rw[<-v,Z];exact ah
  ·rw[<-u,Z];show Ow _ _ _ _ (yA (N++[]));rw[List.append_nil];exact aw
theorem DL{p0:jA}{q:List (jA×jA)}(g:iM w v (p0::q.map Prod.snd))(l:iM w i (q.map Prod.fst))(z:(WK p0 q).length<=1099511627776):
  CB prog 61 #[v,i] w (sv (WK p0 q)):=by
 apply Lb;unfold oV;have u:=l.len;rw[AA,List.length_map]at u;refine mQ (j:=0) g (by simp) λp a=>?_;refine DD a ?_;refine MB (λk:Nat=>[sv (WK p0 (q.take k)),iv k]) (λk x=>k<=q.length/\bA w x) (λk=>q.length-k) 0 (by simp[WK]) ⟨Nat.zero_le _,bA.refl _⟩ ?_;rintro k B y ⟨A,c⟩ r;have s:=g.ext c;have t:=l.ext c
 (intro _;(try simp only[gx]);(with_reducible refine XC (by assumption) ?_;refine jB ?_))
 rw[AA,List.length_map];refine dA (λn=>?_) (λn=>?_)
 ·have e:k<q.length:=by omega
  have h:=El p0 q e;have f:=Fl p0 q (k+1);rw[h]at f;simp only[List.length_append,List.length_singleton]at f;refine vD (b:=[40]) (by simp;omega) ?_;refine mQ t (by rw[List.length_map];exact e) λp a=>?_;rw[List.getElem_map]at a;refine DD a ?_;refine vD (by simp only[List.length_append,List.length_singleton];omega) ?_;refine vD (b:=[41]) (by simp only[List.length_append,List.length_singleton];omega) ?_;refine qA (by omega) ?_;have d:(k:Int)+1=((k+1:Nat):Int):=by omega
  rw[d];refine mQ (j:=k+1) s (by simp;omega) λp a=>?_;have m:(p0::q.map Prod.snd)[k+1]'(by simp;omega)=q[k].2:=by simp
  rw[m]at a;refine DD a ?_;refine vD (by simp only[List.length_append,List.length_singleton];omega) ?_;intro C o;rw[<-h];refine qA (by omega) ?_;rw[d];exact r (k+1) _ ⟨by omega,c.trans o⟩ (by omega)
 ·rw[List.take_of_length_le (by omega)];exact⟨rfl,c⟩
theorem EL{s:jA}(ht:s.length<=262144)(z:World):CB prog 28 #[sv s] z (.bool (AC s)):=by
 apply Mb;unfold pV;refine aA ((oJ (by omega) z).mono ?_);rintro _ l ⟨n,vp,vn,rfl,T,S⟩
 (with_reducible refine lD ?_;refine mD ?_)
 refine PH λj w2 _ o V=>?_;have aa:=mN s;have R:(QA (CA s)).length=(CA s).2.length:=List.length_map _;refine MB (λa:Value×Nat=>[a.1,iv (a.2:Int)]) (λa A=>a.2<=(QA (CA s)).length/\bA l A/\Ow l.heap.size fA A a.1 (yA (List.replicate a.2 [112]))/\ ∀k (h:k<(QA (CA s)).length),k<a.2->KD (QA (CA s))[k]=true) (λa=>(QA (CA s)).length-a.2) (j,0) rfl ⟨Nat.zero_le _,o,V,λk _ d=>absurd d (Nat.not_lt_zero _)⟩ ?_;rintro⟨j,i⟩ C Kn ⟨r,b,e,v⟩ M;have r:i<=(QA (CA s)).length:=r;have e:Ow l.heap.size fA C j (yA (List.replicate i [112])):=e;have w:=S.ext b;have p:=n.trans b
 (intro _;(try simp only[gx]))
 refine ZA w.sl ?_
 (with_reducible refine jB ?_)
 refine dA (λJ=>?_) (λJ=>?_)
 ·have f:i<(QA (CA s)).length:=by omega
  refine mQ w.sl f λae W=>?_;refine DD W ?_;refine gA (CT (by have:=Ce s _ (List.getElem_mem f);omega) C) λw5 c=>?_;refine TA ?_;cases u:KD (QA (CA s))[i]
  ·refine iA rfl ⟨?_,p.trans c⟩;have:(QA (CA s)).all KD=false:=by
    rw[Bool.eq_false_iff];intro h;rw[List.all_eq_true]at h;have:=h _ (List.getElem_mem f);rw[u]at this;cases this
   unfold AC;rw[this,Bool.false_and]
  ·refine cA rfl ?_;have ac:(yA (List.replicate i ([112]:jA))).length=i:=by rw[AA,List.length_replicate]
   refine WE IB EB rfl (e.ext c) rfl (by omega) (by omega) (b.trans c).size λY w7 y P _=>?_;have E:yA (List.replicate i ([112]:jA))++[sv [112]]=yA (List.replicate (i+1) [112]):=by rw[uG,List.replicate_succ']
   rw[E]at y;refine qA (by omega) ?_;refine M (Y,i+1) _ ⟨by show i+1<=_;omega,(b.trans c).grown P (λD O=>((e.ext c).blk D O).1),y,λk d t=>?_⟩ (by show _-(i+1)<_-i;omega);have t:k<i+1:=t;by_cases Q:k=i
   ·subst Q;exact u
   ·exact v k d (by show k<i;omega)
 ·have I:i=(QA (CA s)).length:=by omega
  have N:(QA (CA s)).all KD=true:=by
   rw[List.all_eq_true];intro x X;obtain⟨k,d,rfl⟩:=List.getElem_of_mem X;exact v k d (by show k<i;omega)
  have U:=T.ext b;have ab:=Y1 (g:=λ_=>[112]) (B:=1) s (λad _=>by simp);have F:((CA s).2.map λx=>(([112]:jA),x.2)).map Prod.snd=(CA s).2.map Prod.snd:=by simp
  have G:((CA s).2.map λx=>(([112]:jA),x.2)).map Prod.fst=List.replicate i [112]:=by
   rw[I,R];apply List.ext_getElem
   ·simp
   ·intro k n o;simp
  have m:WK (CA s).1 ((CA s).2.map λx=>(([112]:jA),x.2))=SB (λ_=>[112]) (CA s):=EZ (λ_=>[112]) (CA s);refine gA (DL (p0:=(CA s).1) (q:=(CA s).2.map λx=>(([112]:jA),x.2)) (by rw[F];exact U.sl) (by rw[G];exact e.sl) (by rw[m];omega)) λZ K=>?_;rw[m];refine aA ((JH (by omega) Z).mono ?_);rintro _ w9 ⟨L,af,rfl,_⟩
  (with_reducible refine lD ?_;refine mD ?_;refine jB ?_)
  refine⟨?_,p.trans (K.trans L)⟩;have H:AC s=pK (SB (λ_=>[112]) (CA s)):=by unfold AC pK;rw[N,Bool.true_and]
  rw[H];cases pK (SB (λ_=>[112]) (CA s))
  ·simp
  ·simp
structure tm(P:Program)(e8:TypeId)(fv:Value)(g:jA->jA)(ok:jA->Prop) where
 J:(Nat->Prop)->List jA->World->Prop
 below:∀{S l w},J S l w-> ∀k,S k->k<w.heap.size
 keep:∀{S l w w'},J S l w->w.heap.size<=w'.heap.size->(∀k,S k->w'.heap[k]?=w.heap[k]?)->J S l w'
 no8:∀{S l w},J S l w-> ∀k,S k-> ¬U8 e8 w k
 call:∀{S l w n},J S l w->KD n=true->ok n->l.length<=4194304->TB P fv [sv n] w λu w'=>u=sv (g n)/\ ∃S',J S' (l++[n]) w'/\Ch S w w'/\ ∀k,S' k->S k∨w.heap.size<=k
theorem ju(l:jA):l.take (UJ l)=l.takeWhile small/\l.drop (UJ l)=l.dropWhile small:=by
 unfold UJ
 induction l with
 |nil=>exact⟨rfl,rfl⟩
 |cons x l ih=>
  rw[List.takeWhile_cons,List.dropWhile_cons];split
  ·rw[List.length_cons,List.take_succ_cons,List.drop_succ_cons,ih.1,ih.2];exact⟨rfl,rfl⟩
  ·exact⟨rfl,rfl⟩
theorem Uo(l:jA):decide (T2 l<0)=l.all small:=by
 unfold T2;cases h:l.all small
 ·rw[if_neg (by decide)];simp
 ·rw[if_pos rfl];rfl
theorem rp{s:jA}(h:s.all small=true):UJ s=s.length:=
 (K6 λi a=>by rw[QV a];exact List.all_eq_true.1 h _ (List.getElem_mem a)).1
theorem yl(t:jA):((∀c∈t,c≠36)/\CA t=(t,[]))∨ ∃a r,t=a++36::r/\(∀c∈a,c≠36)/\CA t=(a,(r.take (UJ r),(CA (r.drop (UJ r))).1)::(CA (r.drop (UJ r))).2):=by
 rcases JE t 36 with⟨h,_⟩|⟨a,r,rfl,h,_⟩
 ·exact .inl ⟨h,iI h⟩
 ·refine .inr ⟨a,r,rfl,h,?_⟩;have d:=ju r;have:=fQ (a:=a) (n:=r.takeWhile small) (r:=r.dropWhile small) h (by rw[List.all_eq_true];exactλc b=>rQ b) (λc s b=>qN b);rw[List.takeWhile_append_dropWhile]at this;rw[d.1,d.2];exact this
theorem kK{j:jA->jA}{ok:jA->Prop}(V:tm prog ND v j ok){s:jA}(ht:s.length<=4194304)(bb:∀o∈QA (CA s),ok o)(hb:(SB j (CA s)).length<=268435456){S0:Nat->Prop}(L:V.J S0 [] w):
  nA prog 64 #[sv s,v] w λr d=>∃S l,V.J S l d/\Ch S0 w d/\(∀k,S k->S0 k∨w.heap.size<=k)/\((QA (CA s)).all KD=true->r= .tuple #[sv (SB j (CA s)),.bool true]/\l=QA (CA s))/\((QA (CA s)).all KD=false->r= .tuple #[sv [],.bool false]):=by
 apply U7;unfold lS;refine xC λb w1 be p ag=>?_;have ah:Bd mf ND w.heap.size b [] w1:=⟨by omega,_,_,ag,.inl rfl,Ow.nil _ _ _,by intro F;cases F⟩
 have ao:V.J S0 [] w1:=V.keep L p.size λk c=>RowKit.Below.block p k (V.below L k c);refine MB (λg:jA=>[sv g]) (λg d=>g.length<=s.length/\ ∃S l done,V.J S l d/\Bd mf ND w.heap.size b done d/\ ¬S b/\Ch S0 w d/\(∀k,S k->S0 k∨w.heap.size<=k)/\done++SB j (CA g)=SB j (CA s)/\l++QA (CA g)=QA (CA s)/\(∀o∈l,KD o=true)) (λg=>g.length) s rfl
  ⟨Nat.le_refl _,S0,[],[],ao,ah,λh=>by have:=V.below L b h;omega,p.ch,λk c=>.inl c,rfl,rfl,λo u=>by cases u⟩ ?_
 rintro g w3 Kn ⟨bc,S,l,done,f,T,i,m,C,t,D,ac⟩ au;intro _;simp only[gx]
 --what writing to the builder leaves
 have wr:∀{S l d w''},V.J S l d-> ¬S b->Ch S0 w d->bZ ND w.heap.size b d w''->V.J S l w''/\Ch S0 w w'':=λf i m k=>
  ⟨V.keep f k.size λy q=>k.block y (V.below f y q) λh=>h.2.elim (λF=>i (F▸q)) (V.no8 f y q),m.trans k λy q=>.inr q.1⟩
 have P:done.length+(SB j (CA g)).length<=268435456:=by rw[<-List.length_append,t];exact hb
 rcases yl g with⟨az,n⟩|⟨a,r,rfl,ha,n⟩
 ·refine gA (fY az w3) λx e=>?_
  (with_reducible refine He ?_;refine Ie ?_;refine Je ?_)
  rw[n,nN]at t P;have J:Ch S0 w x:=m.trans (e.ch (S:=λ_=>False)) λ_ h=>h.elim;have N:V.J S l x:=V.keep f e.size λk c=>RowKit.Below.block e k (V.below f k c);have G:=T.ext e;refine aA ((bG G (by omega) (Nat.le_trans m.size e.size)).mono ?_);rintro _ w5 ⟨H,O⟩;obtain⟨B,K⟩:=wr N i J O
  (with_reducible refine TA ?_)
  refine iA rfl ?_;refine aA ((U2 H).mono ?_);rintro _ w6 ⟨rfl,ax⟩;obtain⟨ar,am⟩:=wr B i K ax;have hl:l=QA (CA s):=by rw[<-D,n];simp[QA]
  refine⟨S,l,ar,am,C,λ_=>⟨by rw[t],hl⟩,λh=>?_⟩;rw[<-hl,Bool.eq_false_iff]at h;exact absurd (List.all_eq_true.2 ac) h
 ·rw[List.length_append,List.length_cons]at bc;refine gA (l0 ha (by rw[List.length_append,List.length_cons];omega) w3) λx e=>?_
  (with_reducible refine He ?_;refine Ie ?_;refine Je ?_)
  rw[n,iQ]at t P;simp only[List.length_append,List.length_cons]at P;have J:Ch S0 w x:=m.trans (e.ch (S:=λ_=>False)) λ_ h=>h.elim;have N:V.J S l x:=V.keep f e.size λk c=>RowKit.Below.block e k (V.below f k c);have G:=T.ext e;refine aA ((bG G (by omega) (Nat.le_trans m.size e.size)).mono ?_);rintro _ w5 ⟨H,O⟩;obtain⟨B,K⟩:=wr N i J O
  (with_reducible refine TA ?_)
  refine cA rfl ?_;refine gA (V2 TZ w5) λR A=>?_;have an:Ch S0 w R:=K.trans (A.ch (S:=λ_=>False)) λ_ h=>h.elim;have X:V.J S l R:=V.keep B A.size λk c=>RowKit.Below.block A k (V.below B k c);have ak:=H.ext A
  (with_reducible refine jB ?_)
  rw[Uo];have Q:UJ r<=r.length:=(List.takeWhile_prefix small).length_le;refine WB (λxs d=>xs=[iv (UJ r:Int)]/\d=R) (λbd f=>?_) ?_
  ·cases aa:r.all small
   ·refine cA rfl ?_;refine f _ _ ⟨?_,rfl⟩;unfold T2;rw[aa,if_neg (by decide)]
   ·refine iA rfl ?_;refine HD ?_;refine f _ _ ⟨?_,rfl⟩;rw[rp aa]
  rintro _ w9 ⟨rfl,rfl⟩;intro _;simp only[gx];refine Cc Q ?_;refine gA (dW (by rw[List.length_take];omega) w9) λae z=>?_;have I:Ch S0 w ae:=an.trans (z.ch (S:=λ_=>False)) λ_ h=>h.elim;have M:V.J S l ae:=V.keep X z.size λk c=>RowKit.Below.block z k (V.below X k c);have U:=ak.ext z;have ad:r.take (UJ r)∈QA (CA s):=by rw[<-D,n];simp[QA]
  refine TA ?_;cases u:KD (r.take (UJ r))
  ·refine iA rfl ⟨S,l,M,I,C,λh=>?_,λ_=>by first|trivial|rfl⟩;rw[List.all_eq_true]at h;have:=h _ ad;rw[u]at this;cases this
  ·refine cA rfl ?_;refine Cc Q ?_;have ay:l.length<=4194304:=by
    have p:(QA (CA s)).length<=s.length:=by rw[show(QA (CA s)).length=(CA s).2.length from List.length_map _];exact mN s
    rw[<-D,List.length_append]at p;omega
   refine(V.call M u (bb _ ad) ay).mono ?_;rintro _ af ⟨rfl,E,ap,ab,Y⟩;have ai:Bd mf ND w.heap.size b (done++a) af:=U.ch ab i (V.no8 M);have Z:¬E b:=λh=>(Y b h).elim i λh'=>by have:=U.lt;omega
   have av:∀k,E k->S0 k∨w.heap.size<=k:=λk c=>(Y k c).elim (C k) λh=>.inr (Nat.le_trans I.size h);have W:Ch S0 w af:=I.trans ab C;refine vD (a:=[40]) (by simp only[List.length_singleton];omega) ?_;refine vD (b:=[41]) (by simp only[List.length_append,List.length_singleton];omega) ?_;refine aA ((bG ai (by simp only[List.length_append,List.length_singleton];omega) W.size).mono ?_);rintro _ bg ⟨aj,aw⟩;obtain⟨aq,al⟩:=wr ap Z W aw;refine yO Q ?_;refine au (r.drop (UJ r)) _ ⟨by rw[List.length_drop];omega,E,_,_,aq,aj,Z,al,av,?_,?_,?_⟩ (by rw[List.length_drop,List.length_append,List.length_cons];omega)
   ·rw[<-t];simp[SB]
   ·rw[<-D,n,List.append_assoc];rfl
   ·intro o ba;rcases List.mem_append.1 ba with h|h
    ·exact ac o h
    ·simp only[List.mem_singleton]at h;subst h;exact u
def iy:tm prog ND (.func (.func 114) #[] #[]) (λ_=>[112]) (λ_=>True) where
 J:=λS _ _=>∀k,¬S k
 below:=λh k a=>absurd a (h k)
 keep:=λh _ _=>h
 no8:=λh k a=>absurd a (h k)
 call:=λ{S l w n} h _ _ _=>by
  refine aA ?_
  show nA prog 114 #[sv n] w _
  apply NT;unfold GJ
  exact⟨rfl,S,h,(bA.refl w).ch,λk a=>.inl a⟩
theorem PG{s:jA}(ht:s.length<=262144)(w:World):CB prog 43 #[sv s] w (.bool (AC s)):=by
 apply tX;unfold PL;have Z:=Y1 (g:=λ_=>[112]) (B:=1) s (λac _=>by simp);refine aA ((kK iy (S0:=λ_=>False) (by omega) (λ_ _=>trivial) (by omega) (λ_ h=>h)).mono ?_);rintro r p ⟨T,ab,_,A,_,v,e⟩;have k:bA w p:=A.toExt λ_ h=>h.elim;have m:∀(u:jA) (o:Bool),u.length<=4194304->r= .tuple #[sv u,.bool o]->(o&&pK u)=AC s->YA r 0 λn=>YA r 1 λG=>zB #[(.string ⟨#[]⟩),(iv 0),(.bool false)] #[(0,1),(1,1),(2,1)] [(0,n)] λH=>PA (Value.cells H) 152 p λf q=>
   cf 115 [f] q λ_ a=>jn (λd=>eA G (IA f λI=>FA 2 I λJ=>kA a J λK=>VA K λL=>eA L (IA f λM=>FA 1 M λN=>kA a N λO=>rD n λP=>BB .i64 O P λQ=>d [Q] a) (d [(.bool false)] a)) (d [(.bool false)] a)) (λR t=>∀_:Nat->Value,gx R 0= .bool (AC s)/\bA w t):=by
  intro u o F E D;subst E
  (with_reducible refine lD ?_;refine mD ?_)
  refine GD (cs:=#[sv u,iv 0,.bool false]) (by simp[Instr.fill,Value.cells]) ?_;refine xC λU q X e y=>?_;refine aA ((QG F (KN.new y)).mono ?_);rintro ad a ⟨j,C,_⟩;rw[<-Xh]at j;have z:bA w a:=(k.trans e).thenCh C λV Y=>by have:=k.size;omega
  have W:=j.place;have aa:=Zl u;refine sB (AC s) a (λS b=>?_) (λt x=>λ_=>⟨rfl,z.trans x⟩);rw[<-D]at b;cases o
  ·exact cA rfl (b a (bA.refl _))
  ·refine iA rfl ?_;rw[Bool.true_and]at b;unfold pK at b
   (with_reducible refine bB ?_;refine pB ?_);refine mA (by assumption) (by first|rfl|simp) ?_;(with_reducible refine TA ?_)
   cases l:(rd u).2.2
   ·rw[l]at b;refine iA rfl ?_
    (with_reducible refine bB ?_;refine pB ?_);refine mA (by assumption) (by first|rfl|simp) ?_
    refine HD ?_
    (with_reducible refine BA ?_)
    have:decide (((u.length-(rd u).2.1.length:Nat):Int)=(u.length:Nat))=decide ((rd u).2.1=[]):=by
     refine decide_eq_decide.2 ⟨λh=>List.length_eq_zero_iff.1 (by omega),λh=>by rw[h];simp⟩
    rw[this];exact b a (bA.refl _)
   ·rw[l]at b;exact cA rfl (b a (bA.refl _))
 have i:AC s=((QA (CA s)).all KD&&pK (SB (λ_=>[112]) (CA s))):=rfl;cases c:(QA (CA s)).all KD
 ·refine m [] false (by simp) (e c) ?_;rw[i,c];rfl
 ·refine m _ true (by omega) (v c).1 ?_;rw[i,c]
def sF(t:jA):Int:=if 300<t.length then 3 else if AC t then 0 else 6
theorem cJ(t:jA)(w:World):CB prog 25 #[sv t] w (iv (sF t)):=by
 apply LT;unfold EJ;unfold sF;refine HD ?_
 (with_reducible refine jB ?_)
 refine dA (λh=>?_) (λh=>?_)
 ·rw[if_pos (by omega)];exact⟨rfl,bA.refl _⟩
 ·rw[if_neg (by omega)];refine gA (PG (by omega) w) λb a=>?_;refine TA ?_;cases AC t
  ·exact iA rfl ⟨rfl,a⟩
  ·exact cA rfl ⟨rfl,a⟩
end Go.Proofs.YtoojmhgpadkhmaaGreatDoor
