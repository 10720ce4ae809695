/- The proof of FnWholeRunsCard, part 3 of 8. Conditions: none. -/
import Derived.Test.YteifjhpddhppcaaGreatDoorKR54b
import Derived.Laws.Concat
import Derived.Laws.Strings
import Derived.Laws.RangeString
import Derived.Laws.RangeAny
import Derived.Lib.OthersKept
import Derived.Test.YteifjhpddhppcaaGreatDoorRows
import Derived.Shelf.Strings.Search2
import Derived.Shelf.Strconv.Itoa3
import Derived.Lib.Builder
import Derived.Lib.AppendStr
import Derived.Lib.UnsafeStr
import Derived.Lib.IndexLaws
import Derived.WalkKit
import Derived.Laws.Externs
set_option maxRecDepth 100000
namespace Go.Proofs.YteifjhpddhppcaaGreatDoor
open Go.Vc
abbrev GO:FuncId:=255
def GV (v0 v1 v2 v3:Value) (w:World) (R:Value → World → Prop):Prop:=
 callV Tryz.prog (.func (.func 143) #[] #[]) [v0,v1,v2,v3] w fun v14 w1=>
 callV Tryz.prog (.func (.func 47) #[] #[]) [v0,(.int .i64 40)] w1 fun v16 w2=>
 xEq .i64 v16 (.int .i64 0) fun v18=>
 cnd v18 (callV Tryz.prog (.func (.func 286) #[] #[]) [v0,v14] w2 fun v21 w3=>
 R v21 w3) (xEq .i64 v16 (.int .i64 1) fun v23=>
 cnd v23 (lp (fun K4 xs4 w5=>
 ∀ _:Nat → Value,jn (fun J6=>
 xLenS (gx xs4 0) fun v25=>
 xLe .i64 v25 (.int .i64 40) fun v26=>
 cnd v26 (callV Tryz.prog (.func (.func 47) #[] #[]) [v0,(.int .i64 60)] w5 fun v29 w8=>
 xLt .i64 (.int .i64 0) v29 fun v30=>
 J6 [v30] w8) (J6 [(.bool false)] w5)) (fun xs6 w7=>
 ∀ _:Nat → Value,cnd (gx xs6 0) (callV Tryz.prog (.func (.func 47) #[] #[]) [v0,(.int .i64 3)] w7 fun v33 w9=>
 xAdd .i64 (.int .i64 2) v33 fun v34=>
 callV Tryz.prog (.func (.func 143) #[] #[]) [v0,(.int .i64 6),v2,v3] w9 fun v39 w10=>
 callV Tryz.prog (.func (.func 156) #[] #[]) [v34,(gx xs4 0),v39] w10 fun v40 w11=>
 K4 [v40] w11) (R (gx xs4 0) w7))) [v14] w2) (R v14 w2))
theorem VD {v0 v1 v2 v3:Value} {w:World} {R:Value → World → Prop} (h:GV v0 v1 v2 v3 w R):Cal Tryz.prog GO #[v0,v1,v2,v3] w R:=cD (h:=(.node none .leaf (.node none .leaf (.node none (.node none .leaf (.node none .leaf (.node none .leaf (.node none .leaf (.node none (.node (some [9]) (.node none (.node none (.reg [] (some [31])) .leaf) .leaf) .leaf) .leaf))))) .leaf)))) Tryz.func255 h
abbrev JU:FuncId:=256
def KQ (v0 v1 v2:Value) (w:World) (R:Value → World → Prop):Prop:=
 jn (fun J1=>
 xLe .i64 v1 v0 fun v9=>
 cnd v9 (xLe .i64 v0 v2 fun v13=>
 J1 [v13] w) (J1 [(.bool false)] w)) (fun xs1 w2=>
 ∀ _:Nat → Value,R (gx xs1 0) w2)
theorem WI {v0 v1 v2:Value} {w:World} {R:Value → World → Prop} (h:KQ v0 v1 v2 w R):Cal Tryz.prog JU #[v0,v1,v2] w R:=cD (h:=(.node none .leaf (.node none (.reg [] (some [6])) .leaf))) Tryz.func256 h
abbrev B8:FuncId:=257
def CE (w:World) (R:Value → World → Prop):Prop:=
 callV Tryz.prog (.func (.func 151) #[] #[]) [] w fun v1 w1=>
 callV Tryz.prog (.func (.func 209) #[] #[]) [v1] w1 fun v2 w2=>
 R v2 w2
theorem S4 {w:World} {R:Value → World → Prop} (h:CE w R):Cal Tryz.prog B8 #[] w R:=cD (h:=.leaf) Tryz.func257 h
abbrev AE:FuncId:=265
def A7 (v0:Value) (w:World) (R:Value → World → Prop):Prop:=
 xEq .i64 v0 (.int .i64 2) fun v5=>
 jn (fun J1=>
 cnd v5 (J1 [(.bool true)] w) (xEq .i64 v0 (.int .i64 3) fun v6=>
 jn (fun J3=>
 cnd v6 (J3 [(.bool true)] w) (xEq .i64 v0 (.int .i64 4) fun v7=>
 J3 [v7] w)) (fun xs3 w4=>
 ∀ _:Nat → Value,J1 [(gx xs3 0)] w4))) (fun xs1 w2=>
 ∀ _:Nat → Value,cnd (gx xs1 0) (R (.int .i64 2) w2) (xEq .i64 v0 (.int .i64 5) fun v9=>
 jn (fun J5=>
 cnd v9 (J5 [(.bool true)] w2) (xEq .i64 v0 (.int .i64 6) fun v10=>
 J5 [v10] w2)) (fun xs5 w6=>
 ∀ _:Nat → Value,cnd (gx xs5 0) (R (.int .i64 1) w6) (R (.int .i64 0) w6))))
theorem QN {v0:Value} {w:World} {R:Value → World → Prop} (h:A7 v0 w R):Cal Tryz.prog AE #[v0] w R:=cD (h:=(.node none .leaf (.node none (.node none .leaf (.node none (.node none .leaf (.node (some [4]) .leaf (.node none .leaf (.node (some [4]) .leaf .leaf)))) (.node none .leaf (.node none (.node none .leaf (.node (some [8]) .leaf .leaf)) .leaf)))) .leaf))) Tryz.func265 h
abbrev HG:FuncId:=266
def GG (w:World) (R:Value → World → Prop):Prop:=
 aH #[(.int .i64 0),(.int .i64 0)] #[(0,1),(1,1)] [(0,(.int .i64 1)),(1,(.int .i64 0))] fun v1=>
 xBs 110 (Value.cells (.agg #[(.int .i64 0),(.int .i64 0)])) 2 1 [(0,v1)] w fun v2 w1=>
 R v2 w1
theorem U4 {w:World} {R:Value → World → Prop} (h:GG w R):Cal Tryz.prog HG #[] w R:=cD (h:=.leaf) Tryz.func266 h
abbrev KW:FuncId:=267
def IB (w:World) (R:Value → World → Prop):Prop:=
 aH #[(.int .i64 0),(.int .i64 0)] #[(0,1),(1,1)] [(0,(.int .i64 4)),(1,(.int .i64 0))] fun v1=>
 aH #[(.int .i64 0),(.int .i64 0)] #[(0,1),(1,1)] [(0,(.int .i64 1)),(1,(.int .i64 0))] fun v2=>
 aH #[(.int .i64 0),(.int .i64 0)] #[(0,1),(1,1)] [(0,(.int .i64 1)),(1,(.int .i64 0))] fun v3=>
 xBs 110 (Value.cells (.agg #[(.int .i64 0),(.int .i64 0)])) 2 3 [(0,v1),(1,v2),(2,v3)] w fun v4 w1=>
 R v4 w1
theorem W6 {w:World} {R:Value → World → Prop} (h:IB w R):Cal Tryz.prog KW #[] w R:=cD (h:=.leaf) Tryz.func267 h
abbrev z8:FuncId:=268
def AL (v0:Value) (w:World) (R:Value → World → Prop):Prop:=
 aH #[(.int .i64 0),(.int .i64 0)] #[(0,1),(1,1)] [(0,(.int .i64 0)),(1,v0)] fun v4=>
 xBs 110 (Value.cells (.agg #[(.int .i64 0),(.int .i64 0)])) 2 1 [(0,v4)] w fun v5 w1=>
 R v5 w1
theorem O6 {v0:Value} {w:World} {R:Value → World → Prop} (h:AL v0 w R):Cal Tryz.prog z8 #[v0] w R:=cD (h:=.leaf) Tryz.func268 h
abbrev qC:FuncId:=269
def qV (v0 v1 v2:Value) (w:World) (R:Value → World → Prop):Prop:=
 xOp Tryz.prog (Instr.range 9 v0) w fun v10 w1=>
 lp (fun K2 _ w3=>
 ∀ _:Nat → Value,xOp Tryz.prog (Instr.next v10 true 0) w3 fun v11 w4=>
 xEx v11 0 fun v12=>
 cnd v12 (xEx v11 1 fun v13=>
 xEx v11 2 fun v14=>
 callV Tryz.prog v1 [v14] w4 fun v17 w5=>
 R0 true v17 v2 fun v19=>
 cnd v19 (R v13 w5) (K2 [] w5)) (R (.int .i64 (-1)) w4)) [] w1
theorem H4 {v0 v1 v2:Value} {w:World} {R:Value → World → Prop} (h:qV v0 v1 v2 w R):Cal Tryz.prog qC #[v0,v1,v2] w R:=cD (h:=(.node none .leaf (.node none (.node none .leaf (.node (some []) .leaf .leaf)) .leaf))) Tryz.func269 h
abbrev JG:FuncId:=275
def sE (v0:Value) (w:World) (R:Value → World → Prop):Prop:=
 xLenS v0 fun v4=>
 xLt .i64 (.int .i64 20) v4 fun v5=>
 R v5 w
theorem JV {v0:Value} {w:World} {R:Value → World → Prop} (h:sE v0 w R):Cal Tryz.prog JG #[v0] w R:=cD (h:=.leaf) Tryz.func275 h
abbrev MV:FuncId:=276
def MX (v0 v1:Value) (w:World) (R:Value → World → Prop):Prop:=
 xNew (Value.cells v1) 9 w fun v3 w1=>
 callV Tryz.prog (.func (.func 296) #[] #[]) [v0] w1 fun v6 w2=>
 callV Tryz.prog (.func (.func 295) #[] #[]) [v6,(.func (.func 297) #[] #[v3])] w2 fun v8 w3=>
 R v8 w3
theorem XO {v0 v1:Value} {w:World} {R:Value → World → Prop} (h:MX v0 v1 w R):Cal Tryz.prog MV #[v0,v1] w R:=cD (h:=.leaf) Tryz.func276 h
abbrev fO:FuncId:=277
def cS (v0 v1:Value) (w:World) (R:Value → World → Prop):Prop:=
 xLenS v0 fun v7=>
 lp (fun K1 xs1 w2=>
 ∀ _:Nat → Value,xLt .i64 (gx xs1 0) v7 fun v9=>
 cnd v9 (xIa 1 v0 (gx xs1 0) fun v14=>
 xLd w2 v14 fun v15=>
 callV Tryz.prog v1 [v15] w2 fun v16 w3=>
 cnd v16 (R (gx xs1 0) w3) (xAdd .i64 (gx xs1 0) (.int .i64 1) fun v18=>
 K1 [v18] w3)) (R (.int .i64 (-1)) w2)) [(.int .i64 0)] w
theorem fP {v0 v1:Value} {w:World} {R:Value → World → Prop} (h:cS v0 v1 w R):Cal Tryz.prog fO #[v0,v1] w R:=cD (h:=(.node none .leaf (.node none (.node none .leaf (.node (some [8]) .leaf .leaf)) .leaf))) Tryz.func277 h
abbrev gF:FuncId:=278
def gA (v0 v1 v2 v3:Value) (w:World) (R:Value → World → Prop):Prop:=
 lp (fun K1 xs1 w2=>
 ∀ _:Nat → Value,xMul .i64 (.int .i64 2) (gx xs1 0) fun v12=>
 xAdd .i64 v12 (.int .i64 1) fun v13=>
 xLe .i64 v2 v13 fun v16=>
 cnd v16 (R (.tuple #[]) w2) (jn (fun J3=>
 xAdd .i64 v13 (.int .i64 1) fun v18=>
 xLt .i64 v18 v2 fun v20=>
 cnd v20 (xAdd .i64 v3 v13 fun v25=>
 xIa 1 v0 v25 fun v26=>
 xLd w2 v26 fun v27=>
 xAdd .i64 v3 v13 fun v31=>
 xAdd .i64 v31 (.int .i64 1) fun v32=>
 xIa 1 v0 v32 fun v33=>
 xLd w2 v33 fun v34=>
 callQ Tryz.prog (.func (.func 241) #[] #[]) [v27,v34] w2 fun v35=>
 ∀ w5,Ext w2 w5 → J3 [v35] w5) (∀ w6,Ext w2 w6 → J3 [(.bool false)] w6)) (fun xs3 w4=>
 ∀ _:Nat → Value,jn (fun J7=>
 cnd (gx xs3 0) (xAdd .i64 v13 (.int .i64 1) fun v38=>
 J7 [v38] w4) (J7 [v13] w4)) (fun xs7 w8=>
 ∀ _:Nat → Value,xAdd .i64 v3 (gx xs1 0) fun v42=>
 xIa 1 v0 v42 fun v43=>
 xLd w8 v43 fun v44=>
 xAdd .i64 v3 (gx xs7 0) fun v48=>
 xIa 1 v0 v48 fun v49=>
 xLd w8 v49 fun v50=>
 callQ Tryz.prog (.func (.func 241) #[] #[]) [v44,v50] w8 fun v51=>
 xNot v51 fun v52=>
 ∀ w9,Ext w8 w9 → cnd v52 (R (.tuple #[]) w9) (xAdd .i64 v3 (gx xs1 0) fun v56=>
 xAdd .i64 v3 (gx xs7 0) fun v60=>
 xAdd .i64 v3 (gx xs7 0) fun v64=>
 xIa 1 v0 v64 fun v65=>
 xLd w9 v65 fun v66=>
 xAdd .i64 v3 (gx xs1 0) fun v70=>
 xIa 1 v0 v70 fun v71=>
 xLd w9 v71 fun v72=>
 xIa 1 v0 v56 fun v73=>
 ∀ w10,Ext w9 w10 → xSt w10 v73 v66 fun w11=>
 xIa 1 v0 v60 fun v74=>
 ∀ w12,Ext w11 w12 → xSt w12 v74 v72 fun w13=>
 ∀ w14,Ext w13 w14 → K1 [(gx xs7 0)] w14))))) [v1] w
theorem oF {v0 v1 v2 v3:Value} {w:World} {R:Value → World → Prop} (h:gA v0 v1 v2 v3 w R):Cal Tryz.prog gF #[v0,v1,v2,v3] w R:=cD (h:=(.node none .leaf (.node (some [8]) (.node none .leaf (.node none .leaf (.node none (.node none (.reg [18] (some [36])) (.node (some [9]) .leaf .leaf)) (.node none (.node none (.reg [12] none) .leaf) .leaf)))) .leaf))) Tryz.func278 h
abbrev lU:FuncId:=279
def l5 (v0:Value) (w:World) (R:Value → World → Prop):Prop:=
 xConv .u64 v0 fun v4=>
 callV Tryz.prog (.func (.func 177) #[] #[]) [v4] w fun v5 w1=>
 xSh iShl .u64 (.int .u64 1) v5 fun v6=>
 R v6 w1
theorem yZ {v0:Value} {w:World} {R:Value → World → Prop} (h:l5 v0 w R):Cal Tryz.prog lU #[v0] w R:=cD (h:=.leaf) Tryz.func279 h
abbrev mK:FuncId:=280
def mO (v0:Value) (w:World) (R:Value → World → Prop):Prop:=
 xNil v0 fun v4=>
 xLd w v4 fun v5=>
 xNil v0 fun v7=>
 xLd w v7 fun v8=>
 xSh iShl .u64 v8 (.int .u64 13) fun v9=>
 xBits iXor .u64 v5 v9 fun v10=>
 xNil v0 fun v11=>
 ∀ w1,Ext w w1 → xSt w1 v11 v10 fun w2=>
 ∀ w3,Ext w2 w3 → xNil v0 fun v13=>
 xLd w3 v13 fun v14=>
 xNil v0 fun v16=>
 xLd w3 v16 fun v17=>
 xSh iShr .u64 v17 (.int .u64 7) fun v18=>
 xBits iXor .u64 v14 v18 fun v19=>
 xNil v0 fun v20=>
 ∀ w4,Ext w3 w4 → xSt w4 v20 v19 fun w5=>
 ∀ w6,Ext w5 w6 → xNil v0 fun v22=>
 xLd w6 v22 fun v23=>
 xNil v0 fun v25=>
 xLd w6 v25 fun v26=>
 xSh iShl .u64 v26 (.int .u64 17) fun v27=>
 xBits iXor .u64 v23 v27 fun v28=>
 xNil v0 fun v29=>
 ∀ w7,Ext w6 w7 → xSt w7 v29 v28 fun w8=>
 ∀ w9,Ext w8 w9 → xNil v0 fun v31=>
 xLd w9 v31 fun v32=>
 R v32 w9
theorem BJ {v0:Value} {w:World} {R:Value → World → Prop} (h:mO v0 w R):Cal Tryz.prog mK #[v0] w R:=cD (h:=.leaf) Tryz.func280 h
abbrev eB:FuncId:=281
def eD (v0 v1 v2:Value) (w:World) (R:Value → World → Prop):Prop:=
 xSub .i64 v1 (.int .i64 1) fun v9=>
 xAdd .i64 v1 (.int .i64 1) fun v12=>
 callV Tryz.prog (.func (.func 282) #[] #[]) [v0,v9,v1,v12,v2] w fun v14 w1=>
 R v14 w1
theorem kC {v0 v1 v2:Value} {w:World} {R:Value → World → Prop} (h:eD v0 v1 v2 w R):Cal Tryz.prog eB #[v0,v1,v2] w R:=cD (h:=.leaf) Tryz.func281 h
abbrev g7:FuncId:=282
def hH (v0 v1 v2 v3 v4:Value) (w:World) (R:Value → World → Prop):Prop:=
 callV Tryz.prog (.func (.func 298) #[] #[]) [v0,v1,v2,v4] w fun v16 w1=>
 xEx v16 0 fun v17=>
 xEx v16 1 fun v18=>
 callV Tryz.prog (.func (.func 298) #[] #[]) [v0,v18,v3,v4] w1 fun v24 w2=>
 xEx v24 0 fun v25=>
 xEx v24 1 fun _=>
 callV Tryz.prog (.func (.func 298) #[] #[]) [v0,v17,v25,v4] w2 fun v32 w3=>
 xEx v32 0 fun _=>
 xEx v32 1 fun v34=>
 R v34 w3
theorem pZ {v0 v1 v2 v3 v4:Value} {w:World} {R:Value → World → Prop} (h:hH v0 v1 v2 v3 v4 w R):Cal Tryz.prog g7 #[v0,v1,v2,v3,v4] w R:=cD (h:=.leaf) Tryz.func282 h
abbrev s7:FuncId:=283
def tO (v0:Value) (w:World) (R:Value → World → Prop):Prop:=
 xStr .neq v0 v0 fun v5=>
 R v5 w
theorem JQ {v0:Value} {w:World} {R:Value → World → Prop} (h:tO v0 w R):Cal Tryz.prog s7 #[v0] w R:=cD (h:=.leaf) Tryz.func283 h
abbrev oX:FuncId:=284
def I5 (v0:Value) (w:World) (R:Value → World → Prop):Prop:=
 callV Tryz.prog (.func (.func 299) #[] #[]) [v0] w fun v5 w1=>
 lp (fun K2 xs2 w3=>
 ∀ _:Nat → Value,callV Tryz.prog (.func (.func 285) #[] #[]) [v0,(.int .u8 124)] w3 fun v7 w4=>
 cnd v7 (callV Tryz.prog (.func (.func 299) #[] #[]) [v0] w4 fun v10 w5=>
 callV Tryz.prog (.func (.func 156) #[] #[]) [(.int .i64 3),(gx xs2 0),v10] w5 fun v11 w6=>
 K2 [v11] w6) (R (gx xs2 0) w4)) [v5] w1
theorem W2 {v0:Value} {w:World} {R:Value → World → Prop} (h:I5 v0 w R):Cal Tryz.prog oX #[v0] w R:=cD (h:=(.node none .leaf (.node none .leaf (.node none (.node (some [3]) .leaf .leaf) .leaf)))) Tryz.func284 h
abbrev EW:FuncId:=285
def CV (v0 v1:Value) (w:World) (R:Value → World → Prop):Prop:=
 jn (fun J1=>
 xNil v0 fun v6=>
 xFa 2 v6 fun v7=>
 xLd w v7 fun v8=>
 xNot v8 fun v9=>
 cnd v9 (xNil v0 fun v12=>
 xFa 1 v12 fun v13=>
 xLd w v13 fun v14=>
 xNil v0 fun v16=>
 xFa 0 v16 fun v17=>
 xLd w v17 fun v18=>
 xLenT v18 fun v19=>
 xLt .i64 v14 v19 fun v20=>
 cnd v20 (xNil v0 fun v24=>
 xFa 0 v24 fun v25=>
 xLd w v25 fun v26=>
 xNil v0 fun v28=>
 xFa 1 v28 fun v29=>
 xLd w v29 fun v30=>
 xIs v26 v30 fun v31=>
 xEq .u8 v31 v1 fun v33=>
 ∀ w3,Ext w w3 → J1 [v33] w3) (∀ w4,Ext w w4 → J1 [(.bool false)] w4)) (∀ w5,Ext w w5 → J1 [(.bool false)] w5)) (fun xs1 w2=>
 ∀ _:Nat → Value,cnd (gx xs1 0) (xNil v0 fun v37=>
 xFa 1 v37 fun v38=>
 xLd w2 v38 fun v39=>
 xAdd .i64 v39 (.int .i64 1) fun v40=>
 xNil v0 fun v41=>
 xFa 1 v41 fun v42=>
 xSt w2 v42 v40 fun w6=>
 R (.bool true) w6) (R (.bool false) w2))
theorem S3 {v0 v1:Value} {w:World} {R:Value → World → Prop} (h:CV v0 v1 w R):Cal Tryz.prog EW #[v0,v1] w R:=cD (h:=(.node none .leaf (.node none (.node none (.reg [] (some [34])) .leaf) .leaf))) Tryz.func285 h
abbrev DR:FuncId:=286
def DC (v0 v1:Value) (w:World) (R:Value → World → Prop):Prop:=
 callV Tryz.prog (.func (.func 300) #[] #[]) [v1] w fun v8 w1=>
 xLenS v8 fun v11=>
 callV Tryz.prog (.func (.func 47) #[] #[]) [v0,v11] w1 fun v12 w2=>
 callV Tryz.prog (.func (.func 47) #[] #[]) [v0,(.int .i64 5)] w2 fun v14 w3=>
 xEq .i64 v14 (.int .i64 0) fun v16=>
 cnd v16 (callV Tryz.prog (.func (.func 47) #[] #[]) [v0,(.int .i64 9)] w3 fun v20 w4=>
 xSub .i64 v20 (.int .i64 1) fun v21=>
 xIa 2 v8 v12 fun v22=>
 xFa 0 v22 fun v23=>
 xSt w4 v23 v21 fun w5=>
 R v8 w5) (xEq .i64 v14 (.int .i64 1) fun v25=>
 cnd v25 (xBs 2 (Value.cells (.int .i64 0)) 1 5 [(0,(.int .i64 (-1))),(1,(.int .i64 0)),(2,(.int .i64 1)),(3,(.int .i64 5)),(4,(.int .i64 6))] w3 fun v29 w6=>
 callV Tryz.prog (.func (.func 301) #[] #[]) [v0,v29] w6 fun v30 w7=>
 xIa 2 v8 v12 fun v31=>
 xFa 1 v31 fun v32=>
 xSt w7 v32 v30 fun w8=>
 R v8 w8) (xEq .i64 v14 (.int .i64 2) fun v34=>
 cnd v34 (callV Tryz.prog (.func (.func 47) #[] #[]) [v0,(.int .i64 7)] w3 fun v37 w9=>
 aH #[(.int .i64 0),(.int .i64 0)] #[(0,1),(1,1)] [(0,v37)] fun v38=>
 xBs 110 (Value.cells (.agg #[(.int .i64 0),(.int .i64 0)])) 2 1 [(0,v38)] w9 fun v39 w10=>
 xOp Tryz.prog (Builtin.append_ #[35,35] 35 #[v8,v39]) w10 fun v40 w11=>
 R v40 w11) (xEq .i64 v14 (.int .i64 3) fun v42=>
 cnd v42 (xSl 2 v8 none (some v12) fun v45=>
 R v45 w3) (xEq .i64 v14 (.int .i64 4) fun v47=>
 cnd v47 (xSl 2 v8 none (some v12) fun v50=>
 xAdd .i64 v12 (.int .i64 1) fun v53=>
 xSl 2 v8 (some v53) none fun v54=>
 ∀ w12,Ext w3 w12 → xOp Tryz.prog (Builtin.append_ #[35,35] 35 #[v50,v54]) w12 fun v55 w13=>
 ∀ w14,Ext w13 w14 → R v55 w14) (R v8 w3)))))
theorem SO {v0 v1:Value} {w:World} {R:Value → World → Prop} (h:DC v0 v1 w R):Cal Tryz.prog DR #[v0,v1] w R:=cD (h:=.leaf) Tryz.func286 h
abbrev fI:FuncId:=295
def fF (v0 v1:Value) (w:World) (R:Value → World → Prop):Prop:=
 callV Tryz.prog (.func (.func 277) #[] #[]) [v0,v1] w fun v10 w1=>
 xEq .i64 v10 (.int .i64 (-1)) fun v12=>
 cnd v12 (R v0 w1) (xAdd .i64 v10 (.int .i64 1) fun v15=>
 lp (fun K2 xs2 w3=>
 ∀ _:Nat → Value,xLenS v0 fun v18=>
 xLt .i64 (gx xs2 1) v18 fun v19=>
 cnd v19 (xIa 1 v0 (gx xs2 1) fun v24=>
 xLd w3 v24 fun v25=>
 callV Tryz.prog v1 [v25] w3 fun v28 w4=>
 xNot v28 fun v29=>
 cnd v29 (xIa 1 v0 (gx xs2 0) fun v33=>
 xSt w4 v33 v25 fun w5=>
 xAdd .i64 (gx xs2 0) (.int .i64 1) fun v35=>
 xAdd .i64 (gx xs2 1) (.int .i64 1) fun v21=>
 K2 [v35,v21] w5) (xAdd .i64 (gx xs2 1) (.int .i64 1) fun v21=>
 K2 [(gx xs2 0),v21] w4)) (xSl 1 v0 (some (gx xs2 0)) none fun v38=>
 xOp Tryz.prog (Builtin.clear_ #[48] 0 #[v38]) w3 fun _ w6=>
 xSl 1 v0 none (some (gx xs2 0)) fun v41=>
 R v41 w6)) [v10,v15] w1)
theorem mE {v0 v1:Value} {w:World} {R:Value → World → Prop} (h:fF v0 v1 w R):Cal Tryz.prog fI #[v0,v1] w R:=cD (h:=(.node none .leaf (.node none .leaf (.node none .leaf (.node none (.node none .leaf (.node (some [5,6]) .leaf .leaf)) .leaf))))) Tryz.func295 h
abbrev iD:FuncId:=296
def g0 (v0:Value) (w:World) (R:Value → World → Prop):Prop:=
 xNilS true v0 (.slice none 0 0) fun v4=>
 cnd v4 (R (.slice none 0 0) w) (xBs 9 (Value.cells (.string ⟨#[]⟩)) 1 0 [] w fun v5 w1=>
 xOp Tryz.prog (Builtin.append_ #[48,48] 48 #[v5,v0]) w1 fun v7 w2=>
 R v7 w2)
theorem pU {v0:Value} {w:World} {R:Value → World → Prop} (h:g0 v0 w R):Cal Tryz.prog iD #[v0] w R:=cD (h:=.leaf) Tryz.func296 h
abbrev GH:FuncId:=297
def F6 (v0 v1:Value) (w:World) (R:Value → World → Prop):Prop:=
 xLd w v1 fun v5=>
 xStr .eql v0 v5 fun v6=>
 R v6 w
theorem US {v0 v1:Value} {w:World} {R:Value → World → Prop} (h:F6 v0 v1 w R):Cal Tryz.prog GH #[v0,v1] w R:=cD (h:=.leaf) Tryz.func297 h
abbrev iC:FuncId:=298
def g9 (v0 v1 v2 v3:Value) (w:World) (R:Value → World → Prop):Prop:=
 xIa 1 v0 v2 fun v12=>
 xLd w v12 fun v13=>
 xIa 1 v0 v1 fun v16=>
 xLd w v16 fun v17=>
 callQ Tryz.prog (.func (.func 241) #[] #[]) [v13,v17] w fun v18=>
 ∀ w1,Ext w w1 → cnd v18 (xNil v3 fun v20=>
 xLd w1 v20 fun v21=>
 xAdd .i64 v21 (.int .i64 1) fun v22=>
 xNil v3 fun v23=>
 xSt w1 v23 v22 fun w2=>
 R (.tuple #[v2,v1]) w2) (R (.tuple #[v1,v2]) w1)
theorem pR {v0 v1 v2 v3:Value} {w:World} {R:Value → World → Prop} (h:g9 v0 v1 v2 v3 w R):Cal Tryz.prog iC #[v0,v1,v2,v3] w R:=cD (h:=(.node none .leaf (.node none (.node none (.reg [8] none) .leaf) .leaf))) Tryz.func298 h
abbrev m7:FuncId:=299
def GJ (v0:Value) (w:World) (R:Value → World → Prop):Prop:=
 callV Tryz.prog (.func (.func 304) #[] #[]) [v0] w fun v5 w1=>
 lp (fun K2 xs2 w3=>
 ∀ _:Nat → Value,callV Tryz.prog (.func (.func 285) #[] #[]) [v0,(.int .u8 38)] w3 fun v7 w4=>
 cnd v7 (callV Tryz.prog (.func (.func 304) #[] #[]) [v0] w4 fun v10 w5=>
 callV Tryz.prog (.func (.func 156) #[] #[]) [(.int .i64 2),(gx xs2 0),v10] w5 fun v11 w6=>
 K2 [v11] w6) (R (gx xs2 0) w4)) [v5] w1
theorem U7 {v0:Value} {w:World} {R:Value → World → Prop} (h:GJ v0 w R):Cal Tryz.prog m7 #[v0] w R:=cD (h:=(.node none .leaf (.node none .leaf (.node none (.node (some [3]) .leaf .leaf) .leaf)))) Tryz.func299 h
abbrev HF:FuncId:=300
def F7 (v0:Value) (w:World) (R:Value → World → Prop):Prop:=
 xBs 110 (Value.cells (.agg #[(.int .i64 0),(.int .i64 0)])) 2 0 [] w fun v3 w1=>
 xOp Tryz.prog (Builtin.append_ #[35,35] 35 #[v3,v0]) w1 fun v5 w2=>
 R v5 w2
theorem UL {v0:Value} {w:World} {R:Value → World → Prop} (h:F7 v0 w R):Cal Tryz.prog HF #[v0] w R:=cD (h:=.leaf) Tryz.func300 h
abbrev E1:FuncId:=301
def C6 (v0 v1:Value) (w:World) (R:Value → World → Prop):Prop:=
 xLenS v1 fun v8=>
 callV Tryz.prog (.func (.func 47) #[] #[]) [v0,v8] w fun v9 w1=>
 xIa 1 v1 v9 fun v10=>
 xLd w1 v10 fun v11=>
 R v11 w1
theorem S1 {v0 v1:Value} {w:World} {R:Value → World → Prop} (h:C6 v0 v1 w R):Cal Tryz.prog E1 #[v0,v1] w R:=cD (h:=.leaf) Tryz.func301 h
abbrev f7:FuncId:=304
def wV (v0:Value) (w:World) (R:Value → World → Prop):Prop:=
 lp (fun K1 xs1 w2=>
 ∀ _:Nat → Value,xLenT (.string ⟨#[112,113,114,115,116,117]⟩) fun v8=>
 xLt .i64 (gx xs1 0) v8 fun v9=>
 cnd v9 (xIs (.string ⟨#[112,113,114,115,116,117]⟩) (gx xs1 0) fun v15=>
 callV Tryz.prog (.func (.func 285) #[] #[]) [v0,v15] w2 fun v16 w3=>
 cnd v16 (callV Tryz.prog (.func (.func 142) #[] #[]) [(gx xs1 0)] w3 fun v18 w4=>
 R v18 w4) (xAdd .i64 (gx xs1 0) (.int .i64 1) fun v11=>
 K1 [v11] w3)) (callV Tryz.prog (.func (.func 285) #[] #[]) [v0,(.int .u8 70)] w2 fun v21 w5=>
 cnd v21 (callV Tryz.prog (.func (.func 151) #[] #[]) [] w5 fun v22 w6=>
 R v22 w6) (callV Tryz.prog (.func (.func 285) #[] #[]) [v0,(.int .u8 84)] w5 fun v25 w7=>
 cnd v25 (callV Tryz.prog (.func (.func 257) #[] #[]) [] w7 fun v26 w8=>
 R v26 w8) (callV Tryz.prog (.func (.func 285) #[] #[]) [v0,(.int .u8 126)] w7 fun v29 w9=>
 cnd v29 (callV Tryz.prog (.func (.func 304) #[] #[]) [v0] w9 fun v31 w10=>
 callV Tryz.prog (.func (.func 209) #[] #[]) [v31] w10 fun v32 w11=>
 R v32 w11) (callV Tryz.prog (.func (.func 285) #[] #[]) [v0,(.int .u8 91)] w9 fun v35 w12=>
 cnd v35 (callV Tryz.prog (.func (.func 305) #[] #[]) [v0,(.int .u8 93)] w12 fun _ w13=>
 callV Tryz.prog (.func (.func 304) #[] #[]) [v0] w13 fun v39 w14=>
 callV Tryz.prog (.func (.func 208) #[] #[]) [(.int .i64 5),v39] w14 fun v40 w15=>
 R v40 w15) (callV Tryz.prog (.func (.func 285) #[] #[]) [v0,(.int .u8 60)] w12 fun v43 w16=>
 cnd v43 (callV Tryz.prog (.func (.func 305) #[] #[]) [v0,(.int .u8 62)] w16 fun _ w17=>
 callV Tryz.prog (.func (.func 304) #[] #[]) [v0] w17 fun v47 w18=>
 callV Tryz.prog (.func (.func 208) #[] #[]) [(.int .i64 6),v47] w18 fun v48 w19=>
 R v48 w19) (callV Tryz.prog (.func (.func 285) #[] #[]) [v0,(.int .u8 40)] w16 fun v51 w20=>
 cnd v51 (callV Tryz.prog (.func (.func 254) #[] #[]) [v0] w20 fun v53 w21=>
 callV Tryz.prog (.func (.func 305) #[] #[]) [v0,(.int .u8 41)] w21 fun _ w22=>
 R v53 w22) (xNil v0 fun v58=>
 xFa 2 v58 fun v59=>
 xSt w20 v59 (.bool true) fun w23=>
 callV Tryz.prog (.func (.func 151) #[] #[]) [] w23 fun v60 w24=>
 R v60 w24)))))))) [(.int .i64 0)] w
theorem NT {v0:Value} {w:World} {R:Value → World → Prop} (h:wV v0 w R):Cal Tryz.prog f7 #[v0] w R:=cD (h:=(.node none .leaf (.node none .leaf (.node none (.node none .leaf (.node (some [4]) .leaf .leaf)) .leaf)))) Tryz.func304 h
abbrev B9:FuncId:=305
def DU (v0 v1:Value) (w:World) (R:Value → World → Prop):Prop:=
 callV Tryz.prog (.func (.func 285) #[] #[]) [v0,v1] w fun v6 w1=>
 xNot v6 fun v7=>
 cnd v7 (xNil v0 fun v9=>
 xFa 2 v9 fun v10=>
 xSt w1 v10 (.bool true) fun w2=>
 R (.tuple #[]) w2) (R (.tuple #[]) w1)
theorem ST {v0 v1:Value} {w:World} {R:Value → World → Prop} (h:DU v0 v1 w R):Cal Tryz.prog B9 #[v0,v1] w R:=cD (h:=.leaf) Tryz.func305 h
end Go.Proofs.YteifjhpddhppcaaGreatDoor

namespace Go.Proofs.YteifjhpddhppcaaGreatDoor
open Go.Vc

theorem GS (x a b:Int) (w:World):Ret Tryz.prog JU #[.int .i64 x,.int .i64 a,.int .i64 b] w (.bool (decide (a ≤ x ∧ x ≤ b))):=by
 apply WI;unfold KQ
 ((with_reducible refine iJn ?_;refine iLe ?_))
 refine iCndP (fun h1=>?_) (fun h1=>?_)
 all_goals (repeat first
  | (with_reducible first | refine iFa ?_ | refine iNil ?_ | refine iNilF ?_ | refine iLd (by assumption) ?_ | refine iLenN (by assumption) ?_ | refine iLenI (by assumption) ?_ | refine iLenS (by assumption) ?_ | refine iLenL ?_ | refine iEq ?_ | refine iNe ?_ | refine iLt ?_ | refine iLe ?_ | refine iNot ?_ | refine iPick ?_ | refine iE20 ?_ | refine iE21 ?_ | refine iE30 ?_ | refine iE31 ?_ | refine iE32 ?_ | refine iJn ?_)
  | ((with_reducible show xLd _ _ _);refine iLdB (by assumption) (by first | rfl | simp) ?_) | ((with_reducible refine iLdA (by assumption) ?_ ?_);rfl)
  | ((with_reducible refine iIaNN (by assumption) ?_ (fun pa_ hpa_=>?_));omega) | ((with_reducible refine iIaN (by assumption) ?_ (fun pa_ hpa_=>?_));omega)
  | ((with_reducible refine iIaI (by assumption) ?_ ?_ (fun pa_ hpa_=>?_));omega;omega) | ((with_reducible refine iAdd ?_ ?_);omega) | ((with_reducible refine iSub ?_ ?_);omega)
  | ((with_reducible show xEx _ _ _);refine iEx (by rfl) ?_) | ((with_reducible refine fun (_:Nat → Value)=>?_);(try simp only [gx])))
 all_goals exact ⟨by simp [h1],Ext.refl _⟩
theorem e4 (x a b:Int) (w:World):Ret Tryz.prog CF #[.int .i64 x,.int .i64 a,.int .i64 b] w (.bool (decide (a ≤ x ∧ x ≤ b))):=by
 apply S5;unfold DP
 ((with_reducible refine iJn ?_;refine iLe ?_))
 refine iCndP (fun h1=>?_) (fun h1=>?_)
 all_goals (repeat first
  | (with_reducible first | refine iFa ?_ | refine iNil ?_ | refine iNilF ?_ | refine iLd (by assumption) ?_ | refine iLenN (by assumption) ?_ | refine iLenI (by assumption) ?_ | refine iLenS (by assumption) ?_ | refine iLenL ?_ | refine iEq ?_ | refine iNe ?_ | refine iLt ?_ | refine iLe ?_ | refine iNot ?_ | refine iPick ?_ | refine iE20 ?_ | refine iE21 ?_ | refine iE30 ?_ | refine iE31 ?_ | refine iE32 ?_ | refine iJn ?_)
  | ((with_reducible show xLd _ _ _);refine iLdB (by assumption) (by first | rfl | simp) ?_) | ((with_reducible refine iLdA (by assumption) ?_ ?_);rfl)
  | ((with_reducible refine iIaNN (by assumption) ?_ (fun pa_ hpa_=>?_));omega) | ((with_reducible refine iIaN (by assumption) ?_ (fun pa_ hpa_=>?_));omega)
  | ((with_reducible refine iIaI (by assumption) ?_ ?_ (fun pa_ hpa_=>?_));omega;omega) | ((with_reducible refine iAdd ?_ ?_);omega) | ((with_reducible refine iSub ?_ ?_);omega)
  | ((with_reducible show xEx _ _ _);refine iEx (by rfl) ?_) | ((with_reducible refine fun (_:Nat → Value)=>?_);(try simp only [gx])))
 all_goals exact ⟨by simp [h1],Ext.refl _⟩
theorem sC (m i:Nat) (hm:m < 2 ^ 63) (hi:i ≤ 64) (w:World):Ret Tryz.prog Q0 #[.int .i64 (m:Int),.int .i64 (i:Int)] w (.bool (m.testBit i)):=by
 apply Z3;unfold PV
 refine iShrN hi ?_
 refine ⟨_,_,rfl,rfl,iEq ⟨?_,Ext.refl _⟩⟩
 rw [← NU hi,aAC hi hm]
 cases m.testBit i <;> rfl
def maskB (n:Nat) (x:Int):Bool:=decide (0 ≤ x ∧ x ≤ ((2 ^ n - 1:Nat):Int))
theorem jA {v:Value} {w:World} {xs:List Value} (hs:Sl w v xs):Ret Tryz.prog zS #[v] w (.int .i64 (xs.length:Nat)):=by
 apply QK;unfold AR
 ((with_reducible refine iLenS (by assumption) ?_))
 exact ⟨rfl,Ext.refl _⟩
theorem rD (n:Nat) (x:Int) (hn:(n:Int) ≤ 9223372036854775807) (w:World):Ret Tryz.prog GP #[.int .i64 (n:Int),.int .i64 x] w (.bool (decide (n ≤ 30) && maskB n x)):=by
 apply VF;unfold G5
 ((with_reducible refine iJn ?_))
 refine iRet (e4 _ _ _ w) fun w1 h1=>?_
 refine iCndP (fun h3=>?_) (fun h3=>?_)
 ·refine rI (by omega) ?_
  have h2:2 ^ n < 2 ^ 63:=Nat.pow_lt_pow_right (by omega) (by omega)
  have h4:0 < 2 ^ n:=Nat.two_pow_pos n
  have h5:((2 ^ n - 1:Nat):Int) = ((2 ^ n:Nat):Int) - 1:=by omega
  unfold maskB
  rw [h5]
  generalize 2 ^ n = m at *
  refine iSub (by omega) ?_
  refine iRet (e4 _ _ _ w1) fun w2 h2=>?_
  (intro _;(try simp only [gx]))
  exact ⟨by simp [show n ≤ 30 by omega],h1.trans h2⟩
 ·(intro _;(try simp only [gx]))
  exact ⟨by simp [show ¬ n ≤ 30 by omega],h1⟩
def idxOf (p:Int → Bool) (l:List Int):Int:=match l.findIdx? p with | some i=>(i:Int) | none=>-1
theorem rW {v fv:Value} {w:World} {l:List Int} (hs:SlI w v l) (p:Int → Bool)
  (hf:∀ w',Ext w w' → ∀ x ∈ l,callV Tryz.prog fv [.int .i64 x] w' fun r w''=>r = .bool (p x) ∧ Ext w' w''):Ret Tryz.prog iW #[v,fv] w (.int .i64 (idxOf p l)):=by
 have hl:=hs.len
 apply tC;unfold iV
 ((with_reducible refine iLenI (by assumption) ?_))
 refine iLp (fun k:Nat=>[.int .i64 (k:Int)]) (fun k w'=>k ≤ l.length ∧ Ext w w' ∧ ∀ x ∈ l.take k,p x = false) (fun k=>l.length - k) 0 rfl ⟨Nat.zero_le _,Ext.refl _,by simp⟩ ?_
 rintro k w2 Kn ⟨hk,h2,ht⟩ hKn
 have hs2:=hs.ext h2
 (intro _;(try simp only [gx]);(with_reducible refine iLt ?_))
 refine iCndP (fun h3=>?_) (fun h3=>?_)
 ·((with_reducible refine iIaN (by assumption) ?_ (fun pa_ hpa_=>?_));omega;(with_reducible refine iLd (by assumption) ?_))
  have hk1:k < l.length:=by omega
  have hg:l.getD k 0 = l[k]:=by simp [hk1]
  rw [hg]
  refine (hf w2 h2 l[k] (List.getElem_mem _)).mono ?_
  rintro r w3 ⟨rfl,h23⟩
  refine iCnd (fun h4=>?_) (fun h4=>?_)
  ·refine ⟨?_,h2.trans h23⟩
   have:l.findIdx? p = some k:=by
    rw [List.findIdx?_eq_some_iff_getElem]
    refine ⟨hk1,h4,fun j hj=>?_⟩
    have:=ht l[j] (List.mem_take_iff_getElem.2 ⟨j,by omega,rfl⟩)
    simp [this]
   simp [idxOf,this]
  ·(refine iAdd (by omega) ?_)
   refine hKn (k + 1) _ ⟨by omega,h2.trans h23,?_⟩ (by omega)
   rw [List.take_succ_eq_append_getElem hk1]
   intro x hx
   rcases List.mem_append.1 hx with hx | hx
   ·exact ht x hx
   ·simp at hx;rw [hx];exact h4
 ·refine ⟨?_,h2⟩
  rw [List.take_of_length_le (by omega)] at ht
  have:l.findIdx? p = none:=List.findIdx?_eq_none_iff.2 ht
  simp [idxOf,this]
theorem gD {v fv:Value} {w:World} {l:List Int} (hs:SlI w v l) (p:Int → Bool)
  (hf:∀ w',Ext w w' → ∀ x ∈ l,callV Tryz.prog fv [.int .i64 x] w' fun r w''=>r = .bool (p x) ∧ Ext w' w''):Ret Tryz.prog gQ #[v,fv] w (.bool (l.any p)):=by
 apply pI;unfold gO
 refine iRet (rW hs p hf) fun w1 h1=>?_
 ((with_reducible refine iLe ?_))
 refine ⟨?_,h1⟩
 unfold idxOf
 cases h:l.findIdx? p with
 | none=>
  have:=List.findIdx?_eq_none_iff.1 h
  have h2:l.any p = false:=List.any_eq_false.2 fun x hx=>by simp [this x hx]
  simp [h2]
 | some i=>
  obtain ⟨hi,hp,_⟩:=List.findIdx?_eq_some_iff_getElem.1 h
  have h2:l.any p = true:=List.any_eq_true.2 ⟨l[i],List.getElem_mem _,hp⟩
  simp [h2]
theorem JO {v:Value} {w:World} {l:List Int} (hs:SlI w v l):Ret Tryz.prog vD #[v] w (.bool (l.all fun x=>decide (l.length ≤ 30) && maskB l.length x)):=by
 have hl:=hs.len
 obtain ⟨a,c,hv,_⟩:=id hs
 apply MJ;unfold vA
 subst hv
 refine iNew fun b w1 hb h1 hB=>?_
 simp only [Value.cells] at hB
 have hs1:=hs.ext h1
 (refine iLdB (by assumption) (by first | rfl | simp) ?_)
 refine iRet (gD hs1 (fun x=>!(decide (l.length ≤ 30) && maskB l.length x)) ?_) fun w2 h2=>?_
 ·intro w' h' x _
  refine iClo rfl ?_
  have hB':=hB.ext h'
  have hs':=hs1.ext h'
  refine HW ?_;unfold p7
  (refine iLdB (by assumption) (by first | rfl | simp) ?_)
  refine iRet (jA hs') fun w2 h2=>?_
  rw [bV]
  refine iRet (rD l.length x (by omega) w2) fun w3 h3=>?_
  ((with_reducible refine iNot ?_))
  exact ⟨rfl,h2.trans h3⟩
 ·((with_reducible refine iNot ?_))
  refine ⟨?_,h1.trans h2⟩
  rw [List.not_any_eq_all_not]
  simp
end Go.Proofs.YteifjhpddhppcaaGreatDoor

namespace Go.Vc

/-! ### Members -/
def memK (m k:Nat):List Nat:=(List.range k).filter fun i=>m.testBit i
def mem (m:Nat):List Nat:=memK m 63
def popc (m:Nat):Nat:=(mem m).length
theorem KD (m k:Nat):memK m (k + 1) = memK m k ++ if m.testBit k then [k] else []:=by
 simp only [memK,List.range_succ,List.filter_append,List.filter_cons,List.filter_nil]
theorem I9 {m a:Nat} (h:∀ j,a ≤ j → m.testBit j = false):∀ d,memK m (a + d) = memK m a:=by
 intro d
 induction d with
 | zero=>rfl
 | succ d ih=>rw [← Nat.add_assoc,KD,ih,h (a + d) (by omega)];simp
theorem RS {m k:Nat} (h:m >>> k = 0) (j:Nat) (hj:k ≤ j):m.testBit j = false:=by
 have:m < 2 ^ k:=by
  rw [Nat.shiftRight_eq_div_pow] at h
  exact (Nat.div_eq_zero_iff_lt (Nat.two_pow_pos k)).1 h
 exact Nat.testBit_lt_two_pow (Nat.lt_of_lt_of_le this (Nat.pow_le_pow_right (by omega) hj))
theorem TV {m k:Nat} (hm:m < 2 ^ 63) (h:m >>> k = 0):memK m k = mem m:=by
 by_cases hk:k ≤ 63
 ·have:=I9 (RS h) (63 - k)
  rw [show k + (63 - k) = 63 by omega] at this
  exact this.symm
 ·have:=I9 (m:=m) (a:=63) (fun j hj=>Nat.testBit_lt_two_pow (Nat.lt_of_lt_of_le hm (Nat.pow_le_pow_right (by omega) hj))) (k - 63)
  rw [show 63 + (k - 63) = k by omega] at this
  exact this
theorem Y7 {m i:Nat} (hm:m < 2 ^ 63):i ∈ mem m ↔ m.testBit i = true:=by
 simp only [mem,memK,List.mem_filter,List.mem_range]
 constructor
 ·exact fun h=>h.2
 ·intro h
  refine ⟨?_,h⟩
  rcases Nat.lt_or_ge i 63 with h' | h'
  ·exact h'
  ·rw [Nat.testBit_lt_two_pow (Nat.lt_of_lt_of_le hm (Nat.pow_le_pow_right (by omega) h'))] at h;cases h
theorem rQ (m k:Nat):(memK m k).length ≤ k:=by
 have:=List.length_filter_le (fun i=>m.testBit i) (List.range k)
 simpa [memK] using this
theorem aD1 {m k:Nat} (h:0 < m >>> k) (hm:m < 2 ^ 63):k < 63:=by
 rcases Nat.lt_or_ge k 63 with h' | h'
 ·exact h'
 ·have:m >>> k = 0:=by
   rw [Nat.shiftRight_eq_div_pow]
   exact Nat.div_eq_of_lt (Nat.lt_of_lt_of_le hm (Nat.pow_le_pow_right (by omega) h'))
  omega

/-! ### Images -/
def setOf (l:List Nat):Nat:=l.foldl (fun a y=>a ||| 2 ^ y) 0
theorem PE (l:List Nat) (y:Nat):setOf (l ++ [y]) = setOf l ||| 2 ^ y:=by simp [setOf]
theorem NJ (l:List Nat) (a j:Nat):(l.foldl (fun a y=>a ||| 2 ^ y) a).testBit j = (a.testBit j || l.contains j):=by
 induction l generalizing a with
 | nil=>simp
 | cons x r ih=>
  rw [List.foldl_cons,ih,Nat.testBit_or,Nat.testBit_two_pow]
  rw [List.contains_cons]
  by_cases h:x = j
  ·subst h;simp
  ·have h':(j == x) = false:=by simp;omega
   simp [h,h']
theorem uG (l:List Nat) (j:Nat):(setOf l).testBit j = l.contains j:=by simp [setOf,NJ]
theorem FL {l:List Nat} {n:Nat} (h:∀ y ∈ l,y < n):setOf l < 2 ^ n:=by
 refine Nat.lt_pow_two_of_testBit _ fun i hi=>?_
 rw [uG]
 simp only [List.contains_eq_mem,decide_eq_false_iff_not]
 intro hm
 have:=h i hm
 omega

/-! ### Counting members by the word's own trick -/
end Go.Vc

namespace Go.Proofs.YteifjhpddhppcaaGreatDoor
open Go.Vc

theorem u64_in (a:Nat) (h:a < 2 ^ 64):IntKind.u64.wrap (a:Int) = (a:Int):=IntWalk.u64_in _ (by omega)
theorem iAndU {a b:Nat} {K:Value → Prop} (ha:a < 2 ^ 64) (hb:b < 2 ^ 64) (h:K (.int .u64 ((a &&& b:Nat):Int))):xBits iAnd .u64 (.int .u64 (a:Int)) (.int .u64 (b:Int)) K:=by
 refine ⟨_,_,rfl,rfl,?_⟩
 have hab:a &&& b < 2 ^ 64:=Nat.and_lt_two_pow _ hb
 have:iAnd .u64 (a:Int) (b:Int) = ((a &&& b:Nat):Int):=by
  rw [show iAnd .u64 (a:Int) (b:Int) = IntKind.u64.wrap ((BitVec.ofInt 64 (a:Int) &&& BitVec.ofInt 64 (b:Int)).toNat:Nat) from rfl,gP,gP]
  rw [BitVec.toNat_and,BitVec.toNat_ofNat,BitVec.toNat_ofNat,Nat.mod_eq_of_lt ha,Nat.mod_eq_of_lt hb]
  exact u64_in _ hab
 rw [this];exact h
theorem iShrU {a j:Nat} {yk:IntKind} {K:Value → Prop} (hj:j ≤ 64) (h:K (.int .u64 ((a >>> j:Nat):Int))):xSh iShr .u64 (.int .u64 (a:Int)) (.int yk (j:Int)) K:=by
 refine ⟨_,_,_,rfl,rfl,by omega,?_⟩
 have:iShr .u64 (a:Int) (j:Int) = ((a >>> j:Nat):Int):=by
  simp only [iShr,IntKind.bits,Int.toNat_natCast,show min j 64 = j by omega]
  rw [show ((2:Int) ^ j) = ((2 ^ j:Nat):Int) by simp,Nat.shiftRight_eq_div_pow,Int.fdiv_eq_ediv_of_nonneg _ (Int.natCast_nonneg _)]
  simp
 rw [this];exact h
theorem EM (a b:Nat) (ha:a < 2 ^ 63) (hb:b < 2 ^ 63) (w:World):Ret Tryz.prog GN #[.int .i64 (a:Int),.int .i64 (b:Int)] w (.bool (decide (sdiff a b = 0))):=by
 apply UX;unfold GA
 refine OT ha hb ?_
 ((with_reducible refine iEq ?_))
 refine ⟨?_,Ext.refl _⟩
 congr 1
 rw [decide_eq_decide]
 omega
theorem vE (m:Nat) (hm:m < 2 ^ 63) (w:World):Cal Tryz.prog yX #[.int .i64 (m:Int)] w fun v w'=>Ext w w' ∧ Ow w.heap.size t_i64 w' v (ints (nats (mem m))):=by
 apply N6;unfold wZ
 refine ⟨fun j xs w'=>∃ (k:Nat) (v:Value),xs = [v,.int .i64 (k:Int)] ∧ j = 64 - k ∧ k ≤ 63 ∧ Ext w w' ∧ Ow w.heap.size t_i64 w' v (ints (nats (memK m k))),⟨64,0,_,rfl,rfl,by omega,Ext.refl _,Ow.nil _ _ _⟩,?_⟩
 rintro j xs w2 ⟨k,v,rfl,rfl,hk,h2,ho⟩
 (intro _;(try simp only [gx]))
 refine iShrN (by omega) ?_
 ((with_reducible refine iLt ?_))
 refine iCndP (fun h3=>?_) (fun h3=>?_)
 ·have hk1:=aD1 (m:=m) (k:=k) (Int.natCast_pos.1 h3) hm
  refine iRet (sC m k hm (by omega) w2) fun w3 h4=>?_
  have ho:=ho.ext h4
  refine iCnd (fun h5=>?_) (fun h5=>?_)
  ·have hl:=rQ m k
   refine iApp1 OZ PW rfl ho rfl (by rw [bV,bU];omega) (by rw [bV,bU];omega) (by have:=h2.size;have:=h4.size;omega) fun v' w4 ho' hg=>?_
   (refine iAdd (by omega) ?_)
   refine ⟨64 - (k + 1),by omega,k + 1,v',rfl,rfl,by omega,(h2.trans h4).grown hg (fun b hb=>(ho.blk b hb).1),?_⟩
   rw [KD,h5]
   simpa [ints,nats] using ho'
  ·(refine iAdd (by omega) ?_)
   refine ⟨64 - (k + 1),by omega,k + 1,v,rfl,rfl,by omega,h2.trans h4,?_⟩
   rw [KD,h5]
   simpa using ho
 ·rw [TV hm (Nat.eq_zero_of_not_pos fun h=>h3 (Int.natCast_pos.2 h))] at ho
  exact ⟨h2,ho⟩
theorem yT {v:Value} {w:World} {l:List Int} (hs:SlI w v l) (hl:l.length ≤ 1099511627776):Cal Tryz.prog lT #[v] w fun v' w'=>Ext w w' ∧ Ow w.heap.size t_i64 w' v' (ints l):=by
 apply zE;unfold l9
 obtain ⟨a,c,rfl,hlc,hcm,hcells⟩:=id hs
 refine ⟨trivial,rfl,iCnd (fun h1=>?_) (fun h1=>?_)⟩
 ·refine ⟨Ext.refl _,?_⟩
  cases a with
  | some ad=>simp [IP] at h1
  | none=>
   rcases hcells with h | ⟨b,o,h,_⟩
   ·rw [h];exact Ow.nil _ _ _
   ·cases h
 ·refine iBs0 fun v1 w1 e1 h1 ho=>?_
  refine iApp OZ PW rfl ho (Sl.ext hs h1) (by simp [ints,aC]) (by simp [ints];omega) (by simp [ints];omega) (by omega) fun v' w2 ho' hg=>?_
  exact ⟨h1.grown hg (fun b hb=>(ho.blk b hb).1),by simpa using ho'⟩
end Go.Proofs.YteifjhpddhppcaaGreatDoor

namespace Go.Vc
open Go.RowKit (Below)

theorem Ext.ch {S:Nat → Prop} {w w':World} (h:Ext w w'):Ch S w w':=⟨h.os,h.tape,h.output,h.size,fun k hk _=>h.block k hk⟩
theorem Upd.ch {S:Nat → Prop} {w w':World} {b:Nat} (h:Upd b w w') (hb:S b):Ch S w w':=⟨h.os,h.tape,h.output,by rw [h.size];exact Nat.le_refl _,fun k _ hn=>h.block k fun e=>hn (e ▸ hb)⟩
theorem d9 {S:Nat → Prop} {w w':World} {row:Option Nat} (h:w.grownBy w' row) (hr:∀ b,row = some b → S b):Ch S w w':=
 ⟨h.os,h.tape,h.output,h.size,fun k hk hn=>h.block k hk fun e=>hn (hr k e.symm)⟩
theorem Ch.trans {S S':Nat → Prop} {w w' w'':World} (h:Ch S w w') (k:Ch S' w' w'') (hs:∀ b,S' b → S b ∨ w.heap.size ≤ b):Ch S w w'':=
 ⟨k.os.trans h.os,k.tape.trans h.tape,k.output.trans h.output,Nat.le_trans h.size k.size,fun i hi hn=>(k.block i (by have:=h.size;omega) fun hS=>by
  rcases hs i hS with h1 | h1
  ·exact hn h1
  ·omega).trans (h.block i hi hn)⟩
theorem Ch.mono {S S':Nat → Prop} {w w':World} (h:Ch S w w') (hs:∀ b,S b → S' b):Ch S' w w':=⟨h.os,h.tape,h.output,h.size,fun k hk hn=>h.block k hk fun e=>hn (hs k e)⟩
theorem Ext.thenCh {S:Nat → Prop} {w0 w w':World} (h:Ext w0 w) (k:Ch S w w') (hs:∀ b,S b → w0.heap.size ≤ b):Ext w0 w':=
 ⟨k.os.trans h.os,k.tape.trans h.tape,k.output.trans h.output,Nat.le_trans h.size k.size,fun i hi=>(k.block i (by have:=h.size;omega) fun hS=>by have:=hs i hS;omega).trans (h.block i hi)⟩
theorem Blk.ch {S:Nat → Prop} {e:TypeId} {w w':World} {c:Nat} {cs:List Value} (h:Blk e w c cs) (k:Ch S w w') (hn:¬ S c):Blk e w' c cs:=by
 unfold Blk at *
 rw [k.block c (cP h) hn];exact h
theorem Ow.ch {S:Nat → Prop} {lo:Nat} {e:TypeId} {w w':World} {v:Value} {xs:List Value} (h:Ow lo e w v xs) (k:Ch S w w') (hn:∀ c,v.ownBlock = some c → ¬ S c):Ow lo e w' v xs:=by
 obtain ⟨h0,h | ⟨g,cap,cur,hv,hg,hh,h1⟩⟩:=h
 ·exact ⟨h0,.inl h⟩
 ·exact ⟨h0,.inr ⟨g,cap,cur,hv,hg,by rw [k.block g (cP hh) (hn g (by rw [hv];rfl))];exact hh,h1⟩⟩
theorem Ow.cell {lo:Nat} {e:TypeId} {w:World} {v:Value} {xs:List Value} (h:Ow lo e w v xs):aC v = true:=by
 obtain ⟨_,h | ⟨g,cap,cur,hv,_⟩⟩:=h
 ·rw [h.1];rfl
 ·rw [hv];rfl
theorem Ow.ty {lo:Nat} {e:TypeId} {w:World} {v:Value} {xs:List Value} (h:Ow lo e w v xs) {c:Nat} (hc:v.ownBlock = some c):∃ cur,w.heap[c]? = some (.cells cur e (0,0)):=by
 obtain ⟨_,h | ⟨g,cap,cur,hv,hg,hh,h1⟩⟩:=h
 ·rw [h.1] at hc;cases hc
 ·rw [hv] at hc
  cases hc
  exact ⟨cur,hh⟩
theorem Ow.ne_blk {lo:Nat} {e e':TypeId} {w:World} {v:Value} {xs cs:List Value} {b:Nat} (h:Ow lo e w v xs) (hb:Blk e' w b cs) (hne:e ≠ e'):v.ownBlock ≠ some b:=by
 intro hc
 obtain ⟨cur,h1⟩:=h.ty hc
 unfold Blk at hb
 rw [h1] at hb
 injection hb with hb
 injection hb with _ hb _
 exact hne hb
theorem Blk.ne_blk {e e':TypeId} {w:World} {b b':Nat} {cs cs':List Value} (h:Blk e w b cs) (h':Blk e' w b' cs') (hne:e ≠ e'):b ≠ b':=by
 rintro rfl
 unfold Blk at h h'
 rw [h] at h'
 injection h' with h'
 injection h' with _ h' _
 exact hne h'
theorem aDT {w:World} {lo:Nat} {e:TypeId} {k:IntKind} {v x:Value} {xs:List Value} {K:Value → Prop} (hs:Ow lo e w v (xs ++ [x])) (h:∀ v',v'.ownBlock = v.ownBlock → Ow lo e w v' xs → K v'):
  xSl 1 v none (some (.int k (xs.length:Int))) K:=by
 obtain ⟨hl,hc | ⟨g,cap,cur,hv,hg,hh,h2,h3,h4,h5⟩⟩:=hs
 ·simp at hc
 ·subst hv
  rw [List.length_append,List.length_singleton] at h2 h5
  refine ⟨_,_,_,0,xs.length,rfl,⟨k,rfl⟩,rfl,Nat.zero_le _,by omega,?_⟩
  have:(if cap = 0 then some (⟨g,0,none⟩:Addr) else (some (⟨g,0,none⟩:Addr)).map (·.add (0 * 1))) = some ⟨g,0,none⟩:=by
   split
   ·rfl
   ·simp [Addr.add]
  rw [this]
  refine h _ rfl ⟨by simp,.inr ⟨g,cap,cur,by simp,hg,hh,by omega,h3,h4,?_⟩⟩
  have:=congrArg (List.take xs.length) h5
  rw [List.take_take,List.take_left] at this
  rw [Nat.mul_one] at this ⊢
  rw [show min xs.length (xs.length + 1) = xs.length by omega] at this
  exact this

theorem PR {w:World} {lo:Nat} {e:TypeId} {v:Value} {xs:List Value} {j:Nat} {k:IntKind} {K:Value → Prop} (hs:Ow lo e w v xs) (h1:j < xs.length)
  (h:∀ b,v.ownBlock = some b → (∀ w' ys,ys.length = xs.length → Ow lo e w' v ys → w'.cell? ⟨b,j,none⟩ = ys[j]? ∧ w'.frozen? ⟨b,j,none⟩ = false ∧ ∀ u,Ow lo e (w'.setCell ⟨b,j,none⟩ u) v (ys.set j u)) → K (.pointer (some ⟨b,j,none⟩))):
  xIa 1 v (.int k (j:Int)) K:=by
 obtain ⟨hl,hc | ⟨g,cap,cur,hv,hg,hh,h2,h3,h4,h5⟩⟩:=hs
 ·omega
 ·subst hv
  refine iIaL (j:=j) (by omega) ?_
  rw [Nat.zero_add]
  refine h g rfl fun w' ys hly hs=>?_
  have hs':w'.ownsRow lo e 1 (.slice (some ⟨g,0,none⟩) xs.length cap) xs.length ys:=by
   unfold Ow at hs
   rw [hly] at hs
   exact hs
  refine ⟨?_,?_,fun u=>?_⟩
  ·exact hs'.cellAt j (by omega)
  ·exact hs'.frozenAt j
  ·have:=hs'.stored j u
   unfold Ow
   rw [List.length_set,hly]
   exact this.1

/-! ### Lists of rows -/

theorem iJnB {F:(List Value → World → Prop) → Prop} {K:List Value → World → Prop} (T:Bool) (w2:World) (h:∀ J:List Value → World → Prop,(∀ w4,Ext w2 w4 → J [.bool T] w4) → F J) (hK:∀ w4,Ext w2 w4 → K [.bool T] w4):jn F K:=h K hK


/-! ### Visitors -/
end Go.Vc

namespace Go.Vc
def SlB (w:World) (v:Value) (bs:List Nat):Prop:=Sl w v (bs.map fun b:Nat=>Value.int .u8 ((b:Nat):Int)) ∧ ∀ b ∈ bs,b < 256
theorem SlB.ext {w w':World} {v:Value} {bs:List Nat} (h:SlB w v bs) (he:Ext w w'):SlB w' v bs:=⟨h.1.ext he,h.2⟩
theorem SlB.len {w:World} {v:Value} {bs:List Nat} (h:SlB w v bs):bs.length ≤ 9223372036854775807:=by have:=h.1.len;rwa [List.length_map] at this
theorem iLenB {w:World} {v:Value} {bs:List Nat} {K:Value → Prop} (hs:SlB w v bs) (h:K (.int .i64 (bs.length:Nat))):xLenS v K:=iLenS hs.1 (by rw [List.length_map];exact h)
theorem iIaB {w:World} {v:Value} {bs:List Nat} {j:Nat} {k:IntKind} {K:Value → Prop} (hs:SlB w v bs) (h1:j < bs.length) (h:∀ p x,x < 256 → w.cell? p = some (.int .u8 ((x:Nat):Int)) → K (.pointer (some p))):xIa 1 v (.int k (j:Int)) K:=by
 refine iIa hs.1 (by omega) (by rw [List.length_map];omega) fun p hp=>h p bs[j] (hs.2 _ (List.getElem_mem h1)) ?_
 rw [hp,Int.toNat_natCast,List.getElem?_map,List.getElem?_eq_getElem h1];rfl
theorem T9 (z:Int):∃ m:Nat,IntKind.u64.wrap z = (m:Int) ∧ m < 2 ^ 64:=by
 have h:0 ≤ IntKind.u64.wrap z ∧ IntKind.u64.wrap z < 18446744073709551616:=by
  simp [IntKind.wrap,IntKind.bits,IntKind.signed];omega
 exact ⟨(IntKind.u64.wrap z).toNat,by omega,by omega⟩
theorem iMulU {a b:Int} {K:Value → Prop} (h:∀ m:Nat,m < 2 ^ 64 → K (.int .u64 (m:Int))):xMul .u64 (.int .u64 a) (.int .u64 b) K:=by
 obtain ⟨m,e,hm⟩:=T9 (a * b)
 exact ⟨_,_,rfl,rfl,by rw [e];exact h m hm⟩
theorem O9 {a b:Int} {K:Value → Prop} (h:∀ m:Nat,m < 2 ^ 64 → K (.int .u64 (m:Int))):xAdd .u64 (.int .u64 a) (.int .u64 b) K:=by
 obtain ⟨m,e,hm⟩:=T9 (a + b)
 exact ⟨_,_,rfl,rfl,by rw [e];exact h m hm⟩
structure Src (e:TypeId) (w0:World) (vc:Value) (b:Nat) (w:World):Prop where
 ext:Ext w0 w
 lo:w0.heap.size ≤ b
 blk:∃ (at_ hash:Nat),Blk e w b [vc,.int .i64 (at_:Int),.int .u64 (hash:Int)] ∧ at_ ≤ 9223372036854775807 ∧ hash < 2 ^ 64
theorem Src.later {e:TypeId} {w0:World} {vc:Value} {b:Nat} {w w':World} (h:Vc.Src e w0 vc b w) (he:Ext w w'):Vc.Src e w0 vc b w':=by
 obtain ⟨h1,h2,at_,hash,h3,h4⟩:=h
 exact ⟨h1.trans he,h2,at_,hash,h3.ext he,h4⟩
theorem Src.ch {e:TypeId} {w0:World} {vc:Value} {b:Nat} {w w':World} {S:Nat → Prop} (h:Vc.Src e w0 vc b w) (k:Ch S w w') (hb:¬ S b) (hS:∀ c,S c → w0.heap.size ≤ c):Vc.Src e w0 vc b w':=by
 obtain ⟨h1,h2,at_,hash,h3,h4⟩:=h
 exact ⟨h1.thenCh k hS,h2,at_,hash,h3.ch k hb,h4⟩
theorem Src.lt {e:TypeId} {w0:World} {vc:Value} {b:Nat} {w:World} (h:Vc.Src e w0 vc b w):b < w.heap.size:=by
 obtain ⟨_,_,_,_,h3,_⟩:=h;exact h3.lt
def Drw (P:Program) (f:FuncId) (args:Array Value) (e:TypeId) (w0:World) (vc:Value) (b:Nat) (w:World) (Q:Value → World → Prop):Prop:=
 Cal P f args w fun v w'=>Q v w' ∧ Vc.Src e w0 vc b w' ∧ Ch (fun c=>c = b) w w'
end Go.Vc
namespace Go.Proofs.YteifjhpddhppcaaGreatDoor
open Go.Vc
theorem aD {e:TypeId} {w0:World} {vc:Value} {bs:List Nat} (hc:SlB w0 vc bs) {b:Nat} {w:World} (hS:Vc.Src e w0 vc b w) (n:Int):
  Drw Tryz.prog CI #[.pointer (some ⟨b,0,none⟩),.int .i64 n] e w0 vc b w fun v _=>∃ x:Nat,v = .int .i64 (x:Int) ∧ (1 ≤ n → (x:Int) < n) ∧ (n < 1 → x = 0):=by
 apply SN;unfold EB
 have hbl:=hc.len
 ((with_reducible refine iLt ?_))
 refine iCndP (fun h=>⟨⟨0,rfl,fun h'=>by omega,fun _=>rfl⟩,hS,(Ext.refl w).ch⟩) (fun hn=>?_)
 obtain ⟨hX,hlo,at_,hash,hB,hat,hh⟩:=hS
 ((with_reducible refine iNil ?_;refine iFa ?_);refine iLdB (by assumption) (by first | rfl | simp) ?_)
 refine iMulU fun m1 _=>?_
 refine O9 fun m2 hm2=>?_
 ((with_reducible refine iNil ?_;refine iFa ?_))
 refine iStB hB (by simp) rfl fun hB1=>?_
 have hu1:=Upd.setCell w b 2 (.int .u64 (m2:Int))
 have hX1:=hX.upd hu1 hlo
 generalize w.setCell ⟨b,2,none⟩ (.int .u64 (m2:Int)) = w1 at *
 have hB1:Blk e w1 b [vc,.int .i64 (at_:Int),.int .u64 (m2:Int)]:=hB1
 have hc1:=hc.ext hX1
 ((with_reducible refine iNil ?_;refine iFa ?_);refine iLdB (by assumption) (by first | rfl | simp) ?_)
 refine iShrU (j:=33) (by omega) ?_
 refine iAndU (b:=16777215) (Nat.lt_of_le_of_lt (Nat.shiftRight_le _ _) hm2) (by omega) ?_
 have hlt:m2 >>> 33 &&& 16777215 ≤ 16777215:=Nat.and_le_right
 generalize m2 >>> 33 &&& 16777215 = x at *
 refine q8 (by omega) ?_
 ((with_reducible refine iNil ?_;refine iFa ?_);refine iLdB (by assumption) (by first | rfl | simp) ?_;(with_reducible refine iNil ?_;refine iFa ?_);refine iLdB (by assumption) (by first | rfl | simp) ?_)
 refine iLenB hc1 ?_
 ((with_reducible refine iLt ?_))
 intro w2 h2
 have hB2:=hB1.ext h2
 have hc2:=hc1.ext h2
 have hch2:Ch (fun c=>c = b) w w2:=(hu1.ch (S:=fun c=>c = b) rfl).trans (h2.ch (S:=fun _=>False)) (fun _ h=>h.elim)
 have htail:∀ (y:Nat) (w4:World),y ≤ 16777470 → Vc.Src e w0 vc b w4 → Ch (fun c=>c = b) w w4 → xRem .i64 (.int .i64 (y:Int)) (.int .i64 n) fun v57=>(∃ x:Nat,v57 = .int .i64 (x:Int) ∧ (1 ≤ n → (x:Int) < n) ∧ (n < 1 → x = 0)) ∧ Vc.Src e w0 vc b w4 ∧ Ch (fun c=>c = b) w w4:=fun y w4 hy hS4 hc4=>by
  refine iRem ⟨by omega,by omega⟩ ⟨⟨((y:Int) % n).toNat,?_,fun _=>?_,fun h=>by omega⟩,hS4,hc4⟩
  ·have:=Int.emod_nonneg (y:Int) (show n ≠ 0 by omega)
   rw [Int.toNat_of_nonneg this]
  ·have:=Int.emod_nonneg (y:Int) (show n ≠ 0 by omega)
   have:=Int.emod_lt_of_pos (y:Int) (show 0 < n by omega)
   omega
 refine iJn ?_
 refine iCndP (fun h3=>?_) (fun h3=>?_)
 ·((with_reducible refine iNil ?_;refine iFa ?_);refine iLdB (by assumption) (by first | rfl | simp) ?_;(with_reducible refine iNil ?_;refine iFa ?_);refine iLdB (by assumption) (by first | rfl | simp) ?_)
  refine iIaB hc2 (by omega) fun p y hy hp=>?_
  ((with_reducible refine iLd (by assumption) ?_))
  refine q8 (by omega) ?_
  (refine iAdd (by omega) ?_)
  intro w5 h5
  have hB5:=hB2.ext h5
  ((with_reducible refine iNil ?_;refine iFa ?_);refine iLdB (by assumption) (by first | rfl | simp) ?_;refine iAdd (by omega) ?_;(with_reducible refine iNil ?_;refine iFa ?_))
  refine iStB hB5 (by simp) rfl fun hB6=>?_
  have hu6:=Upd.setCell w5 b 1 (.int .i64 ((at_:Int) + 1))
  have e1:(x:Int) + (y:Int) = ((x + y:Nat):Int):=by omega
  have e2:(at_:Int) + 1 = ((at_ + 1:Nat):Int):=by omega
  rw [e1]
  (intro _;(try simp only [gx]))
  refine htail (x + y) _ (by omega) ⟨((hX1.trans h2).trans h5).upd hu6 hlo,hlo,at_ + 1,m2,?_,by omega,hm2⟩ ((hch2.trans (h5.ch (S:=fun _=>False)) (fun _ h=>h.elim)).trans (hu6.ch (S:=fun c=>c = b) rfl) (fun _ h=>.inl h))
  rw [← e2];exact hB6
 ·(intro _;(try simp only [gx]))
  exact htail x w2 (by omega) ⟨hX1.trans h2,hlo,at_,m2,hB2,hat,hm2⟩ hch2
theorem NM {vc:Value} {w:World} {bs:List Nat} (hc:SlB w vc bs):Cal Tryz.prog EY #[vc] w fun v w'=>∃ b,v = .pointer (some ⟨b,0,none⟩) ∧ Vc.Src 92 w vc b w':=by
 apply R2;unfold ES
 have hbl:=hc.len
 refine iLenB hc ?_
 refine D4 (by omega) ?_
 refine O9 fun m0 hm0=>?_
 have hvc:∃ a n c,vc = .slice a n c:=by obtain ⟨a,c,h,_⟩:=hc.1;exact ⟨a,_,c,h⟩
 obtain ⟨va,vn,vcc,rfl⟩:=hvc
 refine bB (cs:=#[.slice va vn vcc,.int .i64 0,.int .u64 (m0:Int)]) (by simp [Instr.fill,Value.cells]) ?_
 refine iNew fun b w1 hb h1 hB=>?_
 have hB:Blk 92 w1 b [.slice va vn vcc,.int .i64 0,.int .u64 (m0:Int)]:=hB
 have hlo:w.heap.size ≤ b:=by omega
 refine iLp (fun k:Nat=>[.int .i64 (k:Int)]) (fun k w'=>k ≤ 4096 ∧ Vc.Src 92 w (.slice va vn vcc) b w') (fun k=>4096 - k) 0 rfl ⟨Nat.zero_le _,h1,hlo,0,m0,hB,by omega,hm0⟩ ?_
 rintro k w3 Kn ⟨hk,hS⟩ hKn
 have hc3:=hc.ext hS.ext
 (intro _;(try simp only [gx]))
 refine iJnB (decide (k < bs.length) && decide (k < 4096)) w3 (fun J hJ=>?_) (fun w5 h5=>?_)
 ·refine iLenB hc3 ?_
  ((with_reducible refine iLt ?_))
  refine iCndP (fun h=>?_) (fun h=>?_)
  ·((with_reducible refine iLt ?_))
   have:=hJ w3 (Ext.refl _)
   rw [decide_eq_true (show k < bs.length by omega),Bool.true_and] at this
   have e1:decide ((k:Int) < 4096) = decide (k < 4096):=decide_eq_decide.2 (by omega)
   rw [e1];exact this
  ·have:=hJ w3 (Ext.refl _)
   rw [decide_eq_false (show ¬ k < bs.length by omega),Bool.false_and] at this
   exact this
 ·have hS5:=hS.later h5
  have hc5:=hc3.ext h5
  (intro _;(try simp only [gx]))
  refine iCnd (fun hT=>?_) (fun hT=>?_)
  ·rw [Bool.and_eq_true,decide_eq_true_eq,decide_eq_true_eq] at hT
   obtain ⟨hX,_,at_,hash,hB5,hat,hh⟩:=hS5
   ((with_reducible refine iNil ?_;refine iFa ?_);refine iLdB (by assumption) (by first | rfl | simp) ?_)
   refine iMulU fun m1 _=>?_
   refine iIaB hc5 hT.1 fun p y hy hp=>?_
   ((with_reducible refine iLd (by assumption) ?_))
   refine D4 (by omega) ?_
   refine O9 fun m2 _=>?_
   refine O9 fun m3 hm3=>?_
   ((with_reducible refine iNil ?_;refine iFa ?_))
   intro w6 h6
   have hB6:=hB5.ext h6
   refine iStB hB6 (by simp) rfl fun hB7=>?_
   have hu7:=Upd.setCell w6 b 2 (.int .u64 (m3:Int))
   intro w8 h8
   (refine iAdd (by omega) ?_)
   exact hKn (k + 1) _ ⟨by omega,((hX.trans h6).upd hu7 hlo).trans h8,hlo,at_,m3,Blk.ext hB7 h8,hat,hm3⟩ (by omega)
  ·exact ⟨b,rfl,hS5⟩
theorem QX {e:TypeId} {w0:World} {vc:Value} {bs:List Nat} (hc:SlB w0 vc bs) {b:Nat} {w:World} (hS:Vc.Src e w0 vc b w) {vl:Value} {l:List Int} {c:Nat} {el:TypeId} (hv:vl = .slice (some ⟨c,0,none⟩) l.length l.length) (hl:Blk el w c (ints l)) (hcb:c ≠ b) (hl0:0 < l.length) (hl9:l.length ≤ 1000):
  Drw Tryz.prog E1 #[.pointer (some ⟨b,0,none⟩),vl] e w0 vc b w fun v _=>∃ x:Int,v = .int .i64 x ∧ x ∈ l:=by
 apply S1;unfold C6
 subst hv
 ((with_reducible refine iLenL ?_))
 refine iCall ((aD hc hS (l.length:Nat)).mono ?_)
 rintro _ w1 ⟨⟨x,rfl,hx,_⟩,hS1,hch⟩
 have hx:=hx (by omega)
 refine iIaL (j:=x) (by omega) ?_
 rw [Nat.zero_add]
 have hB1:=hl.ch hch hcb
 have hcell:=hB1.cell x
 have hxl:x < l.length:=by omega
 rw [ints,List.getElem?_map,List.getElem?_eq_getElem hxl] at hcell
 refine iLd (p:=⟨c,x,none⟩) hcell ?_
 exact ⟨⟨l[x],rfl,List.getElem_mem hxl⟩,hS1,hch⟩
end Go.Proofs.YteifjhpddhppcaaGreatDoor

namespace Go.Vc
open Go.RowKit (Below)
abbrev Str:=List UInt8
theorem Y5 (a b:Str):(a == b) = decide (a = b):=by rw [Bool.eq_iff_iff,beq_iff_eq,decide_eq_true_eq]
abbrev sv (l:Str):Value:=.string ⟨l.toArray⟩
theorem jQ (l:Str):(⟨l.toArray⟩:ByteArray).size = l.length:=by simp [ByteArray.size]
section
variable {P:Program} {w:World}
theorem iLenT {l:Str} {K:Value → Prop} (h:K (.int .i64 (l.length:Nat))):xLenT (sv l) K:=⟨_,rfl,by rw [jQ];exact h⟩
theorem iIs {l:Str} {j:Nat} {k:IntKind} {K:Value → Prop} (hj:j < l.length) (h:K (.int .u8 (((l.getD j 0).toNat:Nat):Int))):xIs (sv l) (.int k (j:Int)) K:=by
 refine ⟨_,k,_,l[j],rfl,rfl,by omega,?_,?_⟩
 ·rw [Int.toNat_natCast]
  show (⟨l.toArray⟩:ByteArray)[j]? = _
  have:j < (⟨l.toArray⟩:ByteArray).size:=by rw [jQ];exact hj
  rw [getElem?_pos (⟨l.toArray⟩:ByteArray) j this]
  rfl
 ·have:l.getD j 0 = l[j]:=by simp [List.getD_eq_getElem?_getD,hj]
  rw [← this];exact h
theorem E4 (l:Str) (i j:Nat):(⟨l.toArray⟩:ByteArray).extract i j = ⟨((l.drop i).take (j - i)).toArray⟩:=by
 apply ByteArray.ext
 rw [ByteArray.data_extract]
 apply Array.ext'
 simp [List.extract_eq_take_drop]
theorem wN {l:Str} {i:Nat} {k:IntKind} {K:Value → Prop} (hi:i ≤ l.length) (h:K (sv (l.drop i))):xSlS (sv l) (some (.int k (i:Int))) none K:=by
 refine ⟨_,i,l.length,rfl,by rw [jQ];rfl,⟨k,rfl⟩,hi,by rw [jQ];exact Nat.le_refl _,?_⟩
 rw [E4,List.take_of_length_le (by simp)];exact h
theorem iTxTo {l:Str} {j:Nat} {k:IntKind} {K:Value → Prop} (hj:j ≤ l.length) (h:K (sv (l.take j))):xSlS (sv l) none (some (.int k (j:Int))) K:=by
 refine ⟨_,0,j,rfl,⟨k,rfl⟩,rfl,Nat.zero_le _,by rw [jQ];exact hj,?_⟩
 rw [E4];exact h
theorem CW {l:Str} {i j:Nat} {k k':IntKind} {K:Value → Prop} (hi:i ≤ j) (hj:j ≤ l.length) (h:K (sv ((l.drop i).take (j - i)))):xSlS (sv l) (some (.int k (i:Int))) (some (.int k' (j:Int))) K:=by
 refine ⟨_,i,j,rfl,⟨k',rfl⟩,⟨k,rfl⟩,hi,by rw [jQ];exact hj,?_⟩
 rw [E4];exact h
theorem iCat {a b:Str} {K:Value → Prop} (hb:a.length + b.length ≤ 9223372036854775807) (h:K (sv (a ++ b))):xStr .add (sv a) (sv b) K:=by
 refine ⟨_,_,_,rfl,rfl,?_,h⟩
 have:¬ ((((⟨a.toArray⟩:ByteArray).size + (⟨b.toArray⟩:ByteArray).size:Nat):Int) > IntKind.i64.max):=by
  rw [jQ,jQ];show ¬ (_ > (9223372036854775807:Int));omega
 simp only [Op.stringOp,if_neg this,ByteArray.mk_append_mk]
 rfl
theorem iEqT {a b:Str} {K:Value → Prop} (h:K (.bool (decide (a = b)))):xStr .eql (sv a) (sv b) K:=by
 refine ⟨_,_,_,rfl,rfl,?_,h⟩
 simp only [Op.stringOp,ByteArray.toList_mk]
 show Sem.pure _ = Sem.pure _
 congr 2
 exact Y5 a b
theorem iNeT {a b:Str} {K:Value → Prop} (h:K (.bool (decide (¬ a = b)))):xStr .neq (sv a) (sv b) K:=by
 refine ⟨_,_,_,rfl,rfl,?_,h⟩
 simp only [Op.stringOp,ByteArray.toList_mk]
 show Sem.pure _ = Sem.pure _
 rw [decide_not]
 congr 2
 rw [Y5]
abbrev ltS (a b:Str):Bool:=Op.bytesLess a b
theorem iLtT {a b:Str} {K:Value → Prop} (h:K (.bool (ltS a b))):xStr .lss (sv a) (sv b) K:=by
 refine ⟨_,_,_,rfl,rfl,?_,h⟩
 simp only [Op.stringOp,ByteArray.toList_mk]
 rfl
theorem iGeT {a b:Str} {K:Value → Prop} (h:K (.bool !(ltS a b))):xStr .geq (sv a) (sv b) K:=by
 refine ⟨_,_,_,rfl,rfl,?_,h⟩
 simp only [Op.stringOp,ByteArray.toList_mk]
 rfl
end
/-! ### Parts of a slice -/
section
variable {w:World}
theorem iSlTo {v:Value} {xs:List Value} {j:Nat} {k:IntKind} {K:Value → Prop} (hs:Sl w v xs) (hj:j ≤ xs.length) (h:∀ v',Sl w v' (xs.take j) → K v'):xSl 1 v none (some (.int k (j:Int))) K:=by
 obtain ⟨a,c,rfl,h2,h3,h4⟩:=hs
 refine ⟨a,xs.length,c,0,j,rfl,⟨k,rfl⟩,rfl,Nat.zero_le _,by omega,?_⟩
 have hl:(xs.take j).length = j:=by rw [List.length_take];omega
 refine h _ ⟨_,c - 0,by rw [hl,Nat.sub_zero],by rw [hl];omega,by omega,?_⟩
 cases j with
 | zero=>exact .inl rfl
 | succ j=>
  rcases h4 with rfl | ⟨b,o,rfl,hc⟩
  ·simp at hj
  ·refine .inr ⟨b,o,?_,fun i hi=>?_⟩
   ·split
    ·rfl
    ·simp [Addr.add]
   ·rw [hl] at hi
    rw [hc i (by omega),List.getElem?_take,if_pos hi]
theorem aD9 {v:Value} {xs:List Value} {j:Nat} {k:IntKind} {K:Value → Prop} (hs:Sl w v xs) (hj:j ≤ xs.length) (h:∀ v',Sl w v' (xs.drop j) → K v'):xSl 1 v (some (.int k (j:Int))) none K:=by
 obtain ⟨a,c,rfl,h2,h3,h4⟩:=hs
 refine ⟨a,xs.length,c,j,xs.length,rfl,rfl,⟨k,rfl⟩,hj,h2,?_⟩
 have hl:(xs.drop j).length = xs.length - j:=by rw [List.length_drop]
 refine h _ ⟨_,c - j,by rw [hl],by rw [hl];omega,by omega,?_⟩
 rcases h4 with rfl | ⟨b,o,rfl,hc⟩
 ·simp
 ·by_cases hn:xs.drop j = []
  ·exact .inl hn
  ·have hjl:j < xs.length:=by
    rcases Nat.lt_or_ge j xs.length with h' | h'
    ·exact h'
    ·exact absurd (List.drop_eq_nil_of_le h') hn
   refine .inr ⟨b,o + j,?_,fun i hi=>?_⟩
   ·rw [if_neg (by omega)]
    simp only [Option.map_some,Nat.mul_one,Addr.add]
    split
    ·rename_i e;simp [e]
    ·rfl
   ·rw [hl] at hi
    rw [show o + j + i = o + (j + i) by omega,hc (j + i) (by omega),List.getElem?_drop]
end
theorem iJnX {F:(List Value → World → Prop) → Prop} {K:List Value → World → Prop} (C:List Value → World → Prop) (h:∀ J:List Value → World → Prop,(∀ xs w,C xs w → J xs w) → F J) (hK:∀ xs w,C xs w → K xs w):jn F K:=h K hK
/-! ### The order of strings -/
theorem cV:∀ a:Str,ltS a a = false
 | []=>rfl
 | x :: a=>by simp [ltS,Op.bytesLess];exact cV a
theorem nU:∀ {a b c:Str},ltS a b = true → ltS b c = true → ltS a c = true
 | _,[],_,h,_=>by cases ‹Str› <;> simp [ltS,Op.bytesLess] at h
 | _,_ :: _,[],_,h=>by simp [ltS,Op.bytesLess] at h
 | [],_ :: _,_ :: _,_,_=>by simp [ltS,Op.bytesLess]
 | x :: a,y :: b,z :: c,h,k=>by
  simp only [ltS,Op.bytesLess,Bool.or_eq_true,decide_eq_true_eq,Bool.and_eq_true,beq_iff_eq] at h k ⊢
  rcases h with h | ⟨rfl,h⟩
  ·rcases k with k | ⟨rfl,k⟩
   ·exact .inl (UInt8.lt_trans h k)
   ·exact .inl h
  ·rcases k with k | ⟨rfl,k⟩
   ·exact .inl k
   ·exact .inr ⟨rfl,nU h k⟩
theorem tW:∀ a b:Str,ltS a b = true ∨ a = b ∨ ltS b a = true
 | [],[]=>.inr (.inl rfl)
 | [],_ :: _=>.inl rfl
 | _ :: _,[]=>.inr (.inr rfl)
 | x :: a,y :: b=>by
  simp only [ltS,Op.bytesLess,Bool.or_eq_true,decide_eq_true_eq,Bool.and_eq_true,beq_iff_eq,List.cons.injEq]
  rcases UInt8.lt_or_lt_of_ne (a:=x) (b:=y) with h
  by_cases e:x = y
  ·subst e
   rcases tW a b with h1 | h1 | h1
   ·exact .inl (.inr ⟨rfl,h1⟩)
   ·exact .inr (.inl ⟨rfl,h1⟩)
   ·exact .inr (.inr (.inr ⟨rfl,h1⟩))
  ·rcases h e with h1 | h1
   ·exact .inl (.inl h1)
   ·exact .inr (.inr (.inl h1))
theorem IM {a b:Str} (h:ltS a b = true):ltS b a = false:=by
 cases hb:ltS b a
 ·rfl
 ·have:=nU h hb;rw [cV] at this;cases this
/-! ### A range over a string -/
def It (w:World) (k:Nat) (l:Str) (pos:Nat):Prop:=w.heap[k]? = some (.stringIter ⟨l.toArray⟩ pos)
theorem It.ext {w w':World} {k:Nat} {l:Str} {pos:Nat} (h:It w k l pos) (he:Ext w w'):It w' k l pos:=by
 unfold It at *
 rw [Below.block he k (cP h)];exact h
theorem It.ch {S:Nat → Prop} {w w':World} {k:Nat} {l:Str} {pos:Nat} (h:It w k l pos) (hc:Ch S w w') (hn:¬ S k):It w' k l pos:=by
 unfold It at *
 rw [hc.block k (cP h) hn];exact h
theorem MO (s:ByteArray) (i:Nat) (h:128 ≤ (s.get! (i + 0)).toNat):128 ≤ (Utf8.decode s i).1 ∧ 1 ≤ (Utf8.decode s i).2:=by
 simp only [Utf8.decode]
 repeat' split
 all_goals simp_all [Utf8.runeError]
 all_goals omega
section
variable {P:Program} {w:World}
theorem XB {t:TypeId} {l:Str} {K:Value → World → Prop} (ht:P.underlying t = some .string)
  (h:∀ b w',b = w.heap.size ∧ w'.heap.size = b + 1 → Ext w w' → It w' b l 0 → K (.pointer (some ⟨b,0,none⟩)) w'):xOp P (Instr.range t (sv l)) w K:=by
 refine ⟨_,_,run_range_string w t _ ht,h _ _ ⟨rfl,by simp [World.iter]⟩ (Ext.alloc w _) ?_⟩
 exact heap_alloc_new w _
theorem VR {k:Nat} {l:Str} {pos:Nat} {ty:TypeId} {K:Value → World → Prop} (hI:It w k l pos) (hp:l.length ≤ pos) (h:K (.tuple #[.bool false]) w):xOp P (Instr.next (.pointer (some ⟨k,0,none⟩)) true ty) w K:=
 ⟨_,_,Lib.run_next_end_at w k _ pos ty hI (by rw [jQ];omega),h⟩
theorem W0 {k:Nat} {l:Str} {pos:Nat} {ty:TypeId} {K:Value → World → Prop} (hI:It w k l pos) (hp:pos < l.length)
  (h:∀ (c d:Nat) w',1 ≤ d → ((l.getD pos 0).toNat < 128 → c = (l.getD pos 0).toNat ∧ d = 1) → (128 ≤ (l.getD pos 0).toNat → 128 ≤ c) → c ≤ 2147483647 → Upd k w w' → It w' k l (pos + d) → K (.tuple #[.bool true,.int .i64 (pos:Int),.int .i32 (c:Int)]) w'):
  xOp P (Instr.next (.pointer (some ⟨k,0,none⟩)) true ty) w K:=by
 have hs:pos < (⟨l.toArray⟩:ByteArray).size:=by rw [jQ];exact hp
 have e0:(⟨l.toArray⟩:ByteArray).get! (pos + 0) = l.getD pos 0:=by
  show (⟨l.toArray⟩:ByteArray).get! pos = _
  have:(⟨l.toArray⟩:ByteArray).get! pos = l.toArray[pos]!:=by simp [ByteArray.get!]
  rw [this]
  simp [List.getD_eq_getElem?_getD,hp]
 have e1:(⟨l.toArray⟩:ByteArray)[pos]'hs = l.getD pos 0:=by
  have:(⟨l.toArray⟩:ByteArray)[pos]'hs = l.toArray[pos]:=rfl
  rw [this]
  simp [List.getD_eq_getElem?_getD,hp]
 refine ⟨_,_,Lib.run_next_any_at w k _ pos ty hI hs,?_⟩
 refine h _ _ _ ?_ (fun ha=>?_) (fun hb=>?_) (decode_le _ _) ⟨rfl,rfl,rfl,Lib.iterAt_size _ _ _ _,fun c hc=>Lib.iterAt_other _ _ _ _ _ hc⟩ (Lib.iterAt_heap w k _ pos _ hI)
 ·rcases Nat.lt_or_ge (l.getD pos 0).toNat 128 with h1 | h1
  ·rw [decode_ascii _ _ hs (by rw [e1];exact h1)];exact Nat.le_refl _
  ·exact (MO _ _ (by rw [e0];exact h1)).2
 ·rw [decode_ascii _ _ hs (by rw [e1];exact ha),e1];exact ⟨rfl,rfl⟩
 ·exact (MO _ _ (by rw [e0];exact hb)).1
end
/-! ### Slices of elements of k cells -/
def SlK (k:Nat) (w:World) (v:Value) (n:Nat) (xs:List Value):Prop:=
 xs.length = n * k ∧ ∃ a c,v = .slice a n c ∧ n ≤ c ∧ c ≤ 9223372036854775807 ∧ (n = 0 ∨ ∃ b o,a = some ⟨b,o,none⟩ ∧ ∀ i,i < n * k → w.cell? ⟨b,o + i,none⟩ = xs[i]?)
theorem SlK.ext {k:Nat} {w w':World} {v:Value} {n:Nat} {xs:List Value} (h:SlK k w v n xs) (he:Ext w w'):SlK k w' v n xs:=by
 obtain ⟨h0,a,c,h1,h2,h3,h4⟩:=h
 refine ⟨h0,a,c,h1,h2,h3,h4.imp id fun ⟨b,o,ha,hc⟩=>⟨b,o,ha,fun i hi=>?_⟩⟩
 have:=hc i hi
 rw [List.getElem?_eq_getElem (by omega)] at this ⊢
 exact he.cell this
theorem SlK.len {k:Nat} {w:World} {v:Value} {n:Nat} {xs:List Value} (h:SlK k w v n xs):n ≤ 9223372036854775807:=let ⟨_,_,_,_,h2,h3,_⟩:=h;Nat.le_trans h2 h3
theorem iLenK {k:Nat} {w:World} {v:Value} {n:Nat} {xs:List Value} {K:Value → Prop} (hs:SlK k w v n xs) (h:K (.int .i64 (n:Nat))):xLenS v K:=by
 obtain ⟨_,a,c,rfl,_⟩:=hs;exact ⟨_,_,_,rfl,h⟩
theorem bE (b o i:Nat):(⟨b,o,none⟩:Addr).add i = ⟨b,o + i,none⟩:=by
 simp only [Addr.add];split
 ·rename_i e;simp [e]
 ·rfl
theorem iIaK {sz:Nat} {w:World} {v:Value} {n:Nat} {xs:List Value} {j:Nat} {k:IntKind} {K:Value → Prop} (hs:SlK sz w v n xs) (h1:j < n)
  (h:∀ b o,(∀ i,i < sz → w.cell? ⟨b,o + i,none⟩ = xs[j * sz + i]?) → K (.pointer (some ⟨b,o,none⟩))):xIa sz v (.int k (j:Int)) K:=by
 obtain ⟨h0,a,c,rfl,h2,h3,h4⟩:=hs
 rcases h4 with rfl | ⟨b,o,rfl,hc⟩
 ·omega
 ·refine ⟨_,_,_,_,_,rfl,rfl,by omega,by omega,?_⟩
  rw [Int.toNat_natCast,bE]
  refine h b (o + j * sz) fun i hi=>?_
  rw [Nat.add_assoc]
  refine hc _ ?_
  have:(j + 1) * sz ≤ n * sz:=Nat.mul_le_mul_right _ h1
  rw [Nat.add_mul,Nat.one_mul] at this
  omega
def OwK (k lo:Nat) (e:TypeId) (w:World) (v:Value) (n:Nat) (xs:List Value):Prop:=w.ownsRow lo e k v n xs
theorem OwK.sl {k lo:Nat} {e:TypeId} {w:World} {v:Value} {n:Nat} {xs:List Value} (h:OwK k lo e w v n xs):SlK k w v n xs:=by
 obtain ⟨h0,h | ⟨g,cap,cur,hv,_,hh,h1,h2,h3,h4⟩⟩:=h
 ·obtain ⟨rfl,rfl⟩:=h
  exact ⟨h0,none,0,rfl,Nat.le_refl _,by omega,.inl rfl⟩
 ·refine ⟨h0,_,cap,hv,h1,h2,.inr ⟨g,0,rfl,fun i hi=>?_⟩⟩
  simp only [Nat.zero_add,World.cell?,hh]
  rw [← h4]
  simp only [Option.isSome_none,Bool.false_eq_true,if_false,List.getElem?_take]
  rw [if_pos hi];simp
theorem OwK.ext {k lo:Nat} {e:TypeId} {w w':World} {v:Value} {n:Nat} {xs:List Value} (h:OwK k lo e w v n xs) (he:Ext w w'):OwK k lo e w' v n xs:=by
 obtain ⟨h0,h | ⟨g,cap,cur,hv,hg,hh,h1⟩⟩:=h
 ·exact ⟨h0,.inl h⟩
 ·exact ⟨h0,.inr ⟨g,cap,cur,hv,hg,by rw [Below.block he g (cP hh)];exact hh,h1⟩⟩
theorem OwK.mono {k lo lo':Nat} {e:TypeId} {w:World} {v:Value} {n:Nat} {xs:List Value} (h:OwK k lo e w v n xs) (hl:lo' ≤ lo):OwK k lo' e w v n xs:=by
 obtain ⟨h0,h | ⟨g,cap,cur,hv,hg,hh,h1⟩⟩:=h
 ·exact ⟨h0,.inl h⟩
 ·exact ⟨h0,.inr ⟨g,cap,cur,hv,Nat.le_trans hl hg,hh,h1⟩⟩
theorem OwK.nil (k lo:Nat) (e:TypeId) (w:World):OwK k lo e w (.slice none 0 0) 0 []:=World.ownsRow_nil w lo e k
theorem OwK.blk {k lo:Nat} {e:TypeId} {w:World} {v:Value} {n:Nat} {xs:List Value} (h:OwK k lo e w v n xs):∀ c,v.ownBlock = some c → lo ≤ c ∧ c < w.heap.size:=World.ownsRow.lt h
theorem OwK.len {k lo:Nat} {e:TypeId} {w:World} {v:Value} {n:Nat} {xs:List Value} (h:OwK k lo e w v n xs):xs.length = n * k:=h.1
theorem OwK.ch {S:Nat → Prop} {k lo:Nat} {e:TypeId} {w w':World} {v:Value} {n:Nat} {xs:List Value} (h:OwK k lo e w v n xs) (hc:Ch S w w') (hn:∀ c,v.ownBlock = some c → ¬ S c):OwK k lo e w' v n xs:=by
 obtain ⟨h0,h | ⟨g,cap,cur,hv,hg,hh,h1⟩⟩:=h
 ·exact ⟨h0,.inl h⟩
 ·exact ⟨h0,.inr ⟨g,cap,cur,hv,hg,by rw [hc.block g (cP hh) (hn g (by rw [hv];rfl))];exact hh,h1⟩⟩
theorem OwK.cell {k lo:Nat} {e:TypeId} {w:World} {v:Value} {n:Nat} {xs:List Value} (h:OwK k lo e w v n xs):aC v = true:=by
 obtain ⟨_,h | ⟨g,cap,cur,hv,_⟩⟩:=h
 ·rw [h.1];rfl
 ·rw [hv];rfl
theorem OwK.ty {k lo:Nat} {e:TypeId} {w:World} {v:Value} {n:Nat} {xs:List Value} (h:OwK k lo e w v n xs) {c:Nat} (hc:v.ownBlock = some c):∃ cur,w.heap[c]? = some (.cells cur e (0,0)):=by
 obtain ⟨_,h | ⟨g,cap,cur,hv,hg,hh,h1⟩⟩:=h
 ·rw [h.1] at hc;cases hc
 ·rw [hv] at hc
  cases hc
  exact ⟨cur,hh⟩
theorem OwK.ne_blk {k lo:Nat} {e e':TypeId} {w:World} {v:Value} {n:Nat} {xs cs:List Value} {b:Nat} (h:OwK k lo e w v n xs) (hb:Blk e' w b cs) (hne:e ≠ e'):v.ownBlock ≠ some b:=by
 intro hc
 obtain ⟨cur,h1⟩:=h.ty hc
 unfold Blk at hb
 rw [h1] at hb
 injection hb with hb
 injection hb with _ hb _
 exact hne hb
theorem OwK.ofBlk {k lo:Nat} {e:TypeId} {w:World} {b n:Nat} {cs:List Value} (h:Blk e w b cs) (hl:lo ≤ b) (hn:cs.length = n * k) (hm:n ≤ 9223372036854775807):OwK k lo e w (.slice (some ⟨b,0,none⟩) n n) n cs:=
 ⟨hn,.inr ⟨b,n,cs.toArray,rfl,hl,h,Nat.le_refl _,hm,by simpa using hn,by rw [← hn];simp⟩⟩
theorem Ow.toK {lo:Nat} {e:TypeId} {w:World} {v:Value} {xs:List Value} (h:Ow lo e w v xs):OwK 1 lo e w v xs.length xs:=h
theorem OwK.toOw {lo:Nat} {e:TypeId} {w:World} {v:Value} {n:Nat} {xs:List Value} (h:OwK 1 lo e w v n xs):Ow lo e w v xs:=by
 have:n = xs.length:=by have:=h.1;omega
 subst this;exact h
section
variable {P:Program} {w:World}
theorem iAppK {lo k:Nat} {t ty e:TypeId} {z v x:Value} {bytes n m:Nat} {xs ys:List Value} {K:Value → World → Prop} (ht:P.underlying t = some (.slice e)) (hi:(P.info? e).map (fun i=>(i.zero,i.size,i.bytes)) = some (some z,k,bytes)) (hz:z.cells.size = k) (hk:0 < k)
  (hown:OwK k lo e w v n xs) (hs:SlK k w x m ys) (hy:∀ u ∈ ys,aC u = true) (hb:(n + m) * bytes ≤ 140737488355328) (hm:n + m ≤ 9223372036854775807) (hlo:lo ≤ w.heap.size)
  (h:∀ v' w',OwK k lo e w' v' (n + m) (xs ++ ys) → w.grownBy w' v.ownBlock → (v'.ownBlock = v.ownBlock ∨ ∃ c,v'.ownBlock = some c ∧ w.heap.size ≤ c) → K v' w'):xOp P (Builtin.append_ #[t,t] ty #[v,x]) w K:=by
 obtain ⟨i,hi,h3⟩:=Option.map_eq_some_iff.1 hi
 simp only [Prod.mk.injEq] at h3
 obtain ⟨hz0,hsz,hby⟩:=h3
 obtain ⟨hyl,a,c,rfl,hlc,hcm,hcells⟩:=hs
 have key:∀ ad:Addr,a = some ad → (∀ j u,ys[j]? = some u → w.cell? (ad.add j) = some u) → xOp P (Builtin.append_ #[t,t] ty #[v,.slice a m c]) w K:=by
  rintro ad rfl hnews
  obtain ⟨v',w',h4,h5,h6,_,h7⟩:=run_append_own_at (P:=P) (w:=w) lo t ty e i z k bytes ht hi hz0 hsz hby hz hk v n xs hown ad m c ys hyl hnews (fun u hu=>eF (hy u hu)) (by simpa [maxLen] using hm) hb hlo
  exact ⟨v',w',h4,h v' w' h5 h6 (h7.imp id fun e=>⟨_,e,Nat.le_refl _⟩)⟩
 rcases hcells with rfl | ⟨b,o,rfl,hc⟩
 ·have:ys = []:=List.length_eq_zero_iff.1 (by omega)
  subst this
  cases a with
  | some ad=>exact key ad rfl (fun j u hu=>by simp at hu)
  | none=>
   refine ⟨v,w,?_,h v w (by simpa using hown) (Q8 w _) (.inl rfl)⟩
   rcases hown.2 with ⟨rfl,hn⟩ | ⟨g,cap,cur,rfl,_,_,hnc,_⟩
   ·simp [Builtin.append_,run_underlying ht,sizeOf,typeInfo,hi,Builtin.lenOf,Builtin.firstCells]
   ·simp [Builtin.append_,run_underlying ht,sizeOf,typeInfo,hi,Builtin.lenOf,Builtin.firstCells,hnc,storeCells]
 ·refine key ⟨b,o,none⟩ rfl fun j u hu=>?_
  have hj:j < ys.length:=(List.getElem?_eq_some_iff.1 hu).1
  rw [bE,hc j (by omega),hu]
end
/-! ### Literals of slices; what a call may turn -/
theorem iBs2 {w:World} {e:TypeId} {a b z:Value} {K:Value → World → Prop} (hz:aC z = true) (ha:aC a = true) (hb:aC b = true) (h:∀ c w',c = w.heap.size ∧ w'.heap.size = c + 1 → Ext w w' → Blk e w' c [a,b] → K (.slice (some ⟨c,0,none⟩) 2 2) w'):
  xBs e (Value.cells z) 1 2 [(0,a),(1,b)] w K:=by
 refine ⟨#[a,b],?_,h _ _ ⟨rfl,by simp⟩ (Ext.alloc w _) (Blk.new w #[a,b] e)⟩
 rw [aX hz]
 simp [Instr.fill,aX ha,aX hb,show Array.range 2 = #[0,1] from rfl]
theorem iBs3 {w:World} {e:TypeId} {a b d z:Value} {K:Value → World → Prop} (hz:aC z = true) (ha:aC a = true) (hb:aC b = true) (hd:aC d = true) (h:∀ c w',c = w.heap.size ∧ w'.heap.size = c + 1 → Ext w w' → Blk e w' c [a,b,d] → K (.slice (some ⟨c,0,none⟩) 3 3) w'):
  xBs e (Value.cells z) 1 3 [(0,a),(1,b),(2,d)] w K:=by
 refine ⟨#[a,b,d],?_,h _ _ ⟨rfl,by simp⟩ (Ext.alloc w _) (Blk.new w #[a,b,d] e)⟩
 rw [aX hz]
 simp [Instr.fill,aX ha,aX hb,aX hd,show Array.range 3 = #[0,1,2] from rfl]
theorem iBsA {w:World} {e:TypeId} {z0 z1 x y:Value} {K:Value → World → Prop}     (h:∀ b w',b = w.heap.size ∧ w'.heap.size = b + 1 → Ext w w' → Blk e w' b [x,y] → K (.slice (some ⟨b,0,none⟩) 1 1) w'):
  xBs e (Value.cells (.agg #[z0,z1])) 2 1 [(0,.agg #[x,y])] w K:=by
 refine ⟨#[x,y],?_,h _ _ ⟨rfl,by simp⟩ (Ext.alloc w _) (Blk.new w #[x,y] e)⟩
 simp [Instr.fill,Value.cells,show Array.range 2 = #[0,1] from rfl]
theorem iBsA0 {w:World} {e:TypeId} {z0 z1:Value} {K:Value → World → Prop}
  (h:∀ v w',w'.heap.size = w.heap.size + 1 → Ext w w' → OwK 2 w.heap.size e w' v 0 [] → K v w'):xBs e (Value.cells (.agg #[z0,z1])) 2 0 [] w K:=by
 refine ⟨_,rfl,h _ _ (by simp) (Ext.alloc w _) ?_⟩
 exact ⟨rfl,.inr ⟨w.heap.size,0,_,rfl,Nat.le_refl _,heap_alloc_new w _,Nat.le_refl _,by simp [maxLen],by simp [show Array.range 0 = #[] from rfl],rfl⟩⟩
theorem aA {b:Nat} {w w' w'':World} (h:Ch (fun c=>c = b) w w') (k:Ch (fun c=>c = b) w' w''):Ch (fun c=>c = b) w w'':=h.trans k fun _ h=>.inl h
theorem aM {b:Nat} {w w' w'':World} (h:Ch (fun c=>c = b) w w') (k:Ext w' w''):Ch (fun c=>c = b) w w'':=h.trans (k.ch (S:=fun _=>False)) fun _ h=>h.elim
end Go.Vc

namespace Go.Vc
inductive Fm:Type
 | var (v:Nat):Fm
 | fls:Fm
 | and (a b:Fm):Fm
 | or (a b:Fm):Fm
 | imp (a b:Fm):Fm
 | box (a:Fm):Fm
 | dia (a:Fm):Fm
abbrev nd (k s:Nat):List Value:=[.int .i64 (k:Int),.int .i64 (s:Int)]
def Fm.cells:Fm → List Value
 | .var v=>nd 0 v
 | .fls=>nd 1 0
 | .and a b=>nd 2 0 ++ a.cells ++ b.cells
 | .or a b=>nd 3 0 ++ a.cells ++ b.cells
 | .imp a b=>nd 4 0 ++ a.cells ++ b.cells
 | .box a=>nd 5 0 ++ a.cells
 | .dia a=>nd 6 0 ++ a.cells
def Fm.size:Fm → Nat
 | .var _=>1
 | .fls=>1
 | .and a b=>1 + a.size + b.size
 | .or a b=>1 + a.size + b.size
 | .imp a b=>1 + a.size + b.size
 | .box a=>1 + a.size
 | .dia a=>1 + a.size
theorem Fm.size_pos (a:Fm):1 ≤ a.size:=by cases a <;> simp only [Fm.size] <;> omega
theorem Fm.cells_len:∀ a:Fm,a.cells.length = a.size * 2
 | .var _=>rfl
 | .fls=>rfl
 | .and a b=>by have:=a.cells_len;have:=b.cells_len;simp only [Fm.cells,Fm.size,nd,List.length_append,List.length_cons,List.length_nil];omega
 | .or a b=>by have:=a.cells_len;have:=b.cells_len;simp only [Fm.cells,Fm.size,nd,List.length_append,List.length_cons,List.length_nil];omega
 | .imp a b=>by have:=a.cells_len;have:=b.cells_len;simp only [Fm.cells,Fm.size,nd,List.length_append,List.length_cons,List.length_nil];omega
 | .box a=>by have:=a.cells_len;simp only [Fm.cells,Fm.size,nd,List.length_append,List.length_cons,List.length_nil];omega
 | .dia a=>by have:=a.cells_len;simp only [Fm.cells,Fm.size,nd,List.length_append,List.length_cons,List.length_nil];omega
theorem Fm.cells_cell:∀ (a:Fm),∀ u ∈ a.cells,aC u = true
 | .var _=>by simp [Fm.cells,nd,aC]
 | .fls=>by simp [Fm.cells,nd,aC]
 | .and a b=>by have h1:=a.cells_cell;have h2:=b.cells_cell;intro u hu;simp only [Fm.cells,nd,List.mem_append,List.mem_cons,List.not_mem_nil,or_false] at hu;rcases hu with ((rfl | rfl) | h) | h <;> first | rfl | exact h1 _ h | exact h2 _ h
 | .or a b=>by have h1:=a.cells_cell;have h2:=b.cells_cell;intro u hu;simp only [Fm.cells,nd,List.mem_append,List.mem_cons,List.not_mem_nil,or_false] at hu;rcases hu with ((rfl | rfl) | h) | h <;> first | rfl | exact h1 _ h | exact h2 _ h
 | .imp a b=>by have h1:=a.cells_cell;have h2:=b.cells_cell;intro u hu;simp only [Fm.cells,nd,List.mem_append,List.mem_cons,List.not_mem_nil,or_false] at hu;rcases hu with ((rfl | rfl) | h) | h <;> first | rfl | exact h1 _ h | exact h2 _ h
 | .box a=>by have h1:=a.cells_cell;intro u hu;simp only [Fm.cells,nd,List.mem_append,List.mem_cons,List.not_mem_nil,or_false] at hu;rcases hu with (rfl | rfl) | h <;> first | rfl | exact h1 _ h
 | .dia a=>by have h1:=a.cells_cell;intro u hu;simp only [Fm.cells,nd,List.mem_append,List.mem_cons,List.not_mem_nil,or_false] at hu;rcases hu with (rfl | rfl) | h <;> first | rfl | exact h1 _ h

/-! ### The reader -/
abbrev RSt:=Str × Bool
def tk (c:UInt8) (s:RSt):Bool:=!s.2 && decide (s.1.head? = some c)
def nx (s:RSt):RSt:=(s.1.tail,false)
def ndd (c:UInt8) (s:RSt):RSt:=if tk c s then nx s else (s.1,true)
def prs:Nat → Nat → Fm → RSt → Fm × RSt
 | 0,_,a,s=>(a,s)
 | n + 1,0,_,s=>
  if tk 62 (prs n 1 .fls s).2 then (.imp (prs n 1 .fls s).1 (prs n 0 .fls (nx (prs n 1 .fls s).2)).1,(prs n 0 .fls (nx (prs n 1 .fls s).2)).2)
  else prs n 1 .fls s
 | n + 1,1,_,s=>prs n 4 (prs n 2 .fls s).1 (prs n 2 .fls s).2
 | n + 1,2,_,s=>prs n 5 (prs n 3 .fls s).1 (prs n 3 .fls s).2
 | n + 1,3,_,s=>
  if tk 126 s then (.imp (prs n 3 .fls (nx s)).1 .fls,(prs n 3 .fls (nx s)).2)
  else if tk 91 s then (.box (prs n 3 .fls (ndd 93 (nx s))).1,(prs n 3 .fls (ndd 93 (nx s))).2)
  else if tk 60 s then (.dia (prs n 3 .fls (ndd 62 (nx s))).1,(prs n 3 .fls (ndd 62 (nx s))).2)
  else if tk 70 s then (.fls,nx s)
  else if tk 84 s then (.imp .fls .fls,nx s)
  else if tk 40 s then ((prs n 0 .fls (nx s)).1,ndd 41 (prs n 0 .fls (nx s)).2)
  else if tk 112 s then (.var 0,nx s)
  else if tk 113 s then (.var 1,nx s)
  else if tk 114 s then (.var 2,nx s)
  else if tk 115 s then (.var 3,nx s)
  else if tk 116 s then (.var 4,nx s)
  else if tk 117 s then (.var 5,nx s)
  else (.fls,(s.1,true))
 | n + 1,4,a,s=>if tk 124 s then prs n 4 (.or a (prs n 2 .fls (nx s)).1) (prs n 2 .fls (nx s)).2 else (a,s)
 | n + 1,_,a,s=>if tk 38 s then prs n 5 (.and a (prs n 3 .fls (nx s)).1) (prs n 3 .fls (nx s)).2 else (a,s)
theorem RP {c d:UInt8} {s:RSt} (h:tk c s = true) (hne:c ≠ d):tk d s = false:=by
 simp only [tk,Bool.and_eq_true,decide_eq_true_eq,Bool.not_eq_true'] at h
 simp only [tk,h.1,h.2,Bool.not_false,Bool.true_and,decide_eq_false_iff_not,Option.some.injEq]
 exact hne
theorem aFI {c:UInt8} {s:RSt} (h:tk c s = true):s.2 = false:=by
 simp only [tk,Bool.and_eq_true,Bool.not_eq_true'] at h;exact h.1
theorem aDJ {c:UInt8} {s:RSt} (h:tk c s = true):s.1 = c :: (nx s).1:=by
 simp only [tk,Bool.and_eq_true,decide_eq_true_eq] at h
 obtain ⟨l,b⟩:=s
 cases l with
 | nil=>simp at h
 | cons x t=>simp at h;simp [nx,h.2]
theorem aY {c:UInt8} {s:RSt} (h:tk c s = true):(nx s).1.length + 1 = s.1.length:=by rw [aDJ h];simp [nx]
theorem lI (c:UInt8) (s:RSt):(ndd c s).1.length ≤ s.1.length:=by
 unfold ndd;split
 ·simp [nx]
 ·exact Nat.le_refl _
theorem prs_0 (n:Nat) (a:Fm) (s:RSt):prs (n + 1) 0 a s = if tk 62 (prs n 1 .fls s).2 then (.imp (prs n 1 .fls s).1 (prs n 0 .fls (nx (prs n 1 .fls s).2)).1,(prs n 0 .fls (nx (prs n 1 .fls s).2)).2) else prs n 1 .fls s:=by rw [prs]
theorem prs_1 (n:Nat) (a:Fm) (s:RSt):prs (n + 1) 1 a s = prs n 4 (prs n 2 .fls s).1 (prs n 2 .fls s).2:=by rw [prs]
theorem prs_2 (n:Nat) (a:Fm) (s:RSt):prs (n + 1) 2 a s = prs n 5 (prs n 3 .fls s).1 (prs n 3 .fls s).2:=by rw [prs]
theorem prs_4 (n:Nat) (a:Fm) (s:RSt):prs (n + 1) 4 a s = if tk 124 s then prs n 4 (.or a (prs n 2 .fls (nx s)).1) (prs n 2 .fls (nx s)).2 else (a,s):=by rw [prs]
theorem prs_5 (n k:Nat) (a:Fm) (s:RSt):prs (n + 1) (k + 5) a s = if tk 38 s then prs n 5 (.and a (prs n 3 .fls (nx s)).1) (prs n 3 .fls (nx s)).2 else (a,s):=by rw [prs] <;> omega
def vl (v:Nat):UInt8:=UInt8.ofNat (112 + v)
theorem prs_3 {Q:Fm × RSt → Prop} {n:Nat} {a:Fm} {s:RSt} (h1:tk 126 s = true → Q (.imp (prs n 3 .fls (nx s)).1 .fls,(prs n 3 .fls (nx s)).2))
  (h2:tk 91 s = true → Q (.box (prs n 3 .fls (ndd 93 (nx s))).1,(prs n 3 .fls (ndd 93 (nx s))).2)) (h3:tk 60 s = true → Q (.dia (prs n 3 .fls (ndd 62 (nx s))).1,(prs n 3 .fls (ndd 62 (nx s))).2))
  (h4:tk 70 s = true → Q (.fls,nx s)) (h5:tk 84 s = true → Q (.imp .fls .fls,nx s)) (h6:tk 40 s = true → Q ((prs n 0 .fls (nx s)).1,ndd 41 (prs n 0 .fls (nx s)).2))
  (h7:∀ v,v < 6 → tk (vl v) s = true → Q (.var v,nx s)) (h8:tk 126 s = false → tk 91 s = false → tk 60 s = false → tk 70 s = false → tk 84 s = false → tk 40 s = false → (∀ v,v < 6 → tk (vl v) s = false) → Q (.fls,(s.1,true))):Q (prs (n + 1) 3 a s):=by
 rw [prs]
 by_cases c1:tk 126 s = true
 ·rw [if_pos c1];exact h1 c1
 rw [if_neg c1]
 by_cases c2:tk 91 s = true
 ·rw [if_pos c2];exact h2 c2
 rw [if_neg c2]
 by_cases c3:tk 60 s = true
 ·rw [if_pos c3];exact h3 c3
 rw [if_neg c3]
 by_cases c4:tk 70 s = true
 ·rw [if_pos c4];exact h4 c4
 rw [if_neg c4]
 by_cases c5:tk 84 s = true
 ·rw [if_pos c5];exact h5 c5
 rw [if_neg c5]
 by_cases c6:tk 40 s = true
 ·rw [if_pos c6];exact h6 c6
 rw [if_neg c6]
 by_cases d0:tk 112 s = true
 ·rw [if_pos d0];exact h7 0 (by omega) d0
 rw [if_neg d0]
 by_cases d1:tk 113 s = true
 ·rw [if_pos d1];exact h7 1 (by omega) d1
 rw [if_neg d1]
 by_cases d2:tk 114 s = true
 ·rw [if_pos d2];exact h7 2 (by omega) d2
 rw [if_neg d2]
 by_cases d3:tk 115 s = true
 ·rw [if_pos d3];exact h7 3 (by omega) d3
 rw [if_neg d3]
 by_cases d4:tk 116 s = true
 ·rw [if_pos d4];exact h7 4 (by omega) d4
 rw [if_neg d4]
 by_cases d5:tk 117 s = true
 ·rw [if_pos d5];exact h7 5 (by omega) d5
 rw [if_neg d5]
 refine h8 (Bool.eq_false_iff.2 c1) (Bool.eq_false_iff.2 c2) (Bool.eq_false_iff.2 c3) (Bool.eq_false_iff.2 c4) (Bool.eq_false_iff.2 c5) (Bool.eq_false_iff.2 c6) fun v hv=>?_
 have:v = 0 ∨ v = 1 ∨ v = 2 ∨ v = 3 ∨ v = 4 ∨ v = 5:=by omega
 rcases this with rfl | rfl | rfl | rfl | rfl | rfl
 ·exact Bool.eq_false_iff.2 d0
 ·exact Bool.eq_false_iff.2 d1
 ·exact Bool.eq_false_iff.2 d2
 ·exact Bool.eq_false_iff.2 d3
 ·exact Bool.eq_false_iff.2 d4
 ·exact Bool.eq_false_iff.2 d5
theorem cZ:∀ (n lv:Nat) (a:Fm) (s:RSt),(prs n lv a s).1.size + 3 * (prs n lv a s).2.1.length ≤ a.size + 3 * s.1.length
 | 0,_,_,_=>Nat.le_refl _
 | n + 1,0,a,s=>by
  have hp:=a.size_pos
  have h1:=cZ n 1 .fls s
  have h2:=cZ n 0 .fls (nx (prs n 1 .fls s).2)
  have e:Fm.fls.size = 1:=rfl
  rw [prs_0]
  by_cases h:tk 62 (prs n 1 .fls s).2 = true
  ·rw [if_pos h]
   have:=aY h
   show 1 + _ + _ + 3 * (prs n 0 .fls (nx (prs n 1 .fls s).2)).2.1.length ≤ _
   omega
  ·rw [if_neg h];omega
 | n + 1,1,a,s=>by
  have hp:=a.size_pos
  have h1:=cZ n 2 .fls s
  have h2:=cZ n 4 (prs n 2 .fls s).1 (prs n 2 .fls s).2
  have e:Fm.fls.size = 1:=rfl
  rw [prs_1];omega
 | n + 1,2,a,s=>by
  have hp:=a.size_pos
  have h1:=cZ n 3 .fls s
  have h2:=cZ n 5 (prs n 3 .fls s).1 (prs n 3 .fls s).2
  have e:Fm.fls.size = 1:=rfl
  rw [prs_2];omega
 | n + 1,3,a,s=>by
  have hp:=a.size_pos
  have e:Fm.fls.size = 1:=rfl
  refine prs_3 (Q:=fun r=>r.1.size + 3 * r.2.1.length ≤ a.size + 3 * s.1.length) (fun h=>?_) (fun h=>?_) (fun h=>?_) (fun h=>?_) (fun h=>?_) (fun h=>?_) (fun v _ h=>?_) (fun _ _ _ _ _ _ _=>?_)
  ·have h1:=cZ n 3 .fls (nx s)
   have:=aY h
   show 1 + _ + 1 + 3 * (prs n 3 .fls (nx s)).2.1.length ≤ _
   omega
  ·have h1:=cZ n 3 .fls (ndd 93 (nx s))
   have:=aY h
   have:=lI 93 (nx s)
   show 1 + _ + 3 * (prs n 3 .fls (ndd 93 (nx s))).2.1.length ≤ _
   omega
  ·have h1:=cZ n 3 .fls (ndd 62 (nx s))
   have:=aY h
   have:=lI 62 (nx s)
   show 1 + _ + 3 * (prs n 3 .fls (ndd 62 (nx s))).2.1.length ≤ _
   omega
  ·have:=aY h
   show 1 + 3 * (nx s).1.length ≤ _
   omega
  ·have:=aY h
   show 1 + 1 + 1 + 3 * (nx s).1.length ≤ _
   omega
  ·have h1:=cZ n 0 .fls (nx s)
   have:=aY h
   have:=lI 41 (prs n 0 .fls (nx s)).2
   show (prs n 0 .fls (nx s)).1.size + 3 * (ndd 41 (prs n 0 .fls (nx s)).2).1.length ≤ _
   omega
  ·have:=aY h
   show 1 + 3 * (nx s).1.length ≤ _
   omega
  ·show 1 + 3 * s.1.length ≤ _
   omega
 | n + 1,4,a,s=>by
  have h1:=cZ n 2 .fls (nx s)
  have h2:=cZ n 4 (.or a (prs n 2 .fls (nx s)).1) (prs n 2 .fls (nx s)).2
  have e:Fm.fls.size = 1:=rfl
  have e2:(Fm.or a (prs n 2 .fls (nx s)).1).size = 1 + a.size + (prs n 2 .fls (nx s)).1.size:=rfl
  rw [prs_4]
  by_cases h:tk 124 s = true
  ·rw [if_pos h]
   have:=aY h
   omega
  ·rw [if_neg h];exact Nat.le_refl _
 | n + 1,k + 5,a,s=>by
  have h1:=cZ n 3 .fls (nx s)
  have h2:=cZ n 5 (.and a (prs n 3 .fls (nx s)).1) (prs n 3 .fls (nx s)).2
  have e:Fm.fls.size = 1:=rfl
  have e2:(Fm.and a (prs n 3 .fls (nx s)).1).size = 1 + a.size + (prs n 3 .fls (nx s)).1.size:=rfl
  rw [prs_5]
  by_cases h:tk 38 s = true
  ·rw [if_pos h]
   have:=aY h
   omega
  ·rw [if_neg h];exact Nat.le_refl _
theorem kE (s:RSt):(nx s).1 <:+ s.1:=List.tail_suffix _
theorem S0 (c:UInt8) (s:RSt):(ndd c s).1 <:+ s.1:=by
 unfold ndd;split
 ·exact kE s
 ·exact List.suffix_refl _
theorem bI:∀ (n lv:Nat) (a:Fm) (s:RSt),(prs n lv a s).2.1 <:+ s.1
 | 0,_,_,_=>List.suffix_refl _
 | n + 1,0,a,s=>by
  have h1:=bI n 1 .fls s
  rw [prs_0]
  by_cases h:tk 62 (prs n 1 .fls s).2 = true
  ·rw [if_pos h];exact (bI n 0 .fls _).trans ((kE _).trans h1)
  ·rw [if_neg h];exact h1
 | n + 1,1,a,s=>by rw [prs_1];exact (bI n 4 _ _).trans (bI n 2 .fls s)
 | n + 1,2,a,s=>by rw [prs_2];exact (bI n 5 _ _).trans (bI n 3 .fls s)
 | n + 1,3,a,s=>
  prs_3 (Q:=fun r=>r.2.1 <:+ s.1) (fun _=>(bI n 3 .fls _).trans (kE s)) (fun _=>(bI n 3 .fls _).trans ((S0 _ _).trans (kE s))) (fun _=>(bI n 3 .fls _).trans ((S0 _ _).trans (kE s)))
   (fun _=>kE s) (fun _=>kE s) (fun _=>(S0 _ _).trans ((bI n 0 .fls _).trans (kE s))) (fun _ _ _=>kE s) (fun _ _ _ _ _ _ _=>List.suffix_refl _)
 | n + 1,4,a,s=>by
  rw [prs_4]
  by_cases h:tk 124 s = true
  ·rw [if_pos h];exact (bI n 4 _ _).trans ((bI n 2 .fls _).trans (kE s))
  ·rw [if_neg h];exact List.suffix_refl _
 | n + 1,k + 5,a,s=>by
  rw [prs_5]
  by_cases h:tk 38 s = true
  ·rw [if_pos h];exact (bI n 5 _ _).trans ((bI n 3 .fls _).trans (kE s))
  ·rw [if_neg h];exact List.suffix_refl _
def Fm.good:Fm → Prop
 | .var v=>v < 6
 | .fls=>True
 | .and a b=>a.good ∧ b.good
 | .or a b=>a.good ∧ b.good
 | .imp a b=>a.good ∧ b.good
 | .box a=>a.good
 | .dia a=>a.good
theorem cO:∀ (n lv:Nat) (a:Fm) (s:RSt),a.good → (prs n lv a s).1.good
 | 0,_,_,_,h=>h
 | n + 1,0,a,s,_=>by
  have h1:=cO n 1 .fls s trivial
  rw [prs_0]
  by_cases h:tk 62 (prs n 1 .fls s).2 = true
  ·rw [if_pos h];exact ⟨h1,cO n 0 .fls _ trivial⟩
  ·rw [if_neg h];exact h1
 | n + 1,1,a,s,_=>by rw [prs_1];exact cO n 4 _ _ (cO n 2 .fls s trivial)
 | n + 1,2,a,s,_=>by rw [prs_2];exact cO n 5 _ _ (cO n 3 .fls s trivial)
 | n + 1,3,a,s,_=>
  prs_3 (Q:=fun r=>r.1.good) (fun _=>⟨cO n 3 .fls _ trivial,trivial⟩) (fun _=>cO n 3 .fls _ trivial) (fun _=>cO n 3 .fls _ trivial) (fun _=>trivial) (fun _=>⟨trivial,trivial⟩)
   (fun _=>cO n 0 .fls _ trivial) (fun _ hv _=>hv) (fun _ _ _ _ _ _ _=>trivial)
 | n + 1,4,a,s,hg=>by
  rw [prs_4]
  by_cases h:tk 124 s = true
  ·rw [if_pos h];exact cO n 4 _ _ ⟨hg,cO n 2 .fls _ trivial⟩
  ·rw [if_neg h];exact hg
 | n + 1,k + 5,a,s,hg=>by
  rw [prs_5]
  by_cases h:tk 38 s = true
  ·rw [if_pos h];exact cO n 5 _ _ ⟨hg,cO n 3 .fls _ trivial⟩
  ·rw [if_neg h];exact hg
def fl (lv:Nat):Nat:=match lv with
 | 0=>4
 | 1=>3
 | 2=>2
 | _=>1
theorem dL:∀ (n lv:Nat) (a:Fm) (s:RSt),8 * s.1.length + fl lv ≤ n → prs (n + 1) lv a s = prs n lv a s
 | 0,lv,_,s,h=>by
  exfalso
  have:1 ≤ fl lv:=by unfold fl;split <;> omega
  omega
 | n + 1,0,a,s,h=>by
  have hf:fl 0 = 4:=rfl
  have hf1:fl 1 = 3:=rfl
  have e1:=dL n 1 .fls s (by omega)
  have hs:=(bI n 1 .fls s).length_le
  rw [prs_0 (n + 1) a s,prs_0 n a s,e1]
  by_cases hk:tk 62 (prs n 1 .fls s).2 = true
  ·rw [if_pos hk,if_pos hk]
   have:=aY hk
   rw [dL n 0 .fls _ (by omega)]
  ·rw [if_neg hk,if_neg hk]
 | n + 1,1,a,s,h=>by
  have hf:fl 1 = 3:=rfl
  have hf1:fl 2 = 2:=rfl
  have hf2:fl 4 = 1:=rfl
  have e1:=dL n 2 .fls s (by omega)
  have hs:=(bI n 2 .fls s).length_le
  rw [prs_1 (n + 1) a s,prs_1 n a s,e1,dL n 4 _ _ (by omega)]
 | n + 1,2,a,s,h=>by
  have hf:fl 2 = 2:=rfl
  have hf1:fl 3 = 1:=rfl
  have hf2:fl 5 = 1:=rfl
  have e1:=dL n 3 .fls s (by omega)
  have hs:=(bI n 3 .fls s).length_le
  rw [prs_2 (n + 1) a s,prs_2 n a s,e1,dL n 5 _ _ (by omega)]
 | n + 1,3,a,s,h=>by
  have hf:fl 3 = 1:=rfl
  have hf0:fl 0 = 4:=rfl
  have key:∀ c,tk c s = true → prs (n + 1) 3 .fls (nx s) = prs n 3 .fls (nx s) ∧ prs (n + 1) 0 .fls (nx s) = prs n 0 .fls (nx s) ∧ ∀ d,prs (n + 1) 3 .fls (ndd d (nx s)) = prs n 3 .fls (ndd d (nx s)):=fun c hc=>by
   have:=aY hc
   refine ⟨dL n 3 .fls _ (by omega),dL n 0 .fls _ (by omega),fun d=>dL n 3 .fls _ ?_⟩
   have:=lI d (nx s)
   omega
  have no:∀ {c d:UInt8},tk c s = true → c ≠ d → tk d s = false:=fun h h'=>RP h h'
  refine prs_3 (n:=n + 1) (Q:=fun r=>r = prs (n + 1) 3 a s) (fun h=>?_) (fun h=>?_) (fun h=>?_) (fun h=>?_) (fun h=>?_) (fun h=>?_) (fun v hv h=>?_) (fun h1 h2 h3 h4 h5 h6 h7=>?_)
  ·rw [(key _ h).1,prs,if_pos h]
  ·rw [(key _ h).2.2,prs,no (d:=126) h (by decide),h];rfl
  ·rw [(key _ h).2.2,prs,no (d:=126) h (by decide),no (d:=91) h (by decide),h];rfl
  ·rw [prs,no (d:=126) h (by decide),no (d:=91) h (by decide),no (d:=60) h (by decide),h];rfl
  ·rw [prs,no (d:=126) h (by decide),no (d:=91) h (by decide),no (d:=60) h (by decide),no (d:=70) h (by decide),h];rfl
  ·rw [(key _ h).2.1,prs,no (d:=126) h (by decide),no (d:=91) h (by decide),no (d:=60) h (by decide),no (d:=70) h (by decide),no (d:=84) h (by decide),h];rfl
  ·have hv:v = 0 ∨ v = 1 ∨ v = 2 ∨ v = 3 ∨ v = 4 ∨ v = 5:=by omega
   have e:∀ d:UInt8,vl v ≠ d → tk d s = false:=fun d hd=>no h hd
   rw [prs]
   rcases hv with rfl | rfl | rfl | rfl | rfl | rfl
   ·rw [e 126 (by decide),e 91 (by decide),e 60 (by decide),e 70 (by decide),e 84 (by decide),e 40 (by decide),show tk 112 s = true from h];rfl
   ·rw [e 126 (by decide),e 91 (by decide),e 60 (by decide),e 70 (by decide),e 84 (by decide),e 40 (by decide),e 112 (by decide),show tk 113 s = true from h];rfl
   ·rw [e 126 (by decide),e 91 (by decide),e 60 (by decide),e 70 (by decide),e 84 (by decide),e 40 (by decide),e 112 (by decide),e 113 (by decide),show tk 114 s = true from h];rfl
   ·rw [e 126 (by decide),e 91 (by decide),e 60 (by decide),e 70 (by decide),e 84 (by decide),e 40 (by decide),e 112 (by decide),e 113 (by decide),e 114 (by decide),show tk 115 s = true from h];rfl
   ·rw [e 126 (by decide),e 91 (by decide),e 60 (by decide),e 70 (by decide),e 84 (by decide),e 40 (by decide),e 112 (by decide),e 113 (by decide),e 114 (by decide),e 115 (by decide),show tk 116 s = true from h];rfl
   ·rw [e 126 (by decide),e 91 (by decide),e 60 (by decide),e 70 (by decide),e 84 (by decide),e 40 (by decide),e 112 (by decide),e 113 (by decide),e 114 (by decide),e 115 (by decide),e 116 (by decide),show tk 117 s = true from h];rfl
  ·rw [prs,h1,h2,h3,h4,h5,h6,show tk 112 s = false from h7 0 (by omega),show tk 113 s = false from h7 1 (by omega),show tk 114 s = false from h7 2 (by omega),show tk 115 s = false from h7 3 (by omega),show tk 116 s = false from h7 4 (by omega),show tk 117 s = false from h7 5 (by omega)];rfl
 | n + 1,4,a,s,h=>by
  have hf:fl 4 = 1:=rfl
  have hf1:fl 2 = 2:=rfl
  rw [prs_4 (n + 1) a s,prs_4 n a s]
  by_cases hk:tk 124 s = true
  ·rw [if_pos hk,if_pos hk]
   have:=aY hk
   have e1:=dL n 2 .fls (nx s) (by omega)
   have hs:=(bI n 2 .fls (nx s)).length_le
   rw [e1,dL n 4 _ _ (by omega)]
  ·rw [if_neg hk,if_neg hk]
 | n + 1,k + 5,a,s,h=>by
  have hf:fl (k + 5) = 1:=rfl
  have hf1:fl 3 = 1:=rfl
  have hf5:fl 5 = 1:=rfl
  rw [prs_5 (n + 1) k a s,prs_5 n k a s]
  by_cases hk:tk 38 s = true
  ·rw [if_pos hk,if_pos hk]
   have:=aY hk
   have e1:=dL n 3 .fls (nx s) (by omega)
   have hs:=(bI n 3 .fls (nx s)).length_le
   rw [e1,dL n 5 _ _ (by omega)]
  ·rw [if_neg hk,if_neg hk]
theorem aCW {n m lv:Nat} {a:Fm} {s:RSt} (h:8 * s.1.length + fl lv ≤ n) (hm:n ≤ m):prs m lv a s = prs n lv a s:=by
 induction hm with
 | refl=>rfl
 | step hm ih=>rw [dL _ _ _ _ (Nat.le_trans h hm),ih]
def rd (t:Str):Fm × RSt:=prs (8 * t.length + 4) 0 .fls (t,false)
end Go.Vc

namespace Go.Vc
section
variable {P:Program} {w:World}
theorem iAppZ {k n bytes:Nat} {t ti ty e:TypeId} {z:Value} {K:Value → World → Prop} (ht:P.underlying t = some (.slice e)) (hti:P.underlying ti = some (.int .i64)) (hi:(P.info? e).map (fun i=>(i.zero,i.size,i.bytes)) = some (some z,k,bytes)) (hz:z.cells.size = k)
  (h0:0 < n) (hb:n * bytes ≤ 140737488355328) (hm:n ≤ 9223372036854775807)
  (h:∀ b c w' cs,n ≤ c → c ≤ 9223372036854775807 → cs.length = c * k → Ext w w' → b = w.heap.size → Blk e w' b cs → K (.slice (some ⟨b,0,none⟩) n c) w'):xOp P (Builtin.append_ #[t,ti] ty #[.slice none 0 0,.int .i64 (n:Int)]) w K:=by
 obtain ⟨i,hi',h3⟩:=Option.map_eq_some_iff.1 hi
 clear hi
 simp only [Prod.mk.injEq] at h3
 obtain ⟨hz0,hsz,hby⟩:=h3
 subst hsz
 subst hby
 have hn:n ≠ 0:=by omega
 have hw:IntKind.i64.wrap (n:Int) = (n:Int):=IntWalk.i64_in _ (by omega)
 have h63':¬ (9223372036854775807 < (n:Int)):=by omega
 have h48:¬ ((281474976710656:Int) < (n:Int) * (i.bytes:Int)):=by
  have:(n:Int) * (i.bytes:Int) = ((n * i.bytes:Nat):Int):=by simp
  rw [this];omega
 have h48':¬ (281474976710656 < Builtin.nextslicecap n 0 * i.bytes):=by rw [nextslicecap_zero h0];omega
 have hneg:¬ ((n:Int) < 0):=by omega
 have hge:=grownCap_ge w n 0 e
 have hcm:=grownCap_le_maxLen w n 0 e (by simpa [maxLen] using hm)
 have hrun:(Builtin.append_ #[t,ti] ty #[.slice none 0 0,.int .i64 (n:Int)]).run P w =
   .ok (.slice (some ⟨w.heap.size,0,none⟩) n (grownCap w n 0 e)) (w.drew.alloc (.cells ((if n * i.size = 0 then #[] else Builtin.zeroCells z.cells n) ++ Builtin.zeroCells z.cells (grownCap w n 0 e - n)) e)):=by
  by_cases hk:n * i.size = 0
  ·simp [Builtin.append_,run_underlying ht,run_underlying hti,sizeOf,typeInfo,zeroValue,hi',hz0,asInt,asIntOf,hw,hneg,hn,h63',h48,h48',hk,Question.forced,run_firstCells_none,newRow,grownCap]
  ·simp [Builtin.append_,run_underlying ht,run_underlying hti,sizeOf,typeInfo,zeroValue,hi',hz0,asInt,asIntOf,hw,hneg,hn,h63',h48,h48',hk,Question.forced,run_firstCells_none,newRow,grownCap]
 refine ⟨_,_,hrun,?_⟩
 have hB:=Blk.new w.drew ((if n * i.size = 0 then #[] else Builtin.zeroCells z.cells n) ++ Builtin.zeroCells z.cells (grownCap w n 0 e - n)) e
 refine h _ _ _ _ hge (by simpa [maxLen] using hcm) ?_ ((Ext.drew w).trans (Ext.alloc _ _)) rfl hB
 rw [Array.length_toList,Array.size_append,size_zeroCells,hz]
 by_cases hk:n * i.size = 0
 ·rw [if_pos hk]
  have:i.size = 0:=by
   rcases Nat.mul_eq_zero.1 hk with h | h
   ·omega
   ·exact h
  rw [this];simp
 ·rw [if_neg hk,size_zeroCells,hz,← Nat.add_mul]
  congr 1;omega
theorem iCapL {t ty:TypeId} {e:TypeId} {a:Option Addr} {n c:Nat} {K:Value → Prop} (ht:P.underlying t = some (.slice e)) (h:K (.int .i64 (c:Int))):xR P w (Builtin.cap_ #[t] ty #[.slice a n c]) K:=
 ⟨_,fun w' _=>by simp [Builtin.cap_,run_underlying ht,goInt],h⟩
theorem nB (l:List Nat) {i:Nat} (h:i < l.length):(l.take (i + 1)).sum = (l.take i).sum + l[i]:=by
 rw [List.take_succ_eq_append_getElem h,List.sum_append];simp
theorem jP (l:List Nat) (i:Nat):(l.take i).sum ≤ l.sum:=by
 have:=congrArg List.sum (List.take_append_drop i l)
 rw [List.sum_append] at this;omega
end
end Go.Vc
namespace Go.Proofs.YteifjhpddhppcaaGreatDoor
open Go.Vc
abbrev a8:Nat:=2
abbrev zF:=eO
abbrev bA:=aE
theorem dY:Tryz.prog.underlying zF = some (.slice bA):=eN
theorem lV:(Tryz.prog.info? bA).map (fun i=>(i.zero,i.size,i.bytes)) = some (some (.agg #[.int .i64 0,.int .i64 0]),a8,16):=eR
abbrev cG:Nat:=1
abbrev L7:=T2
abbrev cF:=aB
theorem iG:Tryz.prog.underlying L7 = some (.slice cF):=kZ
theorem vU:(Tryz.prog.info? cF).map (fun i=>(i.zero,i.size,i.bytes)) = some (some (.string ⟨#[]⟩),cG,16):=kT
theorem sA (n:Nat) (hn:n ≤ 1099511627776) (w:World):Cal Tryz.prog fD #[.slice none 0 0,.int .i64 (n:Int)] w fun r w'=>Ext w w' ∧ OwK a8 w.heap.size bA w' r 0 []:=by
 apply mD;unfold fG
 ((with_reducible refine iLt ?_;refine iJn ?_))
 refine iCndP (fun h=>by omega) (fun _=>?_)
 intro _
 refine iCapL (e:=bA) dY ?_
 ((with_reducible refine iLenL ?_);refine iSub (by omega) ?_;refine iSub (by omega) ?_;(with_reducible refine iLt ?_))
 refine iCndP (fun h=>?_) (fun _=>⟨Ext.refl w,OwK.nil _ _ _ _⟩)
 refine iCapL (e:=bA) dY ?_
 refine ⟨none,0,0,0,0,rfl,⟨_,rfl⟩,rfl,Nat.le_refl _,Nat.le_refl _,?_⟩
 have e1:(n:Int) - (((0:Nat):Int) - ((0:Nat):Int)) = (n:Int):=by omega
 rw [e1]
 refine iAppZ (k:=a8) dY (by kernel_rfl) lV rfl (by omega) (by omega) (by omega) fun b c w' cs hnc hcm hcl hX hb hB=>?_
 ((with_reducible refine iLenL ?_))
 refine ⟨some ⟨b,0,none⟩,n,c,0,0,rfl,⟨_,rfl⟩,rfl,Nat.le_refl _,Nat.zero_le _,?_⟩
 rw [if_neg (by omega)]
 refine ⟨hX,?_⟩
 have e2:(some (⟨b,0,none⟩:Addr)).map (·.add (0 * a8)) = some ⟨b,0,none⟩:=by simp [Addr.add]
 rw [e2]
 exact ⟨rfl,.inr ⟨b,c,cs.toArray,rfl,by omega,hB,Nat.zero_le _,hcm,by simpa using hcl,by simp⟩⟩
theorem dM {v:Value} {w:World} {vs:List Value} {ps:List (Nat × List Value)} (hs:Sl w v vs) (hl:vs.length = ps.length) (hp:∀ (i:Nat) (h1:i < vs.length) (h2:i < ps.length),SlK a8 w vs[i] ps[i].1 ps[i].2) (hc:∀ p ∈ ps,∀ u ∈ p.2,aC u = true) (hb:(ps.map Prod.fst).sum ≤ 1099511627776):
  Cal Tryz.prog eW #[v] w fun r w'=>Ext w w' ∧ OwK a8 w.heap.size bA w' r (ps.map Prod.fst).sum (ps.flatMap Prod.snd):=by
 apply kW;unfold eT
 have hlen:=hs.len
 have hpl:(ps.map Prod.fst).length = ps.length:=List.length_map _
 refine iLenS hs ?_
 refine iLp (fun s:Nat × Nat=>[.int .i64 (s.1:Int),.int .i64 (s.2:Int)]) (fun s w'=>s.2 ≤ vs.length ∧ w' = w ∧ s.1 = ((ps.map Prod.fst).take s.2).sum) (fun s=>vs.length - s.2) (0,0) rfl ⟨Nat.zero_le _,rfl,rfl⟩ ?_
 rintro ⟨m,i⟩ w2 Kn ⟨hi,rfl,hm⟩ hKn
 have hi:i ≤ vs.length:=hi
 have hm:m = ((ps.map Prod.fst).take i).sum:=hm
 have hmle:=jP (ps.map Prod.fst) i
 (intro _;(try simp only [gx]);(with_reducible refine iLt ?_))
 refine iCndP (fun h1=>?_) (fun h1=>?_)
 ·have hi1:i < vs.length:=by omega
  have hsi:=hp i hi1 (by omega)
  have hst:=nB (ps.map Prod.fst) (i:=i) (by omega)
  rw [List.getElem_map] at hst
  have hmle1:=jP (ps.map Prod.fst) (i + 1)
  refine iIa hs (by omega) (by omega) fun p hpc=>?_
  rw [Int.toNat_natCast,List.getElem?_eq_getElem hi1] at hpc
  refine iLd hpc ?_
  refine iLenK hsi ?_
  (refine iAdd (by omega) ?_;(with_reducible refine iLt ?_))
  refine iCndP (fun h2=>by omega) (fun _=>?_)
  (refine iAdd (by omega) ?_)
  have e1:(m:Int) + ((ps[i].1:Nat):Int) = ((m + ps[i].1:Nat):Int):=by omega
  rw [e1]
  exact hKn (m + ps[i].1,i + 1) _ ⟨by show i + 1 ≤ _;omega,rfl,by show m + ps[i].1 = ((ps.map Prod.fst).take (i + 1)).sum;omega⟩ (by show vs.length - (i + 1) < vs.length - i;omega)
 ·have e:i = vs.length:=by omega
  have hm2:m = (ps.map Prod.fst).sum:=by rw [hm,List.take_of_length_le (by omega)]
  refine iCall ((sA m (by omega) w2).mono ?_)
  rintro r w4 ⟨h4,ho4⟩
  refine iLenS hs ?_
  refine iLp (fun s:Value × Nat=>[s.1,.int .i64 (s.2:Int)]) (fun s w'=>s.2 ≤ vs.length ∧ Ext w2 w' ∧ OwK a8 w2.heap.size bA w' s.1 ((ps.map Prod.fst).take s.2).sum ((ps.take s.2).flatMap Prod.snd)) (fun s=>vs.length - s.2) (r,0) rfl ⟨Nat.zero_le _,h4,ho4⟩ ?_
  rintro ⟨z,j⟩ w6 Kn6 ⟨hj,h6,ho6⟩ hKn6
  have hj:j ≤ vs.length:=hj
  have ho6:OwK a8 w2.heap.size bA w6 z ((ps.map Prod.fst).take j).sum ((ps.take j).flatMap Prod.snd):=ho6
  (intro _;(try simp only [gx]);(with_reducible refine iLt ?_))
  refine iCndP (fun h7=>?_) (fun h7=>?_)
  ·have hj1:j < vs.length:=by omega
   have hsj:=(hp j hj1 (by omega)).ext h6
   have hst:=nB (ps.map Prod.fst) (i:=j) (by omega)
   rw [List.getElem_map] at hst
   have hmle1:=jP (ps.map Prod.fst) (j + 1)
   have hs6:=hs.ext h6
   refine iIa hs6 (by omega) (by omega) fun p hpc=>?_
   rw [Int.toNat_natCast,List.getElem?_eq_getElem hj1] at hpc
   refine iLd hpc ?_
   refine iAppK dY lV rfl (by decide) ho6 hsj (hc _ (List.getElem_mem _)) (by omega) (by omega) h6.size fun v' w8 ho8 hg8 _=>?_
   (refine iAdd (by omega) ?_)
   have ef:(ps.take (j + 1)).flatMap Prod.snd = (ps.take j).flatMap Prod.snd ++ ps[j].2:=by
    rw [List.take_succ_eq_append_getElem (by omega),List.flatMap_append];simp
   rw [← hst,← ef] at ho8
   exact hKn6 (v',j + 1) _ ⟨by show j + 1 ≤ _;omega,h6.grown hg8 (fun c hc=>(ho6.blk c hc).1),ho8⟩ (by show vs.length - (j + 1) < vs.length - j;omega)
  ·have e:j = vs.length:=by omega
   rw [List.take_of_length_le (by omega),List.take_of_length_le (by omega)] at ho6
   exact ⟨h6,ho6⟩
theorem BY (n:Nat) (hn:n ≤ 1099511627776) (w:World):Cal Tryz.prog iN #[.slice none 0 0,.int .i64 (n:Int)] w fun r w'=>Ext w w' ∧ OwK cG w.heap.size cF w' r 0 []:=by
 apply qY;unfold iO
 ((with_reducible refine iLt ?_;refine iJn ?_))
 refine iCndP (fun h=>by omega) (fun _=>?_)
 intro _
 refine iCapL (e:=cF) iG ?_
 ((with_reducible refine iLenL ?_);refine iSub (by omega) ?_;refine iSub (by omega) ?_;(with_reducible refine iLt ?_))
 refine iCndP (fun h=>?_) (fun _=>⟨Ext.refl w,OwK.nil _ _ _ _⟩)
 refine iCapL (e:=cF) iG ?_
 refine ⟨none,0,0,0,0,rfl,⟨_,rfl⟩,rfl,Nat.le_refl _,Nat.le_refl _,?_⟩
 have e1:(n:Int) - (((0:Nat):Int) - ((0:Nat):Int)) = (n:Int):=by omega
 rw [e1]
 refine iAppZ (k:=cG) iG (by kernel_rfl) vU rfl (by omega) (by omega) (by omega) fun b c w' cs hnc hcm hcl hX hb hB=>?_
 ((with_reducible refine iLenL ?_))
 refine ⟨some ⟨b,0,none⟩,n,c,0,0,rfl,⟨_,rfl⟩,rfl,Nat.le_refl _,Nat.zero_le _,?_⟩
 rw [if_neg (by omega)]
 refine ⟨hX,?_⟩
 have e2:(some (⟨b,0,none⟩:Addr)).map (·.add (0 * cG)) = some ⟨b,0,none⟩:=by simp [Addr.add]
 rw [e2]
 exact ⟨rfl,.inr ⟨b,c,cs.toArray,rfl,by omega,hB,Nat.zero_le _,hcm,by simpa using hcl,by simp⟩⟩
theorem yC {v:Value} {w:World} {vs:List Value} {ps:List (Nat × List Value)} (hs:Sl w v vs) (hl:vs.length = ps.length) (hp:∀ (i:Nat) (h1:i < vs.length) (h2:i < ps.length),SlK cG w vs[i] ps[i].1 ps[i].2) (hc:∀ p ∈ ps,∀ u ∈ p.2,aC u = true) (hb:(ps.map Prod.fst).sum ≤ 1099511627776):
  Cal Tryz.prog gM #[v] w fun r w'=>Ext w w' ∧ OwK cG w.heap.size cF w' r (ps.map Prod.fst).sum (ps.flatMap Prod.snd):=by
 apply pL;unfold gR
 have hlen:=hs.len
 have hpl:(ps.map Prod.fst).length = ps.length:=List.length_map _
 refine iLenS hs ?_
 refine iLp (fun s:Nat × Nat=>[.int .i64 (s.1:Int),.int .i64 (s.2:Int)]) (fun s w'=>s.2 ≤ vs.length ∧ w' = w ∧ s.1 = ((ps.map Prod.fst).take s.2).sum) (fun s=>vs.length - s.2) (0,0) rfl ⟨Nat.zero_le _,rfl,rfl⟩ ?_
 rintro ⟨m,i⟩ w2 Kn ⟨hi,rfl,hm⟩ hKn
 have hi:i ≤ vs.length:=hi
 have hm:m = ((ps.map Prod.fst).take i).sum:=hm
 have hmle:=jP (ps.map Prod.fst) i
 (intro _;(try simp only [gx]);(with_reducible refine iLt ?_))
 refine iCndP (fun h1=>?_) (fun h1=>?_)
 ·have hi1:i < vs.length:=by omega
  have hsi:=hp i hi1 (by omega)
  have hst:=nB (ps.map Prod.fst) (i:=i) (by omega)
  rw [List.getElem_map] at hst
  have hmle1:=jP (ps.map Prod.fst) (i + 1)
  refine iIa hs (by omega) (by omega) fun p hpc=>?_
  rw [Int.toNat_natCast,List.getElem?_eq_getElem hi1] at hpc
  refine iLd hpc ?_
  refine iLenK hsi ?_
  (refine iAdd (by omega) ?_;(with_reducible refine iLt ?_))
  refine iCndP (fun h2=>by omega) (fun _=>?_)
  (refine iAdd (by omega) ?_)
  have e1:(m:Int) + ((ps[i].1:Nat):Int) = ((m + ps[i].1:Nat):Int):=by omega
  rw [e1]
  exact hKn (m + ps[i].1,i + 1) _ ⟨by show i + 1 ≤ _;omega,rfl,by show m + ps[i].1 = ((ps.map Prod.fst).take (i + 1)).sum;omega⟩ (by show vs.length - (i + 1) < vs.length - i;omega)
 ·have e:i = vs.length:=by omega
  have hm2:m = (ps.map Prod.fst).sum:=by rw [hm,List.take_of_length_le (by omega)]
  refine iCall ((BY m (by omega) w2).mono ?_)
  rintro r w4 ⟨h4,ho4⟩
  refine iLenS hs ?_
  refine iLp (fun s:Value × Nat=>[s.1,.int .i64 (s.2:Int)]) (fun s w'=>s.2 ≤ vs.length ∧ Ext w2 w' ∧ OwK cG w2.heap.size cF w' s.1 ((ps.map Prod.fst).take s.2).sum ((ps.take s.2).flatMap Prod.snd)) (fun s=>vs.length - s.2) (r,0) rfl ⟨Nat.zero_le _,h4,ho4⟩ ?_
  rintro ⟨z,j⟩ w6 Kn6 ⟨hj,h6,ho6⟩ hKn6
  have hj:j ≤ vs.length:=hj
  have ho6:OwK cG w2.heap.size cF w6 z ((ps.map Prod.fst).take j).sum ((ps.take j).flatMap Prod.snd):=ho6
  (intro _;(try simp only [gx]);(with_reducible refine iLt ?_))
  refine iCndP (fun h7=>?_) (fun h7=>?_)
  ·have hj1:j < vs.length:=by omega
   have hsj:=(hp j hj1 (by omega)).ext h6
   have hst:=nB (ps.map Prod.fst) (i:=j) (by omega)
   rw [List.getElem_map] at hst
   have hmle1:=jP (ps.map Prod.fst) (j + 1)
   have hs6:=hs.ext h6
   refine iIa hs6 (by omega) (by omega) fun p hpc=>?_
   rw [Int.toNat_natCast,List.getElem?_eq_getElem hj1] at hpc
   refine iLd hpc ?_
   refine iAppK iG vU rfl (by decide) ho6 hsj (hc _ (List.getElem_mem _)) (by omega) (by omega) h6.size fun v' w8 ho8 hg8 _=>?_
   (refine iAdd (by omega) ?_)
   have ef:(ps.take (j + 1)).flatMap Prod.snd = (ps.take j).flatMap Prod.snd ++ ps[j].2:=by
    rw [List.take_succ_eq_append_getElem (by omega),List.flatMap_append];simp
   rw [← hst,← ef] at ho8
   exact hKn6 (v',j + 1) _ ⟨by show j + 1 ≤ _;omega,h6.grown hg8 (fun c hc=>(ho6.blk c hc).1),ho8⟩ (by show vs.length - (j + 1) < vs.length - j;omega)
  ·have e:j = vs.length:=by omega
   rw [List.take_of_length_le (by omega),List.take_of_length_le (by omega)] at ho6
   exact ⟨h6,ho6⟩
end Go.Proofs.YteifjhpddhppcaaGreatDoor

namespace Go.Vc
def Fm.eqb:Fm → Fm → Bool
 | .var v,.var u=>v == u
 | .fls,.fls=>true
 | .and a b,.and c d=>eqb a c && eqb b d
 | .or a b,.or c d=>eqb a c && eqb b d
 | .imp a b,.imp c d=>eqb a c && eqb b d
 | .box a,.box c=>eqb a c
 | .dia a,.dia c=>eqb a c
 | _,_=>false
theorem Fm.eqb_iff:∀ a b:Fm,Fm.eqb a b = true ↔ a = b:=by
 intro a
 induction a with
 | var v=>intro b;cases b <;> simp [Fm.eqb]
 | fls=>intro b;cases b <;> simp [Fm.eqb]
 | and x y hx hy=>intro b;cases b <;> simp [Fm.eqb,hx,hy]
 | or x y hx hy=>intro b;cases b <;> simp [Fm.eqb,hx,hy]
 | imp x y hx hy=>intro b;cases b <;> simp [Fm.eqb,hx,hy]
 | box x hx=>intro b;cases b <;> simp [Fm.eqb,hx]
 | dia x hx=>intro b;cases b <;> simp [Fm.eqb,hx]
instance:DecidableEq Fm:=fun a b=>decidable_of_iff _ (Fm.eqb_iff a b)
def Fm.own:Fm → Nat
 | .imp _ b=>if b = .fls then 3 else 0
 | .or _ _=>1
 | .and _ _=>2
 | _=>3
def par (b:Bool) (s:Str):Str:=if b then 40 :: (s ++ [41]) else s
def Fm.body:Fm → Str
 | .var v=>[vl v]
 | .fls=>[70]
 | .and a b=>par (decide (a.own < 2)) a.body ++ 38 :: par (decide (b.own < 3)) b.body
 | .or a b=>par (decide (a.own < 1)) a.body ++ 124 :: par (decide (b.own < 2)) b.body
 | .imp a b=>if b = .fls then (if a = .fls then [84] else 126 :: par (decide (a.own < 3)) a.body) else par (decide (a.own < 1)) a.body ++ 62 :: b.body
 | .box a=>91 :: 93 :: par (decide (a.own < 3)) a.body
 | .dia a=>60 :: 62 :: par (decide (a.own < 3)) a.body
def Fm.txt (lv:Nat) (a:Fm):Str:=par (decide (a.own < lv)) a.body
def rdL (lv:Nat) (a:Fm) (s:RSt):Fm × RSt:=prs (8 * s.1.length + fl lv) lv a s
theorem fQ {n lv:Nat} {a:Fm} {s:RSt} (h:8 * s.1.length + fl lv ≤ n):prs n lv a s = rdL lv a s:=aCW (Nat.le_refl _) h
theorem rdL0 (a:Fm) (s:RSt):rdL 0 a s = if tk 62 (rdL 1 .fls s).2 then (.imp (rdL 1 .fls s).1 (rdL 0 .fls (nx (rdL 1 .fls s).2)).1,(rdL 0 .fls (nx (rdL 1 .fls s).2)).2) else rdL 1 .fls s:=by
 have e1:prs (8 * s.1.length + 3) 1 .fls s = rdL 1 .fls s:=fQ (Nat.le_refl _)
 have hs:(rdL 1 .fls s).2.1.length ≤ s.1.length:=(bI _ 1 .fls s).length_le
 show prs (8 * s.1.length + 3 + 1) 0 a s = _
 rw [prs,e1]
 split
 ·rename_i h
  have:=aY h
  rw [fQ (lv:=0) (by show _ + 4 ≤ _;omega)]
 ·rfl
theorem rdL1 (a:Fm) (s:RSt):rdL 1 a s = rdL 4 (rdL 2 .fls s).1 (rdL 2 .fls s).2:=by
 have e1:prs (8 * s.1.length + 2) 2 .fls s = rdL 2 .fls s:=fQ (Nat.le_refl _)
 have hs:(rdL 2 .fls s).2.1.length ≤ s.1.length:=(bI _ 2 .fls s).length_le
 show prs (8 * s.1.length + 2 + 1) 1 a s = _
 rw [prs,e1,fQ (lv:=4) (by show _ + 1 ≤ _;omega)]
theorem rdL2 (a:Fm) (s:RSt):rdL 2 a s = rdL 5 (rdL 3 .fls s).1 (rdL 3 .fls s).2:=by
 have e1:prs (8 * s.1.length + 1) 3 .fls s = rdL 3 .fls s:=fQ (Nat.le_refl _)
 have hs:(rdL 3 .fls s).2.1.length ≤ s.1.length:=(bI _ 3 .fls s).length_le
 show prs (8 * s.1.length + 1 + 1) 2 a s = _
 rw [prs,e1,fQ (lv:=5) (by show _ + 1 ≤ _;omega)]
theorem rdL4 (a:Fm) (s:RSt):rdL 4 a s = if tk 124 s then rdL 4 (.or a (rdL 2 .fls (nx s)).1) (rdL 2 .fls (nx s)).2 else (a,s):=by
 show prs (8 * s.1.length + 1) 4 a s = _
 rw [prs]
 split
 ·rename_i h
  have:=aY h
  have hs:(rdL 2 .fls (nx s)).2.1.length ≤ (nx s).1.length:=(bI _ 2 .fls _).length_le
  rw [fQ (lv:=2) (by show _ + 2 ≤ _;omega),fQ (lv:=4) (by show _ + 1 ≤ _;omega)]
 ·rfl
theorem rdL5 (a:Fm) (s:RSt):rdL 5 a s = if tk 38 s then rdL 5 (.and a (rdL 3 .fls (nx s)).1) (rdL 3 .fls (nx s)).2 else (a,s):=by
 show prs (8 * s.1.length + 1) (0 + 5) a s = _
 rw [prs_5]
 split
 ·rename_i h
  have:=aY h
  have hs:(rdL 3 .fls (nx s)).2.1.length ≤ (nx s).1.length:=(bI _ 3 .fls _).length_le
  rw [fQ (lv:=3) (by show _ + 1 ≤ _;omega),fQ (lv:=5) (by show _ + 1 ≤ _;omega)]
 ·rfl
theorem rdL3 {Q:Fm × RSt → Prop} {a:Fm} {s:RSt} (h1:tk 126 s = true → Q (.imp (rdL 3 .fls (nx s)).1 .fls,(rdL 3 .fls (nx s)).2))
  (h2:tk 91 s = true → Q (.box (rdL 3 .fls (ndd 93 (nx s))).1,(rdL 3 .fls (ndd 93 (nx s))).2)) (h3:tk 60 s = true → Q (.dia (rdL 3 .fls (ndd 62 (nx s))).1,(rdL 3 .fls (ndd 62 (nx s))).2))
  (h4:tk 70 s = true → Q (.fls,nx s)) (h5:tk 84 s = true → Q (.imp .fls .fls,nx s)) (h6:tk 40 s = true → Q ((rdL 0 .fls (nx s)).1,ndd 41 (rdL 0 .fls (nx s)).2))
  (h7:∀ v,v < 6 → tk (vl v) s = true → Q (.var v,nx s)) (h8:tk 126 s = false → tk 91 s = false → tk 60 s = false → tk 70 s = false → tk 84 s = false → tk 40 s = false → (∀ v,v < 6 → tk (vl v) s = false) → Q (.fls,(s.1,true))):Q (rdL 3 a s):=by
 have key:∀ c,tk c s = true → prs (8 * s.1.length) 3 .fls (nx s) = rdL 3 .fls (nx s) ∧ prs (8 * s.1.length) 0 .fls (nx s) = rdL 0 .fls (nx s) ∧ ∀ d,prs (8 * s.1.length) 3 .fls (ndd d (nx s)) = rdL 3 .fls (ndd d (nx s)):=fun c hc=>by
  have:=aY hc
  refine ⟨fQ (by show _ + 1 ≤ _;omega),fQ (by show _ + 4 ≤ _;omega),fun d=>fQ ?_⟩
  have:=lI d (nx s)
  show _ + 1 ≤ _;omega
 show Q (prs (8 * s.1.length + 1) 3 a s)
 refine prs_3 (fun h=>?_) (fun h=>?_) (fun h=>?_) h4 h5 (fun h=>?_) h7 h8
 ·rw [(key _ h).1];exact h1 h
 ·rw [(key _ h).2.2];exact h2 h
 ·rw [(key _ h).2.2];exact h3 h
 ·rw [(key _ h).2.1];exact h6 h
theorem rY {a:Fm} (c:UInt8) (l:Str) (r:Fm × RSt) (h1:c = 126 → (.imp (rdL 3 .fls (l,false)).1 .fls,(rdL 3 .fls (l,false)).2) = r)
  (h2:c = 91 → (.box (rdL 3 .fls (ndd 93 (l,false))).1,(rdL 3 .fls (ndd 93 (l,false))).2) = r) (h3:c = 60 → (.dia (rdL 3 .fls (ndd 62 (l,false))).1,(rdL 3 .fls (ndd 62 (l,false))).2) = r)
  (h4:c = 70 → (.fls,(l,false)) = r) (h5:c = 84 → (.imp .fls .fls,(l,false)) = r) (h6:c = 40 → ((rdL 0 .fls (l,false)).1,ndd 41 (rdL 0 .fls (l,false)).2) = r)
  (h7:∀ v,v < 6 → c = vl v → (.var v,(l,false)) = r) (h8:c ≠ 126 → c ≠ 91 → c ≠ 60 → c ≠ 70 → c ≠ 84 → c ≠ 40 → (∀ v,v < 6 → c ≠ vl v) → False):rdL 3 a (c :: l,false) = r:=by
 have e:∀ d,tk d (c :: l,false) = true ↔ c = d:=fun d=>by simp [tk]
 have e':∀ d,tk d (c :: l,false) = false ↔ c ≠ d:=fun d=>by simp [tk]
 refine rdL3 (Q:=fun x=>x = r) (fun h=>h1 ((e _).1 h)) (fun h=>h2 ((e _).1 h)) (fun h=>h3 ((e _).1 h)) (fun h=>h4 ((e _).1 h)) (fun h=>h5 ((e _).1 h)) (fun h=>h6 ((e _).1 h)) (fun v hv h=>h7 v hv ((e _).1 h)) fun a1 a2 a3 a4 a5 a6 a7=>(h8 ((e' _).1 a1) ((e' _).1 a2) ((e' _).1 a3) ((e' _).1 a4) ((e' _).1 a5) ((e' _).1 a6) fun v hv=>(e' _).1 (a7 v hv)).elim
theorem vl_ne {v:Nat} (hv:v < 6) {d:UInt8} (h:d.toNat < 112):vl v ≠ d:=by
 have:v = 0 ∨ v = 1 ∨ v = 2 ∨ v = 3 ∨ v = 4 ∨ v = 5:=by omega
 intro e
 subst e
 rcases this with rfl | rfl | rfl | rfl | rfl | rfl <;> exact absurd h (by decide)
theorem rM (a:Fm) (l:Str):rdL 3 a (126 :: l,false) = (.imp (rdL 3 .fls (l,false)).1 .fls,(rdL 3 .fls (l,false)).2) ∧ rdL 3 a (91 :: l,false) = (.box (rdL 3 .fls (ndd 93 (l,false))).1,(rdL 3 .fls (ndd 93 (l,false))).2) ∧
  rdL 3 a (60 :: l,false) = (.dia (rdL 3 .fls (ndd 62 (l,false))).1,(rdL 3 .fls (ndd 62 (l,false))).2) ∧ rdL 3 a (70 :: l,false) = (.fls,(l,false)) ∧ rdL 3 a (84 :: l,false) = (.imp .fls .fls,(l,false)) ∧
  rdL 3 a (40 :: l,false) = ((rdL 0 .fls (l,false)).1,ndd 41 (rdL 0 .fls (l,false)).2) ∧ ∀ v,v < 6 → rdL 3 a (vl v :: l,false) = (.var v,(l,false)):=by
 have no:∀ {v:Nat} {d:UInt8} {Q:Prop},v < 6 → d.toNat < 112 → d = vl v → Q:=fun hv hd e=>absurd e.symm (vl_ne hv hd)
 refine ⟨?_,?_,?_,?_,?_,?_,fun v hv=>?_⟩
 ·exact rY _ _ _ (fun _=>rfl) (fun h=>absurd h (by decide)) (fun h=>absurd h (by decide)) (fun h=>absurd h (by decide)) (fun h=>absurd h (by decide)) (fun h=>absurd h (by decide)) (fun v hv h=>by
   have:v = 0 ∨ v = 1 ∨ v = 2 ∨ v = 3 ∨ v = 4 ∨ v = 5:=by omega
   rcases this with rfl | rfl | rfl | rfl | rfl | rfl <;> exact absurd h (by decide)) (fun h _ _ _ _ _ _=>h rfl)
 ·exact rY _ _ _ (fun h=>absurd h (by decide)) (fun _=>rfl) (fun h=>absurd h (by decide)) (fun h=>absurd h (by decide)) (fun h=>absurd h (by decide)) (fun h=>absurd h (by decide)) (fun v hv h=>no hv (by decide) h) (fun _ h _ _ _ _ _=>h rfl)
 ·exact rY _ _ _ (fun h=>absurd h (by decide)) (fun h=>absurd h (by decide)) (fun _=>rfl) (fun h=>absurd h (by decide)) (fun h=>absurd h (by decide)) (fun h=>absurd h (by decide)) (fun v hv h=>no hv (by decide) h) (fun _ _ h _ _ _ _=>h rfl)
 ·exact rY _ _ _ (fun h=>absurd h (by decide)) (fun h=>absurd h (by decide)) (fun h=>absurd h (by decide)) (fun _=>rfl) (fun h=>absurd h (by decide)) (fun h=>absurd h (by decide)) (fun v hv h=>no hv (by decide) h) (fun _ _ _ h _ _ _=>h rfl)
 ·exact rY _ _ _ (fun h=>absurd h (by decide)) (fun h=>absurd h (by decide)) (fun h=>absurd h (by decide)) (fun h=>absurd h (by decide)) (fun _=>rfl) (fun h=>absurd h (by decide)) (fun v hv h=>no hv (by decide) h) (fun _ _ _ _ h _ _=>h rfl)
 ·exact rY _ _ _ (fun h=>absurd h (by decide)) (fun h=>absurd h (by decide)) (fun h=>absurd h (by decide)) (fun h=>absurd h (by decide)) (fun h=>absurd h (by decide)) (fun _=>rfl) (fun v hv h=>no hv (by decide) h) (fun _ _ _ _ _ h _=>h rfl)
 ·have h126:vl v ≠ 126:=by
   have:v = 0 ∨ v = 1 ∨ v = 2 ∨ v = 3 ∨ v = 4 ∨ v = 5:=by omega
   rcases this with rfl | rfl | rfl | rfl | rfl | rfl <;> decide
  refine rY _ _ _ (fun h=>absurd h h126) (fun h=>absurd h (vl_ne hv (by decide))) (fun h=>absurd h (vl_ne hv (by decide))) (fun h=>absurd h (vl_ne hv (by decide))) (fun h=>absurd h (vl_ne hv (by decide))) (fun h=>absurd h (vl_ne hv (by decide))) (fun u hu h=>?_) (fun _ _ _ _ _ _ h=>h v hv rfl)
  have e:v = u:=by
   have h1:v = 0 ∨ v = 1 ∨ v = 2 ∨ v = 3 ∨ v = 4 ∨ v = 5:=by omega
   have h2:u = 0 ∨ u = 1 ∨ u = 2 ∨ u = 3 ∨ u = 4 ∨ u = 5:=by omega
   rcases h1 with rfl | rfl | rfl | rfl | rfl | rfl <;> rcases h2 with rfl | rfl | rfl | rfl | rfl | rfl <;> first | rfl | exact absurd h (by decide)
  rw [e]
/-! ### The text read again -/
theorem tk_at (c:UInt8) (l:Str):tk c (c :: l,false) = true:=by simp [tk]
theorem tk_no {c d:UInt8} {l:Str} {b:Bool} (h:d ≠ c):tk c (d :: l,b) = false:=by simp [tk,h]
theorem nx_at (c:UInt8) (l:Str) (b:Bool):nx (c :: l,b) = (l,false):=rfl
theorem WN (c:UInt8) (l:Str):ndd c (c :: l,false) = (l,false):=by simp [ndd,tk_at,nx_at]
def Ra (a:Fm) (s:Str):Prop:=∀ post,rdL 3 .fls (s ++ post,false) = (a,(post,false))
def Rb (a:Fm) (s:Str):Prop:=∀ post,rdL 2 .fls (s ++ post,false) = rdL 5 a (post,false)
def Rc (a:Fm) (s:Str):Prop:=∀ post,tk 38 (post,false) = false → rdL 1 .fls (s ++ post,false) = rdL 4 a (post,false)
def Rd (a:Fm) (s:Str):Prop:=∀ post,tk 38 (post,false) = false → tk 124 (post,false) = false → tk 62 (post,false) = false → rdL 0 .fls (s ++ post,false) = (a,(post,false))
theorem YV {a:Fm} {post:Str} (h:tk 38 (post,false) = false):rdL 5 a (post,false) = (a,(post,false)):=by rw [rdL5,h];rfl
theorem Y9 {a:Fm} {post:Str} (h:tk 124 (post,false) = false):rdL 4 a (post,false) = (a,(post,false)):=by rw [rdL4,h];rfl
theorem Ra.b {a:Fm} {s:Str} (h:Ra a s):Rb a s:=fun post=>by rw [rdL2,h post]
theorem Rb.c {a:Fm} {s:Str} (h:Rb a s):Rc a s:=fun post h1=>by rw [rdL1,h post,YV h1]
theorem Rc.d {a:Fm} {s:Str} (h:Rc a s):Rd a s:=fun post h1 h2 h3=>by rw [rdL0,h post h1,Y9 h2,h3];rfl
theorem Rd.par {a:Fm} {s:Str} (h:Rd a s):Ra a (40 :: (s ++ [41])):=fun post=>by
 have e:(40 :: (s ++ [41])) ++ post = 40 :: (s ++ 41 :: post):=by simp
 rw [e,(rM _ _).2.2.2.2.2.1]
 rw [h (41 :: post) (tk_no (by decide)) (tk_no (by decide)) (tk_no (by decide)),WN]
structure Rall (a:Fm):Prop where
 three:Ra a (a.txt 3)
 two:Rb a (a.txt 2)
 one:Rc a (a.txt 1)
 zero:Rd a (a.txt 0)
theorem c0 {a:Fm} {lv:Nat} (h:lv ≤ a.own):a.txt lv = a.body:=by unfold Fm.txt par;rw [decide_eq_false (by omega)];rfl
theorem nX {a:Fm} {lv:Nat} (h:a.own < lv):a.txt lv = 40 :: (a.body ++ [41]):=by unfold Fm.txt par;rw [decide_eq_true h];rfl
theorem Rall.of3 {a:Fm} (ho:a.own = 3) (h:Ra a a.body):Rall a:=by
 refine ⟨?_,?_,?_,?_⟩
 ·rw [c0 (by omega)];exact h
 ·rw [c0 (by omega)];exact h.b
 ·rw [c0 (by omega)];exact h.b.c
 ·rw [c0 (by omega)];exact h.b.c.d
theorem Rall.of2 {a:Fm} (ho:a.own = 2) (h:Rb a a.body):Rall a:=by
 refine ⟨?_,?_,?_,?_⟩
 ·rw [nX (by omega)];exact h.c.d.par
 ·rw [c0 (by omega)];exact h
 ·rw [c0 (by omega)];exact h.c
 ·rw [c0 (by omega)];exact h.c.d
theorem Rall.of1 {a:Fm} (ho:a.own = 1) (h:Rc a a.body):Rall a:=by
 refine ⟨?_,?_,?_,?_⟩
 ·rw [nX (by omega)];exact h.d.par
 ·rw [nX (by omega)];exact h.d.par.b
 ·rw [c0 (by omega)];exact h
 ·rw [c0 (by omega)];exact h.d
theorem Rall.of0 {a:Fm} (ho:a.own = 0) (h:Rd a a.body):Rall a:=by
 refine ⟨?_,?_,?_,?_⟩
 ·rw [nX (by omega)];exact h.par
 ·rw [nX (by omega)];exact h.par.b
 ·rw [nX (by omega)];exact h.par.b.c
 ·rw [c0 (by omega)];exact h
theorem rall:∀ a:Fm,a.good → Rall a
 | .var v,h=>by
  refine Rall.of3 rfl fun post=>?_
  have h:v < 6:=h
  exact (rM _ _).2.2.2.2.2.2 v h
 | .fls,_=>by
  refine Rall.of3 rfl fun post=>?_
  exact (rM _ _).2.2.2.1
 | .and a b,h=>by
  refine Rall.of2 rfl fun post=>?_
  have e:(Fm.and a b).body ++ post = a.txt 2 ++ (38 :: (b.txt 3 ++ post)):=by simp [Fm.body,Fm.txt]
  rw [e,(rall a h.1).two,rdL5,tk_at,nx_at,if_pos rfl,(rall b h.2).three]
 | .or a b,h=>by
  refine Rall.of1 rfl fun post hp=>?_
  have e:(Fm.or a b).body ++ post = a.txt 1 ++ (124 :: (b.txt 2 ++ post)):=by simp [Fm.body,Fm.txt]
  rw [e,(rall a h.1).one _ (tk_no (by decide)),rdL4,tk_at,nx_at,if_pos rfl,(rall b h.2).two,YV hp]
 | .imp a b,h=>by
  by_cases hb:b = .fls
  ·subst hb
   refine Rall.of3 rfl fun post=>?_
   by_cases ha:a = .fls
   ·subst ha
    exact (rM _ _).2.2.2.2.1
   ·have e:(Fm.imp a .fls).body ++ post = 126 :: (a.txt 3 ++ post):=by simp [Fm.body,Fm.txt,ha]
    rw [e,(rM _ _).1,(rall a h.1).three]
  ·refine Rall.of0 (by simp [Fm.own,hb]) fun post h1 h2 h3=>?_
   have e:(Fm.imp a b).body ++ post = a.txt 1 ++ (62 :: (b.txt 0 ++ post)):=by rw [c0 (a:=b) (Nat.zero_le _)];simp [Fm.body,Fm.txt,hb]
   rw [e,rdL0,(rall a h.1).one _ (tk_no (by decide)),Y9 (tk_no (by decide)),tk_at,nx_at,if_pos rfl,(rall b h.2).zero _ h1 h2 h3]
 | .box a,h=>by
  refine Rall.of3 rfl fun post=>?_
  have e:(Fm.box a).body ++ post = 91 :: 93 :: (a.txt 3 ++ post):=by simp [Fm.body,Fm.txt]
  rw [e,(rM _ _).2.1,WN,(rall a h).three]
 | .dia a,h=>by
  refine Rall.of3 rfl fun post=>?_
  have e:(Fm.dia a).body ++ post = 60 :: 62 :: (a.txt 3 ++ post):=by simp [Fm.body,Fm.txt]
  rw [e,(rM _ _).2.2.1,WN,(rall a h).three]
theorem ZM {a:Fm} (h:a.good):rd a.body = (a,([],false)):=by
 have:=(rall a h).zero [] (by simp [tk]) (by simp [tk]) (by simp [tk])
 rw [List.append_nil,c0 (Nat.zero_le _)] at this
 exact this
end Go.Vc

namespace Go.Vc
theorem iBsA3 {w:World} {e:TypeId} {z0 z1 a b c d x y:Value} {K:Value → World → Prop}
  (h:∀ q w',q = w.heap.size ∧ w'.heap.size = q + 1 → Ext w w' → Blk e w' q [a,b,c,d,x,y] → K (.slice (some ⟨q,0,none⟩) 3 3) w'):
  xBs e (Value.cells (.agg #[z0,z1])) 2 3 [(0,.agg #[a,b]),(1,.agg #[c,d]),(2,.agg #[x,y])] w K:=by
 refine ⟨#[a,b,c,d,x,y],?_,h _ _ ⟨rfl,by simp⟩ (Ext.alloc w _) (Blk.new w #[a,b,c,d,x,y] e)⟩
 simp [Instr.fill,Value.cells,show Array.range 6 = #[0,1,2,3,4,5] from rfl]
theorem dD {x y a b:Value} {K:Value → Prop} (ha:aC a = true) (hb:aC b = true) (h:K (.agg #[a,b])):aH #[x,y] #[(0,1),(1,1)] [(0,a),(1,b)] K:=
 bB (cs:=#[a,b]) (by simp [Instr.fill,aX ha,aX hb]) h
theorem LC {x y a:Value} {K:Value → Prop} (ha:aC a = true) (h:K (.agg #[a,y])):aH #[x,y] #[(0,1),(1,1)] [(0,a)] K:=
 bB (cs:=#[a,y]) (by simp [Instr.fill,aX ha]) h
def RdS (e:TypeId) (b:Nat) (t:Str) (s:RSt) (w:World):Prop:=∃ k,k ≤ t.length ∧ s.1 = t.drop k ∧ Blk e w b [sv t,.int .i64 (k:Int),.bool s.2]
theorem RdS.lt {e:TypeId} {b:Nat} {t:Str} {s:RSt} {w:World} (h:RdS e b t s w):b < w.heap.size:=by obtain ⟨_,_,_,h⟩:=h;exact h.lt
theorem RdS.ext {e:TypeId} {b:Nat} {t:Str} {s:RSt} {w w':World} (h:RdS e b t s w) (he:Ext w w'):RdS e b t s w':=by obtain ⟨k,h1,h2,h3⟩:=h;exact ⟨k,h1,h2,h3.ext he⟩
theorem RdS.len {e:TypeId} {b:Nat} {t:Str} {s:RSt} {w:World} (h:RdS e b t s w):s.1.length ≤ t.length:=by obtain ⟨_,_,h,_⟩:=h;rw [h,List.length_drop];omega
theorem MP {t:Str} {k:Nat} {c:UInt8} {bad:Bool} (hk:k < t.length):tk c (t.drop k,bad) = (!bad && decide (t.getD k 0 = c)):=by
 simp only [tk,List.head?_drop,List.getElem?_eq_getElem hk,Option.some.injEq]
 congr 2
 simp [List.getD_eq_getElem?_getD,hk]
theorem S2 {t:Str} {k:Nat} {c:UInt8} {bad:Bool} (hk:t.length ≤ k):tk c (t.drop k,bad) = false:=by
 simp [tk,List.drop_of_length_le hk]
theorem u8_eq (a c:UInt8):(((a.toNat:Nat):Int) = ((c.toNat:Nat):Int)) ↔ a = c:=by
 constructor
 ·intro h;exact UInt8.toNat_inj.1 (by omega)
 ·rintro rfl;rfl
theorem bZ (lv:Nat) (a:Fm) (s:RSt):(rdL lv a s).1.size + 3 * (rdL lv a s).2.1.length ≤ a.size + 3 * s.1.length:=cZ _ _ _ _
theorem iJ (lv:Nat) (a:Fm) (s:RSt):(rdL lv a s).2.1.length ≤ s.1.length:=(bI _ _ _ _).length_le
end Go.Vc
namespace Go.Proofs.YteifjhpddhppcaaGreatDoor
open Go.Vc
abbrev FmW (lo:Nat) (w:World) (v:Value) (a:Fm):Prop:=OwK 2 lo aE w v a.size a.cells
abbrev FmS (w:World) (v:Value) (a:Fm):Prop:=SlK 2 w v a.size a.cells
theorem f6 {w w':World} {b:Nat} {x y:Value} (hb:b = w.heap.size ∧ w'.heap.size = b + 1) (hB:Blk aE w' b [x,y]):OwK 2 w.heap.size aE w' (.slice (some ⟨b,0,none⟩) 1 1) 1 [x,y]:=OwK.ofBlk hB (by omega) rfl (by omega)
theorem rK (w:World):Cal Tryz.prog HG #[] w fun v w'=>Ext w w' ∧ FmW w.heap.size w' v .fls:=by
 apply U4;unfold GG
 refine dD rfl rfl ?_
 refine iBsA fun b w1 hb h1 hB=>⟨h1,f6 hb hB⟩
theorem UY (w:World):Cal Tryz.prog KW #[] w fun v w'=>Ext w w' ∧ FmW w.heap.size w' v (.imp .fls .fls):=by
 apply W6;unfold IB
 refine dD rfl rfl ?_
 refine dD rfl rfl ?_
 refine dD rfl rfl ?_
 refine iBsA3 fun b w1 hb h1 hB=>⟨h1,OwK.ofBlk hB (by omega) rfl (by decide)⟩
theorem NE (v:Nat) (w:World):Cal Tryz.prog z8 #[.int .i64 (v:Int)] w fun r w'=>Ext w w' ∧ FmW w.heap.size w' r (.var v):=by
 apply O6;unfold AL
 refine dD rfl rfl ?_
 refine iBsA fun b w1 hb h1 hB=>⟨h1,f6 hb hB⟩
theorem fU {a b c:Fm} {k:Nat} (hc:c.cells = nd k 0 ++ a.cells ++ b.cells) (hs:c.size = 1 + a.size + b.size) {va vb:Value} {w:World} (ha:FmS w va a) (hb:FmS w vb b) (hsz:c.size ≤ 1099511627776):
  Cal Tryz.prog M3 #[.int .i64 (k:Int),va,vb] w fun r w'=>Ext w w' ∧ FmW w.heap.size w' r c:=by
 apply YI;unfold ML
 have hca:aC va = true:=by obtain ⟨_,_,_,h,_⟩:=ha;rw [h];rfl
 have hcb:aC vb = true:=by obtain ⟨_,_,_,h,_⟩:=hb;rw [h];rfl
 refine dD rfl rfl ?_
 refine iBsA fun q w1 hq h1 hB=>?_
 refine iBs3 rfl rfl hca hcb fun q2 w2 hq2 h2 hB2=>?_
 have hx:=(f6 hq hB).sl
 refine iCall ((dM (ps:=[(1,nd k 0),(a.size,a.cells),(b.size,b.cells)]) (Sl.ofBlk (n:=3) hB2 rfl (by decide)) rfl (fun i h1' h2'=>?_) (fun p hp u hu=>?_) ?_).mono ?_)
 ·match i,h1' with
  | 0,_=>exact hx.ext h2
  | 1,_=>exact (ha.ext h1).ext h2
  | 2,_=>exact (hb.ext h1).ext h2
 ·simp only [List.mem_cons,List.not_mem_nil,or_false] at hp
  rcases hp with rfl | rfl | rfl
  ·simp only [nd,List.mem_cons,List.not_mem_nil,or_false] at hu
   rcases hu with rfl | rfl <;> rfl
  ·exact a.cells_cell _ hu
  ·exact b.cells_cell _ hu
 ·simp;omega
 ·rintro r w3 ⟨h3,ho⟩
  refine ⟨h1.trans (h2.trans h3),?_⟩
  have ho:=ho.mono (h1.trans h2).size
  have e1:([(1,nd k 0),(a.size,a.cells),(b.size,b.cells)].map Prod.fst).sum = c.size:=by simp [hs];omega
  have e2:[(1,nd k 0),(a.size,a.cells),(b.size,b.cells)].flatMap Prod.snd = c.cells:=by simp [hc]
  rw [e1,e2] at ho
  exact ho
theorem DK {a c:Fm} {k:Nat} (hc:c.cells = nd k 0 ++ a.cells) (hs:c.size = 1 + a.size) {va:Value} {w:World} (ha:FmS w va a) (hsz:c.size ≤ 1099511627776):
  Cal Tryz.prog HC #[.int .i64 (k:Int),va] w fun r w'=>Ext w w' ∧ FmW w.heap.size w' r c:=by
 apply UQ;unfold GU
 have hca:aC va = true:=by obtain ⟨_,_,_,h,_⟩:=ha;rw [h];rfl
 refine dD rfl rfl ?_
 refine iBsA fun q w1 hq h1 hB=>?_
 refine iBs2 rfl rfl hca fun q2 w2 hq2 h2 hB2=>?_
 have hx:=(f6 hq hB).sl
 refine iCall ((dM (ps:=[(1,nd k 0),(a.size,a.cells)]) (Sl.ofBlk (n:=2) hB2 rfl (by decide)) rfl (fun i h1' h2'=>?_) (fun p hp u hu=>?_) ?_).mono ?_)
 ·match i,h1' with
  | 0,_=>exact hx.ext h2
  | 1,_=>exact (ha.ext h1).ext h2
 ·simp only [List.mem_cons,List.not_mem_nil,or_false] at hp
  rcases hp with rfl | rfl
  ·simp only [nd,List.mem_cons,List.not_mem_nil,or_false] at hu
   rcases hu with rfl | rfl <;> rfl
  ·exact a.cells_cell _ hu
 ·simp;omega
 ·rintro r w3 ⟨h3,ho⟩
  refine ⟨h1.trans (h2.trans h3),?_⟩
  have ho:=ho.mono (h1.trans h2).size
  have e1:([(1,nd k 0),(a.size,a.cells)].map Prod.fst).sum = c.size:=by simp [hs]
  have e2:[(1,nd k 0),(a.size,a.cells)].flatMap Prod.snd = c.cells:=by simp [hc]
  rw [e1,e2] at ho
  exact ho
theorem NG {a:Fm} {va:Value} {w:World} (ha:FmS w va a) (hsz:a.size ≤ 1099511627):Cal Tryz.prog BG #[va] w fun r w'=>Ext w w' ∧ FmW w.heap.size w' r (.imp a .fls):=by
 apply QI;unfold z7
 refine iCall ((rK w).mono ?_)
 rintro u w1 ⟨h1,ho⟩
 refine iCall ((fU (c:=.imp a .fls) (k:=4) rfl rfl (ha.ext h1) ho.sl (by show 1 + a.size + 1 ≤ _;omega)).mono ?_)
 rintro r w2 ⟨h2,hr⟩
 exact ⟨h1.trans h2,hr.mono h1.size⟩
theorem eA (w:World):Cal Tryz.prog zL #[] w fun v w'=>Ext w w' ∧ FmW w.heap.size w' v .fls:=by
 apply RK;unfold zY
 refine LC rfl ?_
 refine iBsA fun b w1 hb h1 hB=>⟨h1,f6 hb hB⟩
theorem qZ (v:Nat) (w:World):Cal Tryz.prog HD #[.int .i64 (v:Int)] w fun r w'=>Ext w w' ∧ FmW w.heap.size w' r (.var v):=by
 apply UH;unfold GX
 refine dD rfl rfl ?_
 refine iBsA fun b w1 hb h1 hB=>⟨h1,f6 hb hB⟩
theorem bL {a b c:Fm} {k:Nat} (hc:c.cells = nd k 0 ++ a.cells ++ b.cells) (hs:c.size = 1 + a.size + b.size) {va vb:Value} {w:World} (ha:FmS w va a) (hb:FmS w vb b) (hsz:c.size ≤ 1099511627776):
  Cal Tryz.prog EZ #[.int .i64 (k:Int),va,vb] w fun r w'=>Ext w w' ∧ FmW w.heap.size w' r c:=by
 apply SU;unfold EV
 refine LC rfl ?_
 refine iBsA fun q w1 hq h1 hB=>?_
 refine iAppK eN eR rfl (by omega) (f6 hq hB) (ha.ext h1) a.cells_cell (by omega) (by omega) h1.size fun v2 w2 ho2 hg2 _=>?_
 have hX2:=h1.grown hg2 (fun c hc=>((f6 hq hB).blk c hc).1)
 refine iAppK eN eR rfl (by omega) ho2 (hb.ext hX2) b.cells_cell (by omega) (by omega) hX2.size fun v3 w3 ho3 hg3 _=>?_
 refine ⟨hX2.grown hg3 (fun c hc=>(ho2.blk c hc).1),?_⟩
 unfold FmW
 rw [hs,hc]
 exact ho3
theorem r9 {a c:Fm} {k:Nat} (hc:c.cells = nd k 0 ++ a.cells) (hs:c.size = 1 + a.size) {va:Value} {w:World} (ha:FmS w va a) (hsz:c.size ≤ 1099511627776):
  Cal Tryz.prog F5 #[.int .i64 (k:Int),va] w fun r w'=>Ext w w' ∧ FmW w.heap.size w' r c:=by
 apply UZ;unfold G8
 refine LC rfl ?_
 refine iBsA fun q w1 hq h1 hB=>?_
 refine iAppK eN eR rfl (by omega) (f6 hq hB) (ha.ext h1) a.cells_cell (by omega) (by omega) h1.size fun v2 w2 ho2 hg2 _=>?_
 refine ⟨h1.grown hg2 (fun c hc=>((f6 hq hB).blk c hc).1),?_⟩
 unfold FmW
 rw [hs,hc]
 exact ho2
theorem rO {a:Fm} {va:Value} {w:World} (ha:FmS w va a) (hsz:a.size ≤ 1099511627):Cal Tryz.prog GD #[va] w fun r w'=>Ext w w' ∧ FmW w.heap.size w' r (.imp a .fls):=by
 apply U9;unfold HH
 refine iCall ((eA w).mono ?_)
 rintro u w1 ⟨h1,ho⟩
 refine iCall ((bL (c:=.imp a .fls) (k:=4) rfl rfl (ha.ext h1) ho.sl (by show 1 + a.size + 1 ≤ _;omega)).mono ?_)
 rintro r w2 ⟨h2,hr⟩
 exact ⟨h1.trans h2,hr.mono h1.size⟩
theorem zH (w:World):Cal Tryz.prog B8 #[] w fun r w'=>Ext w w' ∧ FmW w.heap.size w' r (.imp .fls .fls):=by
 apply S4;unfold CE
 refine iCall ((eA w).mono ?_)
 rintro u w1 ⟨h1,ho⟩
 refine iCall ((rO ho.sl (by decide)).mono ?_)
 rintro r w2 ⟨h2,hr⟩
 exact ⟨h1.trans h2,hr.mono h1.size⟩
abbrev TakeQ (e:TypeId) (b:Nat) (t:Str) (s:RSt) (w:World) (c:UInt8) (v:Value) (w':World):Prop:=v = .bool (tk c s) ∧ RdS e b t (if tk c s then nx s else s) w' ∧ Ch (fun x=>x = b) w w'
theorem VJ {e:TypeId} {b k:Nat} {t:Str} {bad:Bool} {c:UInt8} {w w2:World} (hB:Blk e w b [sv t,.int .i64 (k:Int),.bool bad]) (h2:Ext w w2) (h:tk c (t.drop k,bad) = true):TakeQ e b t (t.drop k,bad) w c (.bool true) (w2.setCell ⟨b,1,none⟩ (.int .i64 ((k:Int) + 1))):=by
 have hk:k < t.length:=by
  rcases Nat.lt_or_ge k t.length with h' | h'
  ·exact h'
  ·rw [S2 h'] at h;cases h
 have hbad:=aFI h
 have hbad:bad = false:=hbad
 subst hbad
 refine ⟨by rw [h],?_,(h2.ch (S:=fun x=>x = b)).trans ((Upd.setCell w2 b 1 _).ch (S:=fun x=>x = b) rfl) (fun _ h=>.inl h)⟩
 rw [if_pos h]
 refine ⟨k + 1,hk,by simp [nx,List.tail_drop],?_⟩
 have:=(hB.ext h2).set 1 (.int .i64 ((k:Int) + 1))
 show Blk e _ b [sv t,.int .i64 ((k + 1:Nat):Int),.bool false]
 simpa using this
theorem aS {e:TypeId} {b:Nat} {t:Str} {s:RSt} {w:World} (c:UInt8) {z:Int} (hz:z = ((c.toNat:Nat):Int)) (ht:t.length ≤ 1099511627776) (h:RdS e b t s w):
  Cal Tryz.prog sF #[.pointer (some ⟨b,0,none⟩),.int .u8 z] w (TakeQ e b t s w c):=by
 apply KL;unfold sM
 obtain ⟨k,hk,hs,hB⟩:=h
 obtain ⟨s1,bad⟩:=s
 have hs:s1 = t.drop k:=hs
 have hB:Blk e w b [sv t,.int .i64 (k:Int),.bool bad]:=hB
 subst hs
 subst hz
 refine iJnX (fun xs w'=>xs = [.bool !tk c (t.drop k,bad)] ∧ Ext w w') (fun J hJ=>?_) ?_
 ·((with_reducible refine iNil ?_;refine iFa ?_);refine iLdB (by assumption) (by first | rfl | simp) ?_)
  cases bad
  ·refine iCndF rfl ?_
   ((with_reducible refine iNil ?_;refine iFa ?_);refine iLdB (by assumption) (by first | rfl | simp) ?_;(with_reducible refine iNil ?_;refine iFa ?_);refine iLdB (by assumption) (by first | rfl | simp) ?_)
   refine iLenT ?_
   ((with_reducible refine iLe ?_))
   refine iCndP (fun h1=>?_) (fun h1=>?_)
   ·intro w4 h4
    exact hJ _ _ ⟨by rw [S2 (by omega)];rfl,h4⟩
   ·((with_reducible refine iNil ?_;refine iFa ?_);refine iLdB (by assumption) (by first | rfl | simp) ?_;(with_reducible refine iNil ?_;refine iFa ?_);refine iLdB (by assumption) (by first | rfl | simp) ?_)
    refine iIs (by omega) ?_
    ((with_reducible refine iNe ?_))
    intro w5 h5
    refine hJ _ _ ⟨?_,h5⟩
    rw [MP (by omega),Bool.not_false,Bool.true_and,← decide_not]
    congr 2
    exact decide_eq_decide.2 (not_congr (u8_eq _ _))
  ·refine iCndT rfl ?_
   intro w3 h3
   exact hJ _ _ ⟨by simp [tk],h3⟩
 rintro _ w2 ⟨rfl,h2⟩
 intro _
 cases hk2:tk c (t.drop k,bad)
 ·refine iCndT rfl ⟨by rw [hk2],?_,h2.ch⟩
  rw [hk2,if_neg (by decide)]
  exact ⟨k,hk,rfl,hB.ext h2⟩
 ·refine iCndF rfl ?_
  have hB2:=hB.ext h2
  have hfin:=VJ hB h2 hk2
  ((with_reducible refine iNil ?_;refine iFa ?_);refine iLdB (by assumption) (by first | rfl | simp) ?_;refine iAdd (by omega) ?_;(with_reducible refine iNil ?_;refine iFa ?_))
  refine iStB hB2 (by simp) rfl fun _=>?_
  exact hfin
theorem bK {e:TypeId} {b:Nat} {t:Str} {s:RSt} {w:World} (c:UInt8) {z:Int} (hz:z = ((c.toNat:Nat):Int)) (ht:t.length ≤ 1099511627776) (h:RdS e b t s w):
  Cal Tryz.prog EW #[.pointer (some ⟨b,0,none⟩),.int .u8 z] w (TakeQ e b t s w c):=by
 apply S3;unfold CV
 obtain ⟨k,hk,hs,hB⟩:=h
 obtain ⟨s1,bad⟩:=s
 have hs:s1 = t.drop k:=hs
 have hB:Blk e w b [sv t,.int .i64 (k:Int),.bool bad]:=hB
 subst hs
 subst hz
 refine iJnX (fun xs w'=>xs = [.bool (tk c (t.drop k,bad))] ∧ Ext w w') (fun J hJ=>?_) ?_
 ·((with_reducible refine iNil ?_;refine iFa ?_);refine iLdB (by assumption) (by first | rfl | simp) ?_;(with_reducible refine iNot ?_))
  cases bad
  ·refine iCndT rfl ?_
   ((with_reducible refine iNil ?_;refine iFa ?_);refine iLdB (by assumption) (by first | rfl | simp) ?_;(with_reducible refine iNil ?_;refine iFa ?_);refine iLdB (by assumption) (by first | rfl | simp) ?_)
   refine iLenT ?_
   ((with_reducible refine iLt ?_))
   refine iCndP (fun h1=>?_) (fun h1=>?_)
   ·((with_reducible refine iNil ?_;refine iFa ?_);refine iLdB (by assumption) (by first | rfl | simp) ?_;(with_reducible refine iNil ?_;refine iFa ?_);refine iLdB (by assumption) (by first | rfl | simp) ?_)
    refine iIs (by omega) ?_
    ((with_reducible refine iEq ?_))
    intro w5 h5
    refine hJ _ _ ⟨?_,h5⟩
    rw [MP (by omega),Bool.not_false,Bool.true_and]
    congr 2
    exact decide_eq_decide.2 (u8_eq _ _)
   ·intro w4 h4
    exact hJ _ _ ⟨by rw [S2 (by omega)],h4⟩
  ·refine iCndF rfl ?_
   intro w3 h3
   exact hJ _ _ ⟨by simp [tk],h3⟩
 rintro _ w2 ⟨rfl,h2⟩
 intro _
 cases hk2:tk c (t.drop k,bad)
 ·refine iCndF rfl ⟨by rw [hk2],?_,h2.ch⟩
  rw [hk2,if_neg (by decide)]
  exact ⟨k,hk,rfl,hB.ext h2⟩
 ·refine iCndT rfl ?_
  have hB2:=hB.ext h2
  have hfin:=VJ hB h2 hk2
  ((with_reducible refine iNil ?_;refine iFa ?_);refine iLdB (by assumption) (by first | rfl | simp) ?_;refine iAdd (by omega) ?_;(with_reducible refine iNil ?_;refine iFa ?_))
  refine iStB hB2 (by simp) rfl fun _=>?_
  exact hfin
theorem RdS.bad {e:TypeId} {b:Nat} {t:Str} {s:RSt} {w:World} (h:RdS e b t s w):RdS e b t (s.1,true) (w.setCell ⟨b,2,none⟩ (.bool true)):=by
 obtain ⟨k,h1,h2,h3⟩:=h
 refine ⟨k,h1,h2,?_⟩
 have:=h3.set 2 (.bool true)
 simpa using this
theorem jU {e:TypeId} {b:Nat} {t:Str} {s:RSt} {w:World} (c:UInt8) {z:Int} (hz:z = ((c.toNat:Nat):Int)) (ht:t.length ≤ 1099511627776) (h:RdS e b t s w):
  Cal Tryz.prog tJ #[.pointer (some ⟨b,0,none⟩),.int .u8 z] w fun _ w'=>RdS e b t (ndd c s) w' ∧ Ch (fun x=>x = b) w w':=by
 apply JH;unfold tU
 refine iCall ((aS c hz ht h).mono ?_)
 rintro _ w1 ⟨rfl,h1,hc1⟩
 unfold ndd
 refine iNot ?_
 cases hk:tk c s
 ·rw [hk,if_neg (by decide)] at h1
  refine iCndT rfl ?_
  obtain ⟨k,_,_,hB⟩:=id h1
  ((with_reducible refine iNil ?_;refine iFa ?_))
  refine iStB hB (by simp) rfl fun _=>?_
  exact ⟨RdS.bad h1,hc1.trans ((Upd.setCell w1 b 2 _).ch (S:=fun x=>x = b) rfl) (fun _ h=>.inl h)⟩
 ·rw [hk,if_pos rfl] at h1
  exact iCndF rfl ⟨h1,hc1⟩
theorem oY {e:TypeId} {b:Nat} {t:Str} {s:RSt} {w:World} (c:UInt8) {z:Int} (hz:z = ((c.toNat:Nat):Int)) (ht:t.length ≤ 1099511627776) (h:RdS e b t s w):
  Cal Tryz.prog B9 #[.pointer (some ⟨b,0,none⟩),.int .u8 z] w fun _ w'=>RdS e b t (ndd c s) w' ∧ Ch (fun x=>x = b) w w':=by
 apply ST;unfold DU
 refine iCall ((bK c hz ht h).mono ?_)
 rintro _ w1 ⟨rfl,h1,hc1⟩
 unfold ndd
 refine iNot ?_
 cases hk:tk c s
 ·rw [hk,if_neg (by decide)] at h1
  refine iCndT rfl ?_
  obtain ⟨k,_,_,hB⟩:=id h1
  ((with_reducible refine iNil ?_;refine iFa ?_))
  refine iStB hB (by simp) rfl fun _=>?_
  exact ⟨RdS.bad h1,hc1.trans ((Upd.setCell w1 b 2 _).ch (S:=fun x=>x = b) rfl) (fun _ h=>.inl h)⟩
 ·rw [hk,if_pos rfl] at h1
  exact iCndF rfl ⟨h1,hc1⟩
end Go.Proofs.YteifjhpddhppcaaGreatDoor

namespace Go.Vc
theorem fl0:fl 0 = 4:=rfl
theorem fl1:fl 1 = 3:=rfl
theorem fl2:fl 2 = 2:=rfl
theorem fl3:fl 3 = 1:=rfl
theorem IQ:∀ v,v < 6 → (vl v).toNat = 112 + v
 | 0,_=>rfl
 | 1,_=>rfl
 | 2,_=>rfl
 | 3,_=>rfl
 | 4,_=>rfl
 | 5,_=>rfl
 | v + 6,h=>by omega
theorem aBW {v u:Nat} (hv:v < 6) (hu:u < 6) (h:vl v = vl u):v = u:=by
 have:=congrArg UInt8.toNat h
 rw [IQ v hv,IQ u hu] at this;omega
theorem fC {v:Nat} (hv:v < 6) {d:UInt8} (h:d.toNat < 112 ∨ 117 < d.toNat):vl v ≠ d:=by
 rintro rfl
 rw [IQ v hv] at h;omega
abbrev ReadQ (e:TypeId) (b:Nat) (t:Str) (nodeT:TypeId) (r:Fm × RSt) (w:World) (v:Value) (w':World):Prop:=RdS e b t r.2 w' ∧ Ch (fun x=>x = b) w w' ∧ OwK 2 w.heap.size nodeT w' v r.1.size r.1.cells
theorem gL {e:TypeId} {b:Nat} {t:Str} {s:RSt} {w w1:World} {lo:Nat} {e':TypeId} {v:Value} {n:Nat} {xs:List Value} (h:RdS e b t s w) (ho:OwK 2 lo e' w1 v n xs) (hlo:w.heap.size ≤ lo):∀ c,v.ownBlock = some c → ¬ c = b:=fun c hc hb=>by
 have:=(ho.blk c hc).1;have:=h.lt;omega
end Go.Vc
namespace Go.Proofs.YteifjhpddhppcaaGreatDoor
open Go.Vc
def Rds (f:FuncId) (lv m:Nat):Prop:=∀ (e:TypeId) (b:Nat) (t:Str) (s:RSt) (w:World),t.length ≤ 4194304 → RdS e b t s w → 8 * s.1.length + fl lv ≤ m → Cal Tryz.prog f #[.pointer (some ⟨b,0,none⟩)] w (ReadQ e b t aE (rdL lv .fls s) w)
theorem FO {m:Nat} (hor:Rds jB 1 m) (him:Rds cH 0 m):Rds cH 0 (m + 1):=by
 intro e b t s w ht h hm
 rw [fl0] at hm
 apply H7;unfold qK
 refine iCall ((hor e b t s w ht h (by rw [fl1];omega)).mono ?_)
 rintro v w1 ⟨h1,hc1,ho1⟩
 have hlen:=iJ 1 .fls s
 have hz:=bZ 1 .fls s
 have htl:=h.len
 rw [rdL0]
 refine iCall ((aS 62 (by decide) (by omega) h1).mono ?_)
 rintro _ w2 ⟨rfl,h2,hc2⟩
 have ho2:=ho1.ch hc2 (gL h ho1 (Nat.le_refl _))
 cases hk:tk 62 (rdL 1 .fls s).2
 ·rw [hk,if_neg (by decide)] at h2
  exact iCndF rfl ⟨h2,aA hc1 hc2,ho2⟩
 ·rw [hk,if_pos rfl] at h2
  have hnx:=aY hk
  rw [if_pos rfl]
  refine iCndT rfl ?_
  refine iCall ((him e b t _ w2 ht h2 (by rw [fl0];omega)).mono ?_)
  rintro v3 w3 ⟨h3,hc3,ho3⟩
  have hz3:=bZ 0 .fls (nx (rdL 1 .fls s).2)
  have hf:Fm.fls.size = 1:=rfl
  have ho23:=ho2.ch hc3 (gL h ho2 (Nat.le_refl _))
  have hsz:(Fm.imp (rdL 1 .fls s).1 (rdL 0 .fls (nx (rdL 1 .fls s).2)).1).size ≤ 1099511627776:=by
   show 1 + _ + _ ≤ _;omega
  refine iCall ((fU (c:=.imp (rdL 1 .fls s).1 (rdL 0 .fls (nx (rdL 1 .fls s).2)).1) (k:=4) rfl rfl ho23.sl ho3.sl hsz).mono ?_)
  rintro v4 w4 ⟨h4,ho4⟩
  have hcc:=aA hc1 (aA hc2 hc3)
  exact ⟨h3.ext h4,aM hcc h4,ho4.mono hcc.size⟩
theorem OC {m:Nat} (hor:Rds oX 1 m) (him:Rds e5 0 m):Rds e5 0 (m + 1):=by
 intro e b t s w ht h hm
 rw [fl0] at hm
 apply P7;unfold AI
 refine iCall ((hor e b t s w ht h (by rw [fl1];omega)).mono ?_)
 rintro v w1 ⟨h1,hc1,ho1⟩
 have hlen:=iJ 1 .fls s
 have hz:=bZ 1 .fls s
 have htl:=h.len
 rw [rdL0]
 refine iCall ((bK 62 (by decide) (by omega) h1).mono ?_)
 rintro _ w2 ⟨rfl,h2,hc2⟩
 have ho2:=ho1.ch hc2 (gL h ho1 (Nat.le_refl _))
 cases hk:tk 62 (rdL 1 .fls s).2
 ·rw [hk,if_neg (by decide)] at h2
  exact iCndF rfl ⟨h2,aA hc1 hc2,ho2⟩
 ·rw [hk,if_pos rfl] at h2
  have hnx:=aY hk
  rw [if_pos rfl]
  refine iCndT rfl ?_
  refine iCall ((him e b t _ w2 ht h2 (by rw [fl0];omega)).mono ?_)
  rintro v3 w3 ⟨h3,hc3,ho3⟩
  have hz3:=bZ 0 .fls (nx (rdL 1 .fls s).2)
  have hf:Fm.fls.size = 1:=rfl
  have ho23:=ho2.ch hc3 (gL h ho2 (Nat.le_refl _))
  have hsz:(Fm.imp (rdL 1 .fls s).1 (rdL 0 .fls (nx (rdL 1 .fls s).2)).1).size ≤ 1099511627776:=by
   show 1 + _ + _ ≤ _;omega
  refine iCall ((bL (c:=.imp (rdL 1 .fls s).1 (rdL 0 .fls (nx (rdL 1 .fls s).2)).1) (k:=4) rfl rfl ho23.sl ho3.sl hsz).mono ?_)
  rintro v4 w4 ⟨h4,ho4⟩
  have hcc:=aA hc1 (aA hc2 hc3)
  exact ⟨h3.ext h4,aM hcc h4,ho4.mono hcc.size⟩
theorem ME {m:Nat} (hsub:Rds iF 2 m):Rds jB 1 (m + 1):=by
 intro e b t s w ht h hm
 rw [fl1] at hm
 apply NS;unfold xN
 refine iCall ((hsub e b t s w ht h (by rw [fl2];omega)).mono ?_)
 rintro v w1 ⟨h1,hc1,ho1⟩
 have hlen:=iJ 2 .fls s
 have hz:=bZ 2 .fls s
 have htl:=h.len
 have hf:Fm.fls.size = 1:=rfl
 rw [rdL1]
 refine iLp (fun q:Value × Fm × RSt=>[q.1]) (fun q w'=>RdS e b t q.2.2 w' ∧ Ch (fun x=>x = b) w w' ∧ OwK 2 w.heap.size aE w' q.1 q.2.1.size q.2.1.cells ∧ rdL 4 q.2.1 q.2.2 = rdL 4 (rdL 2 .fls s).1 (rdL 2 .fls s).2 ∧ q.2.2.1.length ≤ s.1.length ∧ q.2.1.size + 3 * q.2.2.1.length ≤ 1 + 3 * s.1.length) (fun q=>q.2.2.1.length) (v,rdL 2 .fls s) rfl
  ⟨h1,hc1,ho1,rfl,hlen,by show (rdL 2 .fls s).1.size + 3 * (rdL 2 .fls s).2.1.length ≤ _;omega⟩ ?_
 rintro ⟨v,a,q⟩ w3 Kn ⟨h3,hc3,ho3,hq,hql,hqs⟩ hKn
 have h3:RdS e b t q w3:=h3
 have ho3:OwK 2 w.heap.size aE w3 v a.size a.cells:=ho3
 have hq:rdL 4 a q = _:=hq
 have hql:q.1.length ≤ s.1.length:=hql
 have hqs:a.size + 3 * q.1.length ≤ 1 + 3 * s.1.length:=hqs
 intro _
 refine iCall ((aS 124 (by decide) (by omega) h3).mono ?_)
 rintro _ w4 ⟨rfl,h4,hc4⟩
 have ho4:=ho3.ch hc4 (gL h ho3 (Nat.le_refl _))
 rw [← hq,rdL4]
 cases hk:tk 124 q
 ·rw [hk,if_neg (by decide)] at h4
  rw [if_neg (by decide)]
  exact iCndF rfl ⟨h4,aA hc3 hc4,ho4⟩
 ·rw [hk,if_pos rfl] at h4
  have hnx:=aY hk
  rw [if_pos rfl]
  refine iCndT rfl ?_
  refine iCall ((hsub e b t _ w4 ht h4 (by rw [fl2];omega)).mono ?_)
  rintro v5 w5 ⟨h5,hc5,ho5⟩
  have hz5:=bZ 2 .fls (nx q)
  have hl5:=iJ 2 .fls (nx q)
  have ho45:=ho4.ch hc5 (gL h ho4 (Nat.le_refl _))
  have hsz:(Fm.or a (rdL 2 .fls (nx q)).1).size ≤ 1099511627776:=by
   show 1 + _ + _ ≤ _;omega
  refine iCall ((fU (c:=.or a (rdL 2 .fls (nx q)).1) (k:=3) rfl rfl ho45.sl ho5.sl hsz).mono ?_)
  rintro v6 w6 ⟨h6,ho6⟩
  have hcc:=aA hc3 (aA hc4 hc5)
  have e1:rdL 4 (rdL 2 .fls s).1 (rdL 2 .fls s).2 = rdL 4 (.or a (rdL 2 .fls (nx q)).1) (rdL 2 .fls (nx q)).2:=by rw [← hq,rdL4,if_pos hk]
  refine hKn (v6,.or a (rdL 2 .fls (nx q)).1,(rdL 2 .fls (nx q)).2) _ ⟨h5.ext h6,aM hcc h6,ho6.mono hcc.size,e1.symm,by show (rdL 2 .fls (nx q)).2.1.length ≤ _;omega,?_⟩ (by show (rdL 2 .fls (nx q)).2.1.length < q.1.length;omega)
  show 1 + a.size + (rdL 2 .fls (nx q)).1.size + 3 * (rdL 2 .fls (nx q)).2.1.length ≤ _
  omega
theorem I7 {m:Nat} (hsub:Rds dJ 3 m):Rds iF 2 (m + 1):=by
 intro e b t s w ht h hm
 rw [fl2] at hm
 apply MA;unfold uN
 refine iCall ((hsub e b t s w ht h (by rw [fl3];omega)).mono ?_)
 rintro v w1 ⟨h1,hc1,ho1⟩
 have hlen:=iJ 3 .fls s
 have hz:=bZ 3 .fls s
 have htl:=h.len
 have hf:Fm.fls.size = 1:=rfl
 rw [rdL2]
 refine iLp (fun q:Value × Fm × RSt=>[q.1]) (fun q w'=>RdS e b t q.2.2 w' ∧ Ch (fun x=>x = b) w w' ∧ OwK 2 w.heap.size aE w' q.1 q.2.1.size q.2.1.cells ∧ rdL 5 q.2.1 q.2.2 = rdL 5 (rdL 3 .fls s).1 (rdL 3 .fls s).2 ∧ q.2.2.1.length ≤ s.1.length ∧ q.2.1.size + 3 * q.2.2.1.length ≤ 1 + 3 * s.1.length) (fun q=>q.2.2.1.length) (v,rdL 3 .fls s) rfl
  ⟨h1,hc1,ho1,rfl,hlen,by show (rdL 3 .fls s).1.size + 3 * (rdL 3 .fls s).2.1.length ≤ _;omega⟩ ?_
 rintro ⟨v,a,q⟩ w3 Kn ⟨h3,hc3,ho3,hq,hql,hqs⟩ hKn
 have h3:RdS e b t q w3:=h3
 have ho3:OwK 2 w.heap.size aE w3 v a.size a.cells:=ho3
 have hq:rdL 5 a q = _:=hq
 have hql:q.1.length ≤ s.1.length:=hql
 have hqs:a.size + 3 * q.1.length ≤ 1 + 3 * s.1.length:=hqs
 intro _
 refine iCall ((aS 38 (by decide) (by omega) h3).mono ?_)
 rintro _ w4 ⟨rfl,h4,hc4⟩
 have ho4:=ho3.ch hc4 (gL h ho3 (Nat.le_refl _))
 rw [← hq,rdL5]
 cases hk:tk 38 q
 ·rw [hk,if_neg (by decide)] at h4
  rw [if_neg (by decide)]
  exact iCndF rfl ⟨h4,aA hc3 hc4,ho4⟩
 ·rw [hk,if_pos rfl] at h4
  have hnx:=aY hk
  rw [if_pos rfl]
  refine iCndT rfl ?_
  refine iCall ((hsub e b t _ w4 ht h4 (by rw [fl3];omega)).mono ?_)
  rintro v5 w5 ⟨h5,hc5,ho5⟩
  have hz5:=bZ 3 .fls (nx q)
  have hl5:=iJ 3 .fls (nx q)
  have ho45:=ho4.ch hc5 (gL h ho4 (Nat.le_refl _))
  have hsz:(Fm.and a (rdL 3 .fls (nx q)).1).size ≤ 1099511627776:=by
   show 1 + _ + _ ≤ _;omega
  refine iCall ((fU (c:=.and a (rdL 3 .fls (nx q)).1) (k:=2) rfl rfl ho45.sl ho5.sl hsz).mono ?_)
  rintro v6 w6 ⟨h6,ho6⟩
  have hcc:=aA hc3 (aA hc4 hc5)
  have e1:rdL 5 (rdL 3 .fls s).1 (rdL 3 .fls s).2 = rdL 5 (.and a (rdL 3 .fls (nx q)).1) (rdL 3 .fls (nx q)).2:=by rw [← hq,rdL5,if_pos hk]
  refine hKn (v6,.and a (rdL 3 .fls (nx q)).1,(rdL 3 .fls (nx q)).2) _ ⟨h5.ext h6,aM hcc h6,ho6.mono hcc.size,e1.symm,by show (rdL 3 .fls (nx q)).2.1.length ≤ _;omega,?_⟩ (by show (rdL 3 .fls (nx q)).2.1.length < q.1.length;omega)
  show 1 + a.size + (rdL 3 .fls (nx q)).1.size + 3 * (rdL 3 .fls (nx q)).2.1.length ≤ _
  omega
theorem U3 {m:Nat} (hsub:Rds m7 2 m):Rds oX 1 (m + 1):=by
 intro e b t s w ht h hm
 rw [fl1] at hm
 apply W2;unfold I5
 refine iCall ((hsub e b t s w ht h (by rw [fl2];omega)).mono ?_)
 rintro v w1 ⟨h1,hc1,ho1⟩
 have hlen:=iJ 2 .fls s
 have hz:=bZ 2 .fls s
 have htl:=h.len
 have hf:Fm.fls.size = 1:=rfl
 rw [rdL1]
 refine iLp (fun q:Value × Fm × RSt=>[q.1]) (fun q w'=>RdS e b t q.2.2 w' ∧ Ch (fun x=>x = b) w w' ∧ OwK 2 w.heap.size aE w' q.1 q.2.1.size q.2.1.cells ∧ rdL 4 q.2.1 q.2.2 = rdL 4 (rdL 2 .fls s).1 (rdL 2 .fls s).2 ∧ q.2.2.1.length ≤ s.1.length ∧ q.2.1.size + 3 * q.2.2.1.length ≤ 1 + 3 * s.1.length) (fun q=>q.2.2.1.length) (v,rdL 2 .fls s) rfl
  ⟨h1,hc1,ho1,rfl,hlen,by show (rdL 2 .fls s).1.size + 3 * (rdL 2 .fls s).2.1.length ≤ _;omega⟩ ?_
 rintro ⟨v,a,q⟩ w3 Kn ⟨h3,hc3,ho3,hq,hql,hqs⟩ hKn
 have h3:RdS e b t q w3:=h3
 have ho3:OwK 2 w.heap.size aE w3 v a.size a.cells:=ho3
 have hq:rdL 4 a q = _:=hq
 have hql:q.1.length ≤ s.1.length:=hql
 have hqs:a.size + 3 * q.1.length ≤ 1 + 3 * s.1.length:=hqs
 intro _
 refine iCall ((bK 124 (by decide) (by omega) h3).mono ?_)
 rintro _ w4 ⟨rfl,h4,hc4⟩
 have ho4:=ho3.ch hc4 (gL h ho3 (Nat.le_refl _))
 rw [← hq,rdL4]
 cases hk:tk 124 q
 ·rw [hk,if_neg (by decide)] at h4
  rw [if_neg (by decide)]
  exact iCndF rfl ⟨h4,aA hc3 hc4,ho4⟩
 ·rw [hk,if_pos rfl] at h4
  have hnx:=aY hk
  rw [if_pos rfl]
  refine iCndT rfl ?_
  refine iCall ((hsub e b t _ w4 ht h4 (by rw [fl2];omega)).mono ?_)
  rintro v5 w5 ⟨h5,hc5,ho5⟩
  have hz5:=bZ 2 .fls (nx q)
  have hl5:=iJ 2 .fls (nx q)
  have ho45:=ho4.ch hc5 (gL h ho4 (Nat.le_refl _))
  have hsz:(Fm.or a (rdL 2 .fls (nx q)).1).size ≤ 1099511627776:=by
   show 1 + _ + _ ≤ _;omega
  refine iCall ((bL (c:=.or a (rdL 2 .fls (nx q)).1) (k:=3) rfl rfl ho45.sl ho5.sl hsz).mono ?_)
  rintro v6 w6 ⟨h6,ho6⟩
  have hcc:=aA hc3 (aA hc4 hc5)
  have e1:rdL 4 (rdL 2 .fls s).1 (rdL 2 .fls s).2 = rdL 4 (.or a (rdL 2 .fls (nx q)).1) (rdL 2 .fls (nx q)).2:=by rw [← hq,rdL4,if_pos hk]
  refine hKn (v6,.or a (rdL 2 .fls (nx q)).1,(rdL 2 .fls (nx q)).2) _ ⟨h5.ext h6,aM hcc h6,ho6.mono hcc.size,e1.symm,by show (rdL 2 .fls (nx q)).2.1.length ≤ _;omega,?_⟩ (by show (rdL 2 .fls (nx q)).2.1.length < q.1.length;omega)
  show 1 + a.size + (rdL 2 .fls (nx q)).1.size + 3 * (rdL 2 .fls (nx q)).2.1.length ≤ _
  omega
theorem RX {m:Nat} (hsub:Rds f7 3 m):Rds m7 2 (m + 1):=by
 intro e b t s w ht h hm
 rw [fl2] at hm
 apply U7;unfold GJ
 refine iCall ((hsub e b t s w ht h (by rw [fl3];omega)).mono ?_)
 rintro v w1 ⟨h1,hc1,ho1⟩
 have hlen:=iJ 3 .fls s
 have hz:=bZ 3 .fls s
 have htl:=h.len
 have hf:Fm.fls.size = 1:=rfl
 rw [rdL2]
 refine iLp (fun q:Value × Fm × RSt=>[q.1]) (fun q w'=>RdS e b t q.2.2 w' ∧ Ch (fun x=>x = b) w w' ∧ OwK 2 w.heap.size aE w' q.1 q.2.1.size q.2.1.cells ∧ rdL 5 q.2.1 q.2.2 = rdL 5 (rdL 3 .fls s).1 (rdL 3 .fls s).2 ∧ q.2.2.1.length ≤ s.1.length ∧ q.2.1.size + 3 * q.2.2.1.length ≤ 1 + 3 * s.1.length) (fun q=>q.2.2.1.length) (v,rdL 3 .fls s) rfl
  ⟨h1,hc1,ho1,rfl,hlen,by show (rdL 3 .fls s).1.size + 3 * (rdL 3 .fls s).2.1.length ≤ _;omega⟩ ?_
 rintro ⟨v,a,q⟩ w3 Kn ⟨h3,hc3,ho3,hq,hql,hqs⟩ hKn
 have h3:RdS e b t q w3:=h3
 have ho3:OwK 2 w.heap.size aE w3 v a.size a.cells:=ho3
 have hq:rdL 5 a q = _:=hq
 have hql:q.1.length ≤ s.1.length:=hql
 have hqs:a.size + 3 * q.1.length ≤ 1 + 3 * s.1.length:=hqs
 intro _
 refine iCall ((bK 38 (by decide) (by omega) h3).mono ?_)
 rintro _ w4 ⟨rfl,h4,hc4⟩
 have ho4:=ho3.ch hc4 (gL h ho3 (Nat.le_refl _))
 rw [← hq,rdL5]
 cases hk:tk 38 q
 ·rw [hk,if_neg (by decide)] at h4
  rw [if_neg (by decide)]
  exact iCndF rfl ⟨h4,aA hc3 hc4,ho4⟩
 ·rw [hk,if_pos rfl] at h4
  have hnx:=aY hk
  rw [if_pos rfl]
  refine iCndT rfl ?_
  refine iCall ((hsub e b t _ w4 ht h4 (by rw [fl3];omega)).mono ?_)
  rintro v5 w5 ⟨h5,hc5,ho5⟩
  have hz5:=bZ 3 .fls (nx q)
  have hl5:=iJ 3 .fls (nx q)
  have ho45:=ho4.ch hc5 (gL h ho4 (Nat.le_refl _))
  have hsz:(Fm.and a (rdL 3 .fls (nx q)).1).size ≤ 1099511627776:=by
   show 1 + _ + _ ≤ _;omega
  refine iCall ((bL (c:=.and a (rdL 3 .fls (nx q)).1) (k:=2) rfl rfl ho45.sl ho5.sl hsz).mono ?_)
  rintro v6 w6 ⟨h6,ho6⟩
  have hcc:=aA hc3 (aA hc4 hc5)
  have e1:rdL 5 (rdL 3 .fls s).1 (rdL 3 .fls s).2 = rdL 5 (.and a (rdL 3 .fls (nx q)).1) (rdL 3 .fls (nx q)).2:=by rw [← hq,rdL5,if_pos hk]
  refine hKn (v6,.and a (rdL 3 .fls (nx q)).1,(rdL 3 .fls (nx q)).2) _ ⟨h5.ext h6,aM hcc h6,ho6.mono hcc.size,e1.symm,by show (rdL 3 .fls (nx q)).2.1.length ≤ _;omega,?_⟩ (by show (rdL 3 .fls (nx q)).2.1.length < q.1.length;omega)
  show 1 + a.size + (rdL 3 .fls (nx q)).1.size + 3 * (rdL 3 .fls (nx q)).2.1.length ≤ _
  omega
theorem HX {m:Nat} (him:Rds cH 0 m) (e:TypeId) (b:Nat) (t:Str) (s:RSt) (w:World) (ht:t.length ≤ 4194304) (h:RdS e b t s w) (hm:8 * s.1.length + 1 ≤ m + 1) (hn1:tk 126 s = false) (hn2:tk 91 s = false) (hn3:tk 60 s = false):
  Cal Tryz.prog tE #[.pointer (some ⟨b,0,none⟩)] w (ReadQ e b t aE (rdL 3 .fls s) w):=by
 apply JR;unfold gV
 have htl:=h.len
 have key:∀ {r:Fm × RSt},(rdL 3 .fls s = r → gV (.pointer (some ⟨b,0,none⟩)) w (ReadQ e b t aE r w)) → rdL 3 .fls s = r → gV (.pointer (some ⟨b,0,none⟩)) w (ReadQ e b t aE (rdL 3 .fls s) w):=fun h e=>by rw [e];exact h e
 refine iCall ((aS 70 (by decide) (by omega) h).mono ?_)
 rintro _ w1 ⟨rfl,h1,hc1⟩
 have two:∀ {c d:UInt8},tk c s = true → c ≠ d → tk d s = false:=fun a b=>RP a b
 cases k1:tk 70 s
 rotate_left
 ·rw [k1,if_pos rfl] at h1
  refine iCndT rfl ?_
  have er:rdL 3 .fls s = (.fls,nx s):=rdL3 (Q:=fun x=>x = _) (fun h=>absurd (hn1.symm.trans h) (by decide)) (fun h=>absurd (hn2.symm.trans h) (by decide)) (fun h=>absurd (hn3.symm.trans h) (by decide)) (fun _=>rfl) (fun h=>absurd ((two k1 (by decide)).symm.trans h) (by decide)) (fun h=>absurd ((two k1 (by decide)).symm.trans h) (by decide)) (fun v hv h=>absurd ((two k1 (fC hv (by decide)).symm).symm.trans h) (by decide)) (fun _ _ _ h _ _ _=>absurd (h.symm.trans k1) (by decide))
  rw [er]
  refine iCall ((rK w1).mono ?_)
  rintro v w2 ⟨h2,ho2⟩
  exact ⟨h1.ext h2,aM hc1 h2,ho2.mono hc1.size⟩
 rw [k1,if_neg (by decide)] at h1
 refine iCndF rfl ?_
 refine iCall ((aS 84 (by decide) (by omega) h1).mono ?_)
 rintro _ w3 ⟨rfl,h3,hc3⟩
 have hc13:=aA hc1 hc3
 cases k2:tk 84 s
 rotate_left
 ·rw [k2,if_pos rfl] at h3
  refine iCndT rfl ?_
  have er:rdL 3 .fls s = (.imp .fls .fls,nx s):=rdL3 (Q:=fun x=>x = _) (fun h=>absurd (hn1.symm.trans h) (by decide)) (fun h=>absurd (hn2.symm.trans h) (by decide)) (fun h=>absurd (hn3.symm.trans h) (by decide)) (fun h=>absurd (k1.symm.trans h) (by decide)) (fun _=>rfl) (fun h=>absurd ((two k2 (by decide)).symm.trans h) (by decide)) (fun v hv h=>absurd ((two k2 (fC hv (by decide)).symm).symm.trans h) (by decide)) (fun _ _ _ _ h _ _=>absurd (h.symm.trans k2) (by decide))
  rw [er]
  refine iCall ((UY w3).mono ?_)
  rintro v w2 ⟨h2,ho2⟩
  exact ⟨h3.ext h2,aM hc13 h2,ho2.mono hc13.size⟩
 rw [k2,if_neg (by decide)] at h3
 refine iCndF rfl ?_
 refine iCall ((aS 40 (by decide) (by omega) h3).mono ?_)
 rintro _ w5 ⟨rfl,h5,hc5⟩
 have hc15:=aA hc13 hc5
 cases k3:tk 40 s
 rotate_left
 ·rw [k3,if_pos rfl] at h5
  refine iCndT rfl ?_
  have er:rdL 3 .fls s = ((rdL 0 .fls (nx s)).1,ndd 41 (rdL 0 .fls (nx s)).2):=rdL3 (Q:=fun x=>x = _) (fun h=>absurd (hn1.symm.trans h) (by decide)) (fun h=>absurd (hn2.symm.trans h) (by decide)) (fun h=>absurd (hn3.symm.trans h) (by decide)) (fun h=>absurd (k1.symm.trans h) (by decide)) (fun h=>absurd (k2.symm.trans h) (by decide)) (fun _=>rfl) (fun v hv h=>absurd ((two k3 (fC hv (by decide)).symm).symm.trans h) (by decide)) (fun _ _ _ _ _ h _=>absurd (h.symm.trans k3) (by decide))
  rw [er]
  have hnx:=aY k3
  refine iCall ((him e b t _ w5 ht h5 (by rw [fl0];omega)).mono ?_)
  rintro v w6 ⟨h6,hc6,ho6⟩
  refine iCall ((jU 41 (by decide) (by omega) h6).mono ?_)
  rintro _ w7 ⟨h7,hc7⟩
  exact ⟨h7,aA hc15 (aA hc6 hc7),(ho6.ch hc7 (gL h ho6 hc15.size)).mono hc15.size⟩
 rw [k3,if_neg (by decide)] at h5
 refine iCndF rfl ?_
 have hlet:(.string ⟨#[112,113,114,115,116,117]⟩:Value) = sv [112,113,114,115,116,117]:=rfl
 rw [hlet]
 refine XB (by kernel_rfl) fun q w8 hq h8 hI=>?_
 have hqb:q ≠ b:=by have:=h5.lt;omega
 refine iLp (fun _:Nat=>[]) (fun i w'=>i ≤ 6 ∧ RdS e b t s w' ∧ Ch (fun x=>x = b) w w' ∧ It w' q [112,113,114,115,116,117] i ∧ w.heap.size ≤ q ∧ ∀ v,v < i → tk (vl v) s = false) (fun i=>6 - i) 0 rfl ⟨Nat.zero_le _,h5.ext h8,aM hc15 h8,hI,by have:=hc15.size;omega,fun v hv=>by omega⟩ ?_
 rintro i w10 Kn ⟨hi,h10,hc10,hI10,hwq,hno⟩ hKn
 intro _
 by_cases hi6:i = 6
 ·subst hi6
  refine VR hI10 (by decide) ?_
  refine iEx (by rfl) ?_
  refine iCndF rfl ?_
  have er:rdL 3 .fls s = (.fls,(s.1,true)):=rdL3 (Q:=fun x=>x = _) (fun h=>absurd (hn1.symm.trans h) (by decide)) (fun h=>absurd (hn2.symm.trans h) (by decide)) (fun h=>absurd (hn3.symm.trans h) (by decide)) (fun h=>absurd (k1.symm.trans h) (by decide)) (fun h=>absurd (k2.symm.trans h) (by decide)) (fun h=>absurd (k3.symm.trans h) (by decide)) (fun v hv h=>absurd ((hno v hv).symm.trans h) (by decide)) (fun _ _ _ _ _ _ _=>rfl)
  rw [er]
  obtain ⟨k,_,_,hB⟩:=id h10
  ((with_reducible refine iNil ?_;refine iFa ?_))
  refine iStB hB (by simp) rfl fun _=>?_
  have hu:=Upd.setCell w10 b 2 (.bool true)
  refine iCall ((rK _).mono ?_)
  rintro v w2 ⟨h2,ho2⟩
  have hcu:=hc10.trans (hu.ch (S:=fun x=>x = b) rfl) (fun _ h=>.inl h)
  exact ⟨(RdS.bad h10).ext h2,aM hcu h2,ho2.mono hcu.size⟩
 ·have hi5:i < 6:=by omega
  have hgd:(([112,113,114,115,116,117]:Str).getD i 0) = vl i:=by
   have:i = 0 ∨ i = 1 ∨ i = 2 ∨ i = 3 ∨ i = 4 ∨ i = 5:=by omega
   rcases this with rfl | rfl | rfl | rfl | rfl | rfl <;> rfl
  refine W0 hI10 (by show i < 6;exact hi5) fun c d w11 _ hlow _ _ hu hI11=>?_
  rw [hgd,IQ i hi5] at hlow
  obtain ⟨rfl,rfl⟩:=hlow (by omega)
  have hcu:Ch (fun x=>x = b) w w11:=hc10.trans (hu.ch (S:=fun x=>x = q) rfl) (fun x hx=>.inr (by omega))
  have h11:RdS e b t s w11:=by
   obtain ⟨k,a1,a2,hB⟩:=h10
   exact ⟨k,a1,a2,hB.upd hu (fun e=>hqb e.symm)⟩
  ((with_reducible refine iE30 ?_))
  refine iCndT rfl ?_
  ((with_reducible refine iE31 ?_;refine iE32 ?_))
  refine ⟨_,_,rfl,?_⟩
  have ew:IntKind.u8.wrap ((112 + i:Nat):Int) = (((vl i).toNat:Nat):Int):=by
   rw [IQ i hi5]
   have:i = 0 ∨ i = 1 ∨ i = 2 ∨ i = 3 ∨ i = 4 ∨ i = 5:=by omega
   rcases this with rfl | rfl | rfl | rfl | rfl | rfl <;> decide
  refine iCall ((aS (vl i) ew (by omega) h11).mono ?_)
  rintro _ w12 ⟨rfl,h12,hc12⟩
  have hcc:=aA hcu hc12
  cases kv:tk (vl i) s
  ·rw [kv,if_neg (by decide)] at h12
   refine iCndF rfl ?_
   refine hKn (i + 1) _ ⟨by omega,h12,hcc,hI11.ch hc12 hqb,hwq,fun v hv=>?_⟩ (by omega)
   by_cases hvi:v = i
   ·rw [hvi];exact kv
   ·exact hno v (by omega)
  ·rw [kv,if_pos rfl] at h12
   refine iCndT rfl ?_
   have er:rdL 3 .fls s = (.var i,nx s):=rdL3 (Q:=fun x=>x = _) (fun h=>absurd (hn1.symm.trans h) (by decide)) (fun h=>absurd (hn2.symm.trans h) (by decide)) (fun h=>absurd (hn3.symm.trans h) (by decide)) (fun h=>absurd (k1.symm.trans h) (by decide)) (fun h=>absurd (k2.symm.trans h) (by decide)) (fun h=>absurd (k3.symm.trans h) (by decide)) (fun v hv h=>by
    have:vl i = vl v:=by
     apply Classical.byContradiction
     intro hne
     exact absurd ((two kv hne).symm.trans h) (by decide)
    rw [aBW hi5 hv this]) (fun _ _ _ _ _ _ h=>absurd ((h i hi5).symm.trans kv) (by decide))
   rw [er]
   refine iCall ((NE i w12).mono ?_)
   rintro v w2 ⟨h2,ho2⟩
   exact ⟨h12.ext h2,aM hcc h2,ho2.mono hcc.size⟩
theorem CQ {m:Nat} (hpre:Rds dJ 3 m) (him:Rds cH 0 m):Rds dJ 3 (m + 1):=by
 intro e b t s w ht h hm
 rw [fl3] at hm
 apply FQ;unfold pG
 have htl:=h.len
 have two:∀ {c d:UInt8},tk c s = true → c ≠ d → tk d s = false:=fun a b=>RP a b
 refine iCall ((aS 126 (by decide) (by omega) h).mono ?_)
 rintro _ w1 ⟨rfl,h1,hc1⟩
 have hf:Fm.fls.size = 1:=rfl
 cases k1:tk 126 s
 rotate_left
 ·rw [k1,if_pos rfl] at h1
  refine iCndT rfl ?_
  have er:rdL 3 .fls s = (.imp (rdL 3 .fls (nx s)).1 .fls,(rdL 3 .fls (nx s)).2):=rdL3 (Q:=fun x=>x = _) (fun _=>rfl) (fun h=>absurd ((two k1 (by decide)).symm.trans h) (by decide)) (fun h=>absurd ((two k1 (by decide)).symm.trans h) (by decide)) (fun h=>absurd ((two k1 (by decide)).symm.trans h) (by decide)) (fun h=>absurd ((two k1 (by decide)).symm.trans h) (by decide)) (fun h=>absurd ((two k1 (by decide)).symm.trans h) (by decide)) (fun v hv h=>absurd ((two k1 (fC hv (by decide)).symm).symm.trans h) (by decide)) (fun h _ _ _ _ _ _=>absurd (h.symm.trans k1) (by decide))
  rw [er]
  have hnx:=aY k1
  refine iCall ((hpre e b t _ w1 ht h1 (by rw [fl3];omega)).mono ?_)
  rintro v w2 ⟨h2,hc2,ho2⟩
  have hz:=bZ 3 .fls (nx s)
  refine iCall ((NG ho2.sl (by omega)).mono ?_)
  rintro v w3 ⟨h3,ho3⟩
  have hcc:=aA hc1 hc2
  exact ⟨h2.ext h3,aM hcc h3,ho3.mono hcc.size⟩
 rw [k1,if_neg (by decide)] at h1
 refine iCndF rfl ?_
 refine iCall ((aS 91 (by decide) (by omega) h1).mono ?_)
 rintro _ w3 ⟨rfl,h3,hc3⟩
 have hc13:=aA hc1 hc3
 cases k2:tk 91 s
 rotate_left
 ·rw [k2,if_pos rfl] at h3
  refine iCndT rfl ?_
  have er:rdL 3 .fls s = (.box (rdL 3 .fls (ndd 93 (nx s))).1,(rdL 3 .fls (ndd 93 (nx s))).2):=rdL3 (Q:=fun x=>x = _) (fun h=>absurd (k1.symm.trans h) (by decide)) (fun _=>rfl) (fun h=>absurd ((two k2 (by decide)).symm.trans h) (by decide)) (fun h=>absurd ((two k2 (by decide)).symm.trans h) (by decide)) (fun h=>absurd ((two k2 (by decide)).symm.trans h) (by decide)) (fun h=>absurd ((two k2 (by decide)).symm.trans h) (by decide)) (fun v hv h=>absurd ((two k2 (fC hv (by decide)).symm).symm.trans h) (by decide)) (fun _ h _ _ _ _ _=>absurd (h.symm.trans k2) (by decide))
  rw [er]
  have hnx:=aY k2
  have hnd:=lI 93 (nx s)
  refine iCall ((jU 93 (by decide) (by omega) h3).mono ?_)
  rintro _ w4 ⟨h4,hc4⟩
  refine iCall ((hpre e b t _ w4 ht h4 (by rw [fl3];omega)).mono ?_)
  rintro v w5 ⟨h5,hc5,ho5⟩
  have hz:=bZ 3 .fls (ndd 93 (nx s))
  refine iCall ((DK (c:=.box (rdL 3 .fls (ndd 93 (nx s))).1) (k:=5) rfl rfl ho5.sl (by show 1 + _ ≤ _;omega)).mono ?_)
  rintro v w6 ⟨h6,ho6⟩
  have hcc:=aA hc13 (aA hc4 hc5)
  exact ⟨h5.ext h6,aM hcc h6,ho6.mono hcc.size⟩
 rw [k2,if_neg (by decide)] at h3
 refine iCndF rfl ?_
 refine iCall ((aS 60 (by decide) (by omega) h3).mono ?_)
 rintro _ w7 ⟨rfl,h7,hc7⟩
 have hc17:=aA hc13 hc7
 cases k3:tk 60 s
 rotate_left
 ·rw [k3,if_pos rfl] at h7
  refine iCndT rfl ?_
  have er:rdL 3 .fls s = (.dia (rdL 3 .fls (ndd 62 (nx s))).1,(rdL 3 .fls (ndd 62 (nx s))).2):=rdL3 (Q:=fun x=>x = _) (fun h=>absurd (k1.symm.trans h) (by decide)) (fun h=>absurd (k2.symm.trans h) (by decide)) (fun _=>rfl) (fun h=>absurd ((two k3 (by decide)).symm.trans h) (by decide)) (fun h=>absurd ((two k3 (by decide)).symm.trans h) (by decide)) (fun h=>absurd ((two k3 (by decide)).symm.trans h) (by decide)) (fun v hv h=>absurd ((two k3 (fC hv (by decide)).symm).symm.trans h) (by decide)) (fun _ _ h _ _ _ _=>absurd (h.symm.trans k3) (by decide))
  rw [er]
  have hnx:=aY k3
  have hnd:=lI 62 (nx s)
  refine iCall ((jU 62 (by decide) (by omega) h7).mono ?_)
  rintro _ w4 ⟨h4,hc4⟩
  refine iCall ((hpre e b t _ w4 ht h4 (by rw [fl3];omega)).mono ?_)
  rintro v w5 ⟨h5,hc5,ho5⟩
  have hz:=bZ 3 .fls (ndd 62 (nx s))
  refine iCall ((DK (c:=.dia (rdL 3 .fls (ndd 62 (nx s))).1) (k:=6) rfl rfl ho5.sl (by show 1 + _ ≤ _;omega)).mono ?_)
  rintro v w6 ⟨h6,ho6⟩
  have hcc:=aA hc17 (aA hc4 hc5)
  exact ⟨h5.ext h6,aM hcc h6,ho6.mono hcc.size⟩
 rw [k3,if_neg (by decide)] at h7
 refine iCndF rfl ?_
 refine iCall ((HX him e b t s w7 ht h7 hm k1 k2 k3).mono ?_)
 rintro v w8 ⟨h8,hc8,ho8⟩
 exact ⟨h8,aA hc17 hc8,ho8.mono hc17.size⟩
theorem Y8:∀ m,Rds cH 0 m ∧ Rds jB 1 m ∧ Rds iF 2 m ∧ Rds dJ 3 m
 | 0=>⟨fun _ _ _ _ _ _ _ h=>by rw [fl0] at h;omega,fun _ _ _ _ _ _ _ h=>by rw [fl1] at h;omega,fun _ _ _ _ _ _ _ h=>by rw [fl2] at h;omega,fun _ _ _ _ _ _ _ h=>by rw [fl3] at h;omega⟩
 | m + 1=>
  have h:=Y8 m
  ⟨FO h.2.1 h.1,ME h.2.2.1,I7 h.2.2.2,CQ h.2.2.2 h.1⟩
theorem o9 {e:TypeId} {b:Nat} {t:Str} {s:RSt} {w:World} (ht:t.length ≤ 4194304) (h:RdS e b t s w):Cal Tryz.prog cH #[.pointer (some ⟨b,0,none⟩)] w (ReadQ e b t aE (rdL 0 .fls s) w):=
 (Y8 _).1 e b t s w ht h (Nat.le_refl _)
end Go.Proofs.YteifjhpddhppcaaGreatDoor

namespace Go.Vc
def rdOk (t:Str):Bool:=!(rd t).2.2 && decide ((rd t).2.1 = [])
def rdAt (t:Str):Nat:=t.length - (rd t).2.1.length
theorem O7 (t:Str):rd t = rdL 0 .fls (t,false):=rfl
theorem aD8 (t:Str):(rd t).1.size ≤ 1 + 3 * t.length:=by
 have:=bZ 0 .fls (t,false)
 rw [← O7] at this
 have h:Fm.fls.size = 1:=rfl
 have:(rd t).1.size + 3 * (rd t).2.1.length ≤ 1 + 3 * t.length:=by rw [← h];exact this
 omega
theorem aBG (t:Str):(rd t).2.1.length ≤ t.length:=iJ 0 .fls (t,false)
theorem EL (t:Str):(rd t).1.good:=cO _ _ _ _ trivial
theorem RdS.place {e:TypeId} {b:Nat} {t:Str} {s:RSt} {w:World} (h:RdS e b t s w):Blk e w b [sv t,.int .i64 ((t.length - s.1.length:Nat):Int),.bool s.2]:=by
 obtain ⟨k,h1,h2,h3⟩:=h
 have:t.length - s.1.length = k:=by rw [h2,List.length_drop];omega
 rw [this];exact h3
theorem RdS.new {e:TypeId} {b:Nat} {t:Str} {w:World} (h:Blk e w b [sv t,.int .i64 0,.bool false]):RdS e b t (t,false) w:=⟨0,Nat.zero_le _,rfl,h⟩
end Go.Vc
namespace Go.Proofs.YteifjhpddhppcaaGreatDoor
open Go.Vc
theorem LL {m:Nat} (hpre:Rds f7 3 m) (him:Rds e5 0 m):Rds f7 3 (m + 1):=by
 intro e b t s w ht h hm
 rw [fl3] at hm
 apply NT;unfold wV
 have htl:=h.len
 have hf:Fm.fls.size = 1:=rfl
 have two:∀ {c d:UInt8},tk c s = true → c ≠ d → tk d s = false:=fun a b=>RP a b
 have hlet:(.string ⟨#[112,113,114,115,116,117]⟩:Value) = sv [112,113,114,115,116,117]:=rfl
 rw [hlet]
 refine iLp (fun i:Nat=>[.int .i64 (i:Int)]) (fun i w'=>i ≤ 6 ∧ RdS e b t s w' ∧ Ch (fun x=>x = b) w w' ∧ ∀ v,v < i → tk (vl v) s = false) (fun i=>6 - i) 0 rfl ⟨Nat.zero_le _,h,(Ext.refl w).ch,fun v hv=>by omega⟩ ?_
 rintro i w2 Kn ⟨hi,h2,hc2,hno⟩ hKn
 (intro _;(try simp only [gx]))
 refine iLenT ?_
 refine iLt ?_
 refine iCndP (fun h3=>?_) (fun h3=>?_)
 ·have hi5:i < 6:=by simp at h3;omega
  have hgd:(([112,113,114,115,116,117]:Str).getD i 0) = vl i:=by
   have:i = 0 ∨ i = 1 ∨ i = 2 ∨ i = 3 ∨ i = 4 ∨ i = 5:=by omega
   rcases this with rfl | rfl | rfl | rfl | rfl | rfl <;> rfl
  refine iIs (by show i < 6;exact hi5) ?_
  rw [hgd]
  refine iCall ((bK (vl i) rfl (by omega) h2).mono ?_)
  rintro _ w3 ⟨rfl,h4,hc4⟩
  have hcc:=aA hc2 hc4
  cases kv:tk (vl i) s
  ·rw [kv,if_neg (by decide)] at h4
   refine iCndF rfl ?_
   (refine iAdd (by omega) ?_)
   refine hKn (i + 1) _ ⟨by omega,h4,hcc,fun v hv=>?_⟩ (by omega)
   by_cases hvi:v = i
   ·rw [hvi];exact kv
   ·exact hno v (by omega)
  ·rw [kv,if_pos rfl] at h4
   refine iCndT rfl ?_
   have er:rdL 3 .fls s = (.var i,nx s):=rdL3 (Q:=fun x=>x = _) (fun h=>absurd ((two kv (fC hi5 (by decide))).symm.trans h) (by decide)) (fun h=>absurd ((two kv (fC hi5 (by decide))).symm.trans h) (by decide)) (fun h=>absurd ((two kv (fC hi5 (by decide))).symm.trans h) (by decide)) (fun h=>absurd ((two kv (fC hi5 (by decide))).symm.trans h) (by decide)) (fun h=>absurd ((two kv (fC hi5 (by decide))).symm.trans h) (by decide)) (fun h=>absurd ((two kv (fC hi5 (by decide))).symm.trans h) (by decide)) (fun v hv h=>by
    have:vl i = vl v:=by
     apply Classical.byContradiction
     intro hne
     exact absurd ((two kv hne).symm.trans h) (by decide)
    rw [aBW hi5 hv this]) (fun _ _ _ _ _ _ h=>absurd ((h i hi5).symm.trans kv) (by decide))
   rw [er]
   refine iCall ((qZ i w3).mono ?_)
   rintro v w4 ⟨h5,ho5⟩
   exact ⟨h4.ext h5,aM hcc h5,ho5.mono hcc.size⟩
 have hi6:i = 6:=by simp at h3;omega
 subst hi6
 refine iCall ((bK 70 (by decide) (by omega) h2).mono ?_)
 rintro _ wa1 ⟨rfl,ha1,ca1⟩
 have cb1:=aA hc2 ca1
 cases k1:tk 70 s
 rotate_left
 ·rw [k1,if_pos rfl] at ha1
  refine iCndT rfl ?_
  have er:rdL 3 .fls s = (.fls,nx s):=rdL3 (Q:=fun x=>x = _) (fun h=>absurd ((two k1 (by decide)).symm.trans h) (by decide)) (fun h=>absurd ((two k1 (by decide)).symm.trans h) (by decide)) (fun h=>absurd ((two k1 (by decide)).symm.trans h) (by decide)) (fun _=>rfl) (fun h=>absurd ((two k1 (by decide)).symm.trans h) (by decide)) (fun h=>absurd ((two k1 (by decide)).symm.trans h) (by decide)) (fun v hv h=>absurd ((hno v hv).symm.trans h) (by decide)) (fun _ _ _ h _ _ _=>absurd (h.symm.trans k1) (by decide))
  rw [er]
  have hnx:=aY k1
  refine iCall ((eA wa1).mono ?_)
  rintro v w4 ⟨h5,ho5⟩
  exact ⟨ha1.ext h5,aM cb1 h5,ho5.mono cb1.size⟩
 rw [k1,if_neg (by decide)] at ha1
 refine iCndF rfl ?_
 refine iCall ((bK 84 (by decide) (by omega) ha1).mono ?_)
 rintro _ wa2 ⟨rfl,ha2,ca2⟩
 have cb2:=aA cb1 ca2
 cases k2:tk 84 s
 rotate_left
 ·rw [k2,if_pos rfl] at ha2
  refine iCndT rfl ?_
  have er:rdL 3 .fls s = (.imp .fls .fls,nx s):=rdL3 (Q:=fun x=>x = _) (fun h=>absurd ((two k2 (by decide)).symm.trans h) (by decide)) (fun h=>absurd ((two k2 (by decide)).symm.trans h) (by decide)) (fun h=>absurd ((two k2 (by decide)).symm.trans h) (by decide)) (fun h=>absurd (k1.symm.trans h) (by decide)) (fun _=>rfl) (fun h=>absurd ((two k2 (by decide)).symm.trans h) (by decide)) (fun v hv h=>absurd ((hno v hv).symm.trans h) (by decide)) (fun _ _ _ _ h _ _=>absurd (h.symm.trans k2) (by decide))
  rw [er]
  have hnx:=aY k2
  refine iCall ((zH wa2).mono ?_)
  rintro v w4 ⟨h5,ho5⟩
  exact ⟨ha2.ext h5,aM cb2 h5,ho5.mono cb2.size⟩
 rw [k2,if_neg (by decide)] at ha2
 refine iCndF rfl ?_
 refine iCall ((bK 126 (by decide) (by omega) ha2).mono ?_)
 rintro _ wa3 ⟨rfl,ha3,ca3⟩
 have cb3:=aA cb2 ca3
 cases k3:tk 126 s
 rotate_left
 ·rw [k3,if_pos rfl] at ha3
  refine iCndT rfl ?_
  have er:rdL 3 .fls s = (.imp (rdL 3 .fls (nx s)).1 .fls,(rdL 3 .fls (nx s)).2):=rdL3 (Q:=fun x=>x = _) (fun _=>rfl) (fun h=>absurd ((two k3 (by decide)).symm.trans h) (by decide)) (fun h=>absurd ((two k3 (by decide)).symm.trans h) (by decide)) (fun h=>absurd (k1.symm.trans h) (by decide)) (fun h=>absurd (k2.symm.trans h) (by decide)) (fun h=>absurd ((two k3 (by decide)).symm.trans h) (by decide)) (fun v hv h=>absurd ((hno v hv).symm.trans h) (by decide)) (fun h _ _ _ _ _ _=>absurd (h.symm.trans k3) (by decide))
  rw [er]
  have hnx:=aY k3
  refine iCall ((hpre e b t _ wa3 ht ha3 (by rw [fl3];omega)).mono ?_)
  rintro v w5 ⟨h5,hc5,ho5⟩
  have hz:=bZ 3 .fls (nx s)
  refine iCall ((rO ho5.sl (by omega)).mono ?_)
  rintro v w6 ⟨h6,ho6⟩
  have hcc:=aA cb3 hc5
  exact ⟨h5.ext h6,aM hcc h6,ho6.mono hcc.size⟩
 rw [k3,if_neg (by decide)] at ha3
 refine iCndF rfl ?_
 refine iCall ((bK 91 (by decide) (by omega) ha3).mono ?_)
 rintro _ wa4 ⟨rfl,ha4,ca4⟩
 have cb4:=aA cb3 ca4
 cases k4:tk 91 s
 rotate_left
 ·rw [k4,if_pos rfl] at ha4
  refine iCndT rfl ?_
  have er:rdL 3 .fls s = (.box (rdL 3 .fls (ndd 93 (nx s))).1,(rdL 3 .fls (ndd 93 (nx s))).2):=rdL3 (Q:=fun x=>x = _) (fun h=>absurd (k3.symm.trans h) (by decide)) (fun _=>rfl) (fun h=>absurd ((two k4 (by decide)).symm.trans h) (by decide)) (fun h=>absurd (k1.symm.trans h) (by decide)) (fun h=>absurd (k2.symm.trans h) (by decide)) (fun h=>absurd ((two k4 (by decide)).symm.trans h) (by decide)) (fun v hv h=>absurd ((hno v hv).symm.trans h) (by decide)) (fun _ h _ _ _ _ _=>absurd (h.symm.trans k4) (by decide))
  rw [er]
  have hnx:=aY k4
  have hnd:=lI 93 (nx s)
  refine iCall ((oY 93 (by decide) (by omega) ha4).mono ?_)
  rintro _ w4 ⟨h4,hc4⟩
  refine iCall ((hpre e b t _ w4 ht h4 (by rw [fl3];omega)).mono ?_)
  rintro v w5 ⟨h5,hc5,ho5⟩
  have hz:=bZ 3 .fls (ndd 93 (nx s))
  refine iCall ((r9 (c:=.box (rdL 3 .fls (ndd 93 (nx s))).1) (k:=5) rfl rfl ho5.sl (by show 1 + _ ≤ _;omega)).mono ?_)
  rintro v w6 ⟨h6,ho6⟩
  have hcc:=aA cb4 (aA hc4 hc5)
  exact ⟨h5.ext h6,aM hcc h6,ho6.mono hcc.size⟩
 rw [k4,if_neg (by decide)] at ha4
 refine iCndF rfl ?_
 refine iCall ((bK 60 (by decide) (by omega) ha4).mono ?_)
 rintro _ wa5 ⟨rfl,ha5,ca5⟩
 have cb5:=aA cb4 ca5
 cases k5:tk 60 s
 rotate_left
 ·rw [k5,if_pos rfl] at ha5
  refine iCndT rfl ?_
  have er:rdL 3 .fls s = (.dia (rdL 3 .fls (ndd 62 (nx s))).1,(rdL 3 .fls (ndd 62 (nx s))).2):=rdL3 (Q:=fun x=>x = _) (fun h=>absurd (k3.symm.trans h) (by decide)) (fun h=>absurd (k4.symm.trans h) (by decide)) (fun _=>rfl) (fun h=>absurd (k1.symm.trans h) (by decide)) (fun h=>absurd (k2.symm.trans h) (by decide)) (fun h=>absurd ((two k5 (by decide)).symm.trans h) (by decide)) (fun v hv h=>absurd ((hno v hv).symm.trans h) (by decide)) (fun _ _ h _ _ _ _=>absurd (h.symm.trans k5) (by decide))
  rw [er]
  have hnx:=aY k5
  have hnd:=lI 62 (nx s)
  refine iCall ((oY 62 (by decide) (by omega) ha5).mono ?_)
  rintro _ w4 ⟨h4,hc4⟩
  refine iCall ((hpre e b t _ w4 ht h4 (by rw [fl3];omega)).mono ?_)
  rintro v w5 ⟨h5,hc5,ho5⟩
  have hz:=bZ 3 .fls (ndd 62 (nx s))
  refine iCall ((r9 (c:=.dia (rdL 3 .fls (ndd 62 (nx s))).1) (k:=6) rfl rfl ho5.sl (by show 1 + _ ≤ _;omega)).mono ?_)
  rintro v w6 ⟨h6,ho6⟩
  have hcc:=aA cb5 (aA hc4 hc5)
  exact ⟨h5.ext h6,aM hcc h6,ho6.mono hcc.size⟩
 rw [k5,if_neg (by decide)] at ha5
 refine iCndF rfl ?_
 refine iCall ((bK 40 (by decide) (by omega) ha5).mono ?_)
 rintro _ wa6 ⟨rfl,ha6,ca6⟩
 have cb6:=aA cb5 ca6
 cases k6:tk 40 s
 rotate_left
 ·rw [k6,if_pos rfl] at ha6
  refine iCndT rfl ?_
  have er:rdL 3 .fls s = ((rdL 0 .fls (nx s)).1,ndd 41 (rdL 0 .fls (nx s)).2):=rdL3 (Q:=fun x=>x = _) (fun h=>absurd (k3.symm.trans h) (by decide)) (fun h=>absurd (k4.symm.trans h) (by decide)) (fun h=>absurd (k5.symm.trans h) (by decide)) (fun h=>absurd (k1.symm.trans h) (by decide)) (fun h=>absurd (k2.symm.trans h) (by decide)) (fun _=>rfl) (fun v hv h=>absurd ((hno v hv).symm.trans h) (by decide)) (fun _ _ _ _ _ h _=>absurd (h.symm.trans k6) (by decide))
  rw [er]
  have hnx:=aY k6
  refine iCall ((him e b t _ wa6 ht ha6 (by rw [fl0];omega)).mono ?_)
  rintro v w6 ⟨h6,hc6,ho6⟩
  refine iCall ((oY 41 (by decide) (by omega) h6).mono ?_)
  rintro _ w7 ⟨h7,hc7⟩
  exact ⟨h7,aA cb6 (aA hc6 hc7),(ho6.ch hc7 (gL h ho6 cb6.size)).mono cb6.size⟩
 rw [k6,if_neg (by decide)] at ha6
 refine iCndF rfl ?_
 have er:rdL 3 .fls s = (.fls,(s.1,true)):=rdL3 (Q:=fun x=>x = _) (fun h=>absurd (k3.symm.trans h) (by decide)) (fun h=>absurd (k4.symm.trans h) (by decide)) (fun h=>absurd (k5.symm.trans h) (by decide)) (fun h=>absurd (k1.symm.trans h) (by decide)) (fun h=>absurd (k2.symm.trans h) (by decide)) (fun h=>absurd (k6.symm.trans h) (by decide)) (fun v hv h=>absurd ((hno v hv).symm.trans h) (by decide)) (fun _ _ _ _ _ _ _=>rfl)
 rw [er]
 obtain ⟨k,_,_,hB⟩:=id ha6
 ((with_reducible refine iNil ?_;refine iFa ?_))
 refine iStB hB (by simp) rfl fun _=>?_
 have hu:=Upd.setCell wa6 b 2 (.bool true)
 refine iCall ((eA _).mono ?_)
 rintro v w4 ⟨h5,ho5⟩
 have hcu:=cb6.trans (hu.ch (S:=fun x=>x = b) rfl) (fun _ h=>.inl h)
 exact ⟨(RdS.bad ha6).ext h5,aM hcu h5,ho5.mono hcu.size⟩
theorem ZP:∀ m,Rds e5 0 m ∧ Rds oX 1 m ∧ Rds m7 2 m ∧ Rds f7 3 m
 | 0=>⟨fun _ _ _ _ _ _ _ h=>by rw [fl0] at h;omega,fun _ _ _ _ _ _ _ h=>by rw [fl1] at h;omega,fun _ _ _ _ _ _ _ h=>by rw [fl2] at h;omega,fun _ _ _ _ _ _ _ h=>by rw [fl3] at h;omega⟩
 | m + 1=>
  have h:=ZP m
  ⟨OC h.2.1 h.1,U3 h.2.2.1,RX h.2.2.2,LL h.2.2.2 h.1⟩
theorem NL {e:TypeId} {b:Nat} {t:Str} {s:RSt} {w:World} (ht:t.length ≤ 4194304) (h:RdS e b t s w):Cal Tryz.prog e5 #[.pointer (some ⟨b,0,none⟩)] w (ReadQ e b t aE (rdL 0 .fls s) w):=
 (ZP _).1 e b t s w ht h (Nat.le_refl _)
theorem zG {t:Str} (ht:t.length ≤ 4194304) (w:World):Cal Tryz.prog CK #[sv t] w fun r w'=>Ext w w' ∧ ∃ v,r = .tuple #[v,.int .i64 (if rdOk t then -1 else (rdAt t:Int))] ∧ (rdOk t = true → FmW w.heap.size w' v (rd t).1) ∧ (rdOk t = false → v = .slice none 0 0):=by
 apply SY;unfold E2
 refine bB (cs:=#[sv t,.int .i64 0,.bool false]) (by simp [Instr.fill,Value.cells]) ?_
 refine iNew fun b w1 hb h1 hB=>?_
 obtain ⟨e,hB⟩:∃ e,Blk e w1 b [sv t,.int .i64 0,.bool false]:=⟨_,hB⟩
 refine iCall ((NL ht (RdS.new hB)).mono ?_)
 rintro v w2 ⟨h2,hc2,ho2⟩
 rw [← O7] at h2 ho2
 have hX2:Ext w w2:=h1.thenCh hc2 (fun c hc=>by omega)
 have hB2:=h2.place
 have hrl:=aBG t
 have hlt:decide (((t.length - (rd t).2.1.length:Nat):Int) < (t.length:Nat)) = !decide ((rd t).2.1 = []):=by
  cases hr:(rd t).2.1 with
  | nil=>simp
  | cons x l=>rw [hr] at hrl;simp only [List.length_cons] at hrl ⊢;rw [decide_eq_true (by omega)];rfl
 have hor:rdOk t = !((rd t).2.2 || !decide ((rd t).2.1 = [])):=by unfold rdOk;rw [Bool.not_or,Bool.not_not]
 refine iJnB ((rd t).2.2 || !decide ((rd t).2.1 = [])) w2 (fun J hJ=>?_) (fun w4 h4=>?_)
 ·((with_reducible refine iNil ?_;refine iFa ?_);refine iLdB (by assumption) (by first | rfl | simp) ?_)
  cases hb2:(rd t).2.2
  ·rw [hb2,Bool.false_or] at hJ
   refine iCndF rfl ?_
   ((with_reducible refine iNil ?_;refine iFa ?_);refine iLdB (by assumption) (by first | rfl | simp) ?_)
   refine iLenT ?_
   ((with_reducible refine iLt ?_))
   rw [hlt]
   exact hJ w2 (Ext.refl _)
  ·rw [hb2,Bool.true_or] at hJ
   exact iCndT rfl (hJ w2 (Ext.refl _))
 ·intro _
  have hB4:=hB2.ext h4
  cases hk:rdOk t
  ·refine iCndT (by show ((rd t).2.2 || !decide ((rd t).2.1 = [])) = true;rw [hk] at hor;rwa [Eq.comm,Bool.not_eq_false'] at hor) ?_
   ((with_reducible refine iNil ?_;refine iFa ?_);refine iLdB (by assumption) (by first | rfl | simp) ?_)
   intro w5 h5
   exact ⟨hX2.trans (h4.trans h5),_,rfl,(fun h=>by cases h),fun _=>rfl⟩
  ·refine iCndF (by show ((rd t).2.2 || !decide ((rd t).2.1 = [])) = false;rw [hk] at hor;rwa [Eq.comm,Bool.not_eq_true'] at hor) ?_
   exact ⟨hX2.trans h4,v,rfl,fun _=>(ho2.mono h1.size).ext h4,fun h=>by cases h⟩
end Go.Proofs.YteifjhpddhppcaaGreatDoor

namespace Go.Vc
def small (c:UInt8):Bool:=decide (97 ≤ c.toNat) && decide (c.toNat ≤ 122)
def dI (t:Str):Bool:=t.all small && (decide (1 ≤ t.length) && decide (t.length ≤ 8))
end Go.Vc

namespace Go.Proofs.YteifjhpddhppcaaGreatDoor
open Go.Shelf
def YJ:Go.Shelf.Ren:=⟨fun | 219=>211 | 217=>258 | 225=>259 | 224=>260 | 267=>261 | 266=>287 | 314=>288 | n=>n,fun | 9=>9 | 3=>3 | 4=>4 | 5=>5 | 46=>140 | 146=>267 | 51=>236 | n=>n,fun | 1=>0 | n=>n⟩
theorem ZD:Go.Proofs.Lays.n219 Tryz.prog YJ:={
 mixed:=by kernel_rfl
 f217:=Tryz.func258.trans (congrArg some (by kernel_rfl))
 f219:=Tryz.func211.trans (congrArg some (by kernel_rfl))
 f224:=Tryz.func260.trans (congrArg some (by kernel_rfl))
 f225:=Tryz.func259.trans (congrArg some (by kernel_rfl))
 f266:=Tryz.func287.trans (congrArg some (by kernel_rfl))
 f267:=Tryz.func261.trans (congrArg some (by kernel_rfl))
 f314:=Tryz.func288.trans (congrArg some (by kernel_rfl))
 t3:=Tryz.underlying3
 a3:=Tryz.isAgg3
 z3:=Tryz.sizeOf3
 v3:=Tryz.zeroValue3
 t4:=Tryz.underlying4
 a4:=Tryz.isAgg4
 z4:=Tryz.sizeOf4
 v4:=Tryz.zeroValue4
 t5:=Tryz.underlying5
 a5:=Tryz.isAgg5
 z5:=Tryz.sizeOf5
 v5:=Tryz.zeroValue5
 t9:=Tryz.underlying9
 a9:=Tryz.isAgg9
 z9:=Tryz.sizeOf9
 v9:=Tryz.zeroValue9
 t46:=Tryz.underlying140
 a46:=Tryz.isAgg140
 z46:=Tryz.sizeOf140
 v46:=Tryz.zeroValue140
 t51:=Tryz.underlying236
 a51:=Tryz.isAgg236
 z51:=Tryz.sizeOf236
 v51:=Tryz.zeroValue236
 t146:=Tryz.underlying267
 a146:=Tryz.isAgg267
 z146:=Tryz.sizeOf267
 v146:=Tryz.zeroValue267
 g1:=by kernel_rfl }
def XP:Go.Shelf.Ren:=⟨fun | 213=>95 | 265=>147 | n=>n,fun | 9=>9 | 3=>3 | n=>n,fun | n=>n⟩
theorem aDW:Go.Proofs.Lays.n213 Tryz.prog XP:={
 mixed:=by kernel_rfl
 f213:=Tryz.func95.trans (congrArg some (by kernel_rfl))
 f265:=Tryz.func147.trans (congrArg some (by kernel_rfl))
 t3:=Tryz.underlying3
 a3:=Tryz.isAgg3
 z3:=Tryz.sizeOf3
 v3:=Tryz.zeroValue3
 t9:=Tryz.underlying9
 a9:=Tryz.isAgg9
 z9:=Tryz.sizeOf9
 v9:=Tryz.zeroValue9 }
def YE:Go.Shelf.Ren:=⟨fun | 138=>213 | 195=>262 | 218=>264 | 143=>214 | 219=>211 | 217=>258 | 225=>259 | 224=>260 | 267=>261 | 266=>287 | 314=>288 | n=>n,fun | 9=>9 | 3=>3 | 4=>4 | 5=>5 | 0=>0 | 46=>140 | 146=>267 | 51=>236 | n=>n,fun | 1=>0 | n=>n⟩
theorem aD5:Go.Proofs.Lays.n138 Tryz.prog YE:={
 mixed:=by kernel_rfl
 f138:=Tryz.func213.trans (congrArg some (by kernel_rfl))
 f143:=Tryz.func214.trans (congrArg some (by kernel_rfl))
 f195:=Tryz.func262.trans (congrArg some (by kernel_rfl))
 f217:=Tryz.func258.trans (congrArg some (by kernel_rfl))
 f218:=Tryz.func264.trans (congrArg some (by kernel_rfl))
 f219:=Tryz.func211.trans (congrArg some (by kernel_rfl))
 f224:=Tryz.func260.trans (congrArg some (by kernel_rfl))
 f225:=Tryz.func259.trans (congrArg some (by kernel_rfl))
 f266:=Tryz.func287.trans (congrArg some (by kernel_rfl))
 f267:=Tryz.func261.trans (congrArg some (by kernel_rfl))
 f314:=Tryz.func288.trans (congrArg some (by kernel_rfl))
 t0:=Tryz.underlying0
 a0:=Tryz.isAgg0
 z0:=Tryz.sizeOf0
 v0:=Tryz.zeroValue0
 t3:=Tryz.underlying3
 a3:=Tryz.isAgg3
 z3:=Tryz.sizeOf3
 v3:=Tryz.zeroValue3
 t4:=Tryz.underlying4
 a4:=Tryz.isAgg4
 z4:=Tryz.sizeOf4
 v4:=Tryz.zeroValue4
 t5:=Tryz.underlying5
 a5:=Tryz.isAgg5
 z5:=Tryz.sizeOf5
 v5:=Tryz.zeroValue5
 t9:=Tryz.underlying9
 a9:=Tryz.isAgg9
 z9:=Tryz.sizeOf9
 v9:=Tryz.zeroValue9
 t46:=Tryz.underlying140
 a46:=Tryz.isAgg140
 z46:=Tryz.sizeOf140
 v46:=Tryz.zeroValue140
 t51:=Tryz.underlying236
 a51:=Tryz.isAgg236
 z51:=Tryz.sizeOf236
 v51:=Tryz.zeroValue236
 t146:=Tryz.underlying267
 a146:=Tryz.isAgg267
 z146:=Tryz.sizeOf267
 v146:=Tryz.zeroValue267
 g1:=by kernel_rfl }
def VI:Go.Shelf.Ren:=⟨fun | 246=>222 | 283=>270 | 284=>271 | 285=>272 | 286=>273 | 129=>245 | 317=>290 | 318=>291 | 319=>292 | 320=>293 | 337=>302 | 338=>303 | n=>n,fun | 2=>2 | 3=>3 | 9=>9 | 4=>4 | 171=>253 | 0=>0 | 53=>90 | 37=>22 | 5=>5 | 173=>255 | 212=>270 | 51=>236 | 20=>20 | 213=>271 | 46=>140 | 232=>283 | 233=>284 | n=>n,fun | 17=>1 | 18=>4 | 19=>5 | n=>n⟩
theorem W9:Go.Proofs.LaysM.n246 Tryz.prog VI:={
 mixed:=by kernel_rfl
 f129:=Tryz.func245.trans (congrArg some (by kernel_rfl))
 f246:=Tryz.func222.trans (congrArg some (by kernel_rfl))
 f283:=Tryz.func270.trans (congrArg some (by kernel_rfl))
 f284:=Tryz.func271.trans (congrArg some (by kernel_rfl))
 f285:=Tryz.func272.trans (congrArg some (by kernel_rfl))
 f286:=Tryz.func273.trans (congrArg some (by kernel_rfl))
 f317:=Tryz.func290.trans (congrArg some (by kernel_rfl))
 f318:=Tryz.func291.trans (congrArg some (by kernel_rfl))
 f319:=Tryz.func292.trans (congrArg some (by kernel_rfl))
 f320:=Tryz.func293.trans (congrArg some (by kernel_rfl))
 f337:=Tryz.func302.trans (congrArg some (by kernel_rfl))
 f338:=Tryz.func303.trans (congrArg some (by kernel_rfl))
 t0:=Tryz.underlying0
 a0:=Tryz.isAgg0
 z0:=Tryz.sizeOf0
 v0:=Tryz.zeroValue0
 t2:=Tryz.underlying2
 a2:=Tryz.isAgg2
 z2:=Tryz.sizeOf2
 v2:=Tryz.zeroValue2
 t3:=Tryz.underlying3
 a3:=Tryz.isAgg3
 z3:=Tryz.sizeOf3
 v3:=Tryz.zeroValue3
 t4:=Tryz.underlying4
 a4:=Tryz.isAgg4
 z4:=Tryz.sizeOf4
 v4:=Tryz.zeroValue4
 t5:=Tryz.underlying5
 a5:=Tryz.isAgg5
 z5:=Tryz.sizeOf5
 v5:=Tryz.zeroValue5
 t9:=Tryz.underlying9
 a9:=Tryz.isAgg9
 z9:=Tryz.sizeOf9
 v9:=Tryz.zeroValue9
 t20:=Tryz.underlying20
 a20:=Tryz.isAgg20
 z20:=Tryz.sizeOf20
 v20:=Tryz.zeroValue20
 t37:=Tryz.underlying22
 a37:=Tryz.isAgg22
 z37:=Tryz.sizeOf22
 v37:=Tryz.zeroValue22
 t46:=Tryz.underlying140
 a46:=Tryz.isAgg140
 z46:=Tryz.sizeOf140
 v46:=Tryz.zeroValue140
 t51:=Tryz.underlying236
 a51:=Tryz.isAgg236
 z51:=Tryz.sizeOf236
 v51:=Tryz.zeroValue236
 t53:=Tryz.underlying90
 a53:=Tryz.isAgg90
 z53:=Tryz.sizeOf90
 v53:=Tryz.zeroValue90
 t171:=Tryz.underlying253
 a171:=Tryz.isAgg253
 z171:=Tryz.sizeOf253
 v171:=Tryz.zeroValue253
 t173:=Tryz.underlying255
 a173:=Tryz.isAgg255
 z173:=Tryz.sizeOf255
 v173:=Tryz.zeroValue255
 t212:=Tryz.underlying270
 a212:=Tryz.isAgg270
 z212:=Tryz.sizeOf270
 v212:=Tryz.zeroValue270
 t213:=Tryz.underlying271
 a213:=Tryz.isAgg271
 z213:=Tryz.sizeOf271
 t232:=Tryz.underlying283
 a232:=Tryz.isAgg283
 z232:=Tryz.sizeOf283
 v232:=Tryz.zeroValue283
 t233:=Tryz.underlying284
 a233:=Tryz.isAgg284
 z233:=Tryz.sizeOf284
 v233:=Tryz.zeroValue284
 g17:=by kernel_rfl
 g18:=by kernel_rfl
 g19:=by kernel_rfl
 i0:=by kernel_rfl
 i2:=by kernel_rfl
 i3:=by kernel_rfl
 i4:=by kernel_rfl
 i5:=by kernel_rfl
 i9:=by kernel_rfl
 i20:=by kernel_rfl
 i37:=by kernel_rfl
 i46:=by kernel_rfl
 i51:=by kernel_rfl
 i53:=by kernel_rfl
 i171:=by kernel_rfl
 i173:=by kernel_rfl
 i212:=by kernel_rfl
 i232:=by kernel_rfl
 i233:=by kernel_rfl
 m17:=by kernel_rfl
 m18:=by kernel_rfl
 m19:=by kernel_rfl }
end Go.Proofs.YteifjhpddhppcaaGreatDoor

namespace Go.Vc
open Go.RowKit (Below)
theorem j8 (l:Str) (c:UInt8):((∀ x ∈ l,x ≠ c) ∧ Lib.indexByte l c = -1) ∨ ∃ a r,l = a ++ c :: r ∧ (∀ x ∈ a,x ≠ c) ∧ Lib.indexByte l c = (a.length:Int):=by
 have hge:=Lib.indexByte_ge l c
 rcases Int.lt_or_le (Lib.indexByte l c) 0 with h | h
 ·left
  have h1:Lib.indexByte l c = -1:=by omega
  refine ⟨fun x hx e=>?_,h1⟩
  obtain ⟨k,hk,rfl⟩:=List.getElem_of_mem hx
  exact Lib.indexByte_none h1 k (by rw [List.getElem?_eq_getElem hk,e])
 ·right
  obtain ⟨o,ho⟩:=Int.eq_ofNat_of_zero_le h
  obtain ⟨h1,h2⟩:=Lib.indexByte_some ho
  obtain ⟨hol,he⟩:=List.getElem?_eq_some_iff.1 h1
  refine ⟨l.take o,l.drop (o + 1),?_,fun x hx e=>?_,?_⟩
  ·rw [← he,List.getElem_cons_drop,List.take_append_drop]
  ·obtain ⟨k,hk,rfl⟩:=List.getElem_of_mem hx
   rw [List.length_take] at hk
   rw [List.getElem_take] at e
   exact h2 k (by omega) (by rw [List.getElem?_eq_getElem (by omega),e])
  ·rw [ho,List.length_take,Nat.min_eq_left (by omega)]
section
variable {P:Program} {w:World}
end
end Go.Vc
namespace Go.Proofs.YteifjhpddhppcaaGreatDoor
open Go.Vc
theorem IF (l:Str) (c:UInt8) (w:World):Ret Tryz.prog (211) #[sv l,sv [c]] w (.int .i64 (Lib.indexByte l c)):=by
 refine ⟨⟨_,Tryz.func211,by kernel_rfl,by kernel_rfl⟩,?_⟩
 refine (Any.stringslite_Index_one ZD ⟨l.toArray⟩ c w).mono ?_
 rintro e w' ⟨rfl,rfl⟩
 exact ⟨_,rfl,rfl,Ext.refl _⟩
theorem OG {t:Str} {c:UInt8} (h:∀ x ∈ t,x ≠ c) (w:World):Ret Tryz.prog fA #[sv t,sv [c]] w (.tuple #[sv t,sv [],.bool false]):=by
 apply jE;unfold e9
 refine iRet (IF t c w) fun w1 h1=>?_
 rcases j8 t c with ⟨_,e⟩ | ⟨a,r,rfl,_,_⟩
 ·rw [e]
  ((with_reducible refine iLe ?_))
  exact iCndF rfl ⟨rfl,h1⟩
 ·exact absurd rfl (h c (by simp))
theorem QJ {a r:Str} {c:UInt8} (h:∀ x ∈ a,x ≠ c) (hl:(a ++ c :: r).length ≤ 1099511627776) (w:World):Ret Tryz.prog fA #[sv (a ++ c :: r),sv [c]] w (.tuple #[sv a,sv r,.bool true]):=by
 apply jE;unfold e9
 refine iRet (IF _ c w) fun w1 h1=>?_
 have key:Lib.indexByte (a ++ c :: r) c = (a.length:Int):=by
  rcases j8 (a ++ c :: r) c with ⟨h2,_⟩ | ⟨a',r',e,h2,h3⟩
  ·exact absurd rfl (h2 c (by simp))
  ·rw [h3]
   have:a'.length = a.length:=by
    apply Classical.byContradiction
    intro hne
    rcases Nat.lt_or_ge a'.length a.length with hlt | hge
    ·have e1:=congrArg (fun l:Str=>l[a'.length]?) e
     simp only [List.getElem?_append_left hlt] at e1
     rw [List.getElem?_append_right (Nat.le_refl _),Nat.sub_self] at e1
     exact h c (List.mem_of_getElem? e1) rfl
    ·have hlt:a.length < a'.length:=by omega
     have e1:=congrArg (fun l:Str=>l[a.length]?) e
     simp only [List.getElem?_append_left hlt] at e1
     rw [List.getElem?_append_right (Nat.le_refl _),Nat.sub_self] at e1
     exact h2 c (List.mem_of_getElem? e1.symm) rfl
   rw [this]
 rw [key]
 rw [List.length_append,List.length_cons] at hl
 ((with_reducible refine iLe ?_))
 refine iCndT (by simp) ?_
 refine iTxTo (by simp) ?_
 refine iLenT ?_
 have e1:(a.length:Int) + (([c]:Str).length:Nat) = ((a.length + 1:Nat):Int):=by simp
 refine iAdd (by rw [e1];omega) ?_
 rw [e1]
 refine wN (by simp) ?_
 intro w2 h2
 refine ⟨?_,h1.trans h2⟩
 simp
theorem HZ {t:Str} {c:UInt8} (h:∀ x ∈ t,x ≠ c) (w:World):Ret Tryz.prog uE #[sv t,sv [c]] w (.tuple #[sv t,sv [],.bool false]):=by
 apply GC;unfold uI
 refine iRet (OG h w) fun w1 h1=>?_
 ((with_reducible refine iE30 ?_;refine iE31 ?_;refine iE32 ?_))
 exact ⟨rfl,h1⟩
theorem J0 {a r:Str} {c:UInt8} (h:∀ x ∈ a,x ≠ c) (hl:(a ++ c :: r).length ≤ 1099511627776) (w:World):Ret Tryz.prog uE #[sv (a ++ c :: r),sv [c]] w (.tuple #[sv a,sv r,.bool true]):=by
 apply GC;unfold uI
 refine iRet (QJ h hl w) fun w1 h1=>?_
 ((with_reducible refine iE30 ?_;refine iE31 ?_;refine iE32 ?_))
 exact ⟨rfl,h1⟩
end Go.Proofs.YteifjhpddhppcaaGreatDoor

namespace Go.Vc
open Go.RowKit (Below)
theorem yA {l:Str} {i:Nat} (h:i < l.length):l.getD i 0 = l[i]:=by simp [List.getD_eq_getElem?_getD,h]
def smLen (l:Str):Nat:=(l.takeWhile small).length
theorem OQ {l:Str} {k:Nat} (hk:k < l.length) (h:∀ i,i < k → small (l.getD i 0) = true) (hn:small (l.getD k 0) = false):smLen l = k ∧ l.all small = false:=by
 induction l generalizing k with
 | nil=>simp at hk
 | cons x l ih=>
  cases k with
  | zero=>
   have hn:small x = false:=hn
   simp [smLen,hn]
  | succ k=>
   have hx:small x = true:=h 0 (by omega)
   have:=ih (k:=k) (by simpa using hk) (fun i hi=>by simpa using h (i + 1) (by omega)) (by simpa using hn)
   constructor
   ·have h1:=this.1
    simp only [smLen] at h1 ⊢
    rw [List.takeWhile_cons,if_pos hx,List.length_cons,h1]
   ·rw [List.all_cons,hx,this.2];rfl
theorem TQ {l:Str} (h:∀ i,i < l.length → small (l.getD i 0) = true):smLen l = l.length ∧ l.all small = true:=by
 have h1:l.all small = true:=by
  rw [List.all_eq_true]
  intro x hx
  obtain ⟨i,hi,rfl⟩:=List.getElem_of_mem hx
  have:=h i hi
  rwa [yA hi] at this
 refine ⟨?_,h1⟩
 unfold smLen
 have:l.takeWhile small = l:=by
  clear h
  induction l with
  | nil=>rfl
  | cons x l ih=>
   simp only [List.all_cons,Bool.and_eq_true] at h1
   rw [List.takeWhile_cons,if_pos h1.1,ih h1.2]
 rw [this]
def nsIdx (l:Str):Int:=if l.all small then -1 else (smLen l:Int)
theorem T5 {c:UInt8}:(decide (((c.toNat:Nat):Int) < 97) || decide ((122:Int) < ((c.toNat:Nat):Int))) = !small c:=by
 unfold small
 rw [Bool.not_and,Bool.or_comm,Bool.or_comm (!_)]
 by_cases h1:c.toNat < 97
 ·rw [decide_eq_true (show ((c.toNat:Nat):Int) < 97 by omega),decide_eq_false (show ¬ 97 ≤ c.toNat by omega)];simp
 ·rw [decide_eq_false (show ¬ ((c.toNat:Nat):Int) < 97 by omega),decide_eq_true (show 97 ≤ c.toNat by omega)]
  by_cases h2:122 < c.toNat
  ·rw [decide_eq_true (show (122:Int) < ((c.toNat:Nat):Int) by omega),decide_eq_false (show ¬ c.toNat ≤ 122 by omega)];rfl
  ·rw [decide_eq_false (show ¬ (122:Int) < ((c.toNat:Nat):Int) by omega),decide_eq_true (show c.toNat ≤ 122 by omega)];rfl
end Go.Vc
namespace Go.Proofs.YteifjhpddhppcaaGreatDoor
open Go.Vc
theorem WT {fv:Value} (hf:∀ (c:Nat) (w:World),c ≤ 2147483647 → callV Tryz.prog fv [.int .i32 (c:Int)] w fun v w'=>v = .bool (decide ((c:Int) < 97) || decide ((122:Int) < (c:Int))) ∧ Ext w w') {l:Str} (w:World):
  Ret Tryz.prog qC #[sv l,fv,.bool true] w (.int .i64 (nsIdx l)):=by
 apply H4;unfold qV
 refine XB (by kernel_rfl) fun b w1 hb h1 hI=>?_
 refine iLp (fun _:Nat=>[]) (fun i w'=>i ≤ l.length ∧ Ext w w' ∧ It w' b l i ∧ ∀ k,k < i → small (l.getD k 0) = true) (fun i=>l.length - i) 0 rfl ⟨Nat.zero_le _,h1,hI,fun k hk=>by omega⟩ ?_
 rintro i w3 Kn ⟨hi,h3,hI3,hs⟩ hKn
 intro _
 by_cases hlt:i < l.length
 ·refine W0 hI3 hlt fun c d w4 hd hlow hhigh hc2 hu hI4=>?_
  have h4:Ext w w4:=h3.upd hu (by omega)
  ((with_reducible refine iE30 ?_))
  refine iCndT rfl ?_
  ((with_reducible refine iE31 ?_;refine iE32 ?_))
  refine (hf c w4 hc2).mono ?_
  rintro _ w5 ⟨rfl,h5⟩
  refine ⟨_,_,rfl,rfl,?_⟩
  rcases Nat.lt_or_ge (l.getD i 0).toNat 128 with hb1 | hb1
  ·obtain ⟨rfl,rfl⟩:=hlow hb1
   rw [T5]
   cases hsm:small (l.getD i 0)
   ·refine iCndT rfl ?_
    have:=OQ hlt hs hsm
    refine ⟨?_,h4.trans h5⟩
    unfold nsIdx
    rw [this.2,if_neg (by decide),this.1]
   ·refine iCndF rfl ?_
    refine hKn (i + 1) _ ⟨by omega,h4.trans h5,hI4.ext h5,fun k hk=>?_⟩ (by omega)
    by_cases hki:k = i
    ·rw [hki];exact hsm
    ·exact hs k (by omega)
  ·have hcge:=hhigh hb1
   rw [show decide ((122:Int) < (c:Int)) = true by rw [decide_eq_true_eq];omega,Bool.or_true]
   refine iCndT rfl ?_
   have hsm:small (l.getD i 0) = false:=by unfold small;rw [decide_eq_false (show ¬ (l.getD i 0).toNat ≤ 122 by omega),Bool.and_false]
   have:=OQ hlt hs hsm
   refine ⟨?_,h4.trans h5⟩
   unfold nsIdx
   rw [this.2,if_neg (by decide),this.1]
 ·have e:i = l.length:=by omega
  subst e
  refine VR hI3 (Nat.le_refl _) ?_
  refine iEx (by rfl) ?_
  refine iCndF rfl ?_
  refine ⟨?_,h3⟩
  unfold nsIdx
  rw [(TQ hs).2,if_pos rfl]
theorem WY {fv:Value} (hf:∀ (c:Nat) (w:World),c ≤ 2147483647 → callV Tryz.prog fv [.int .i32 (c:Int)] w fun v w'=>v = .bool (decide ((c:Int) < 97) || decide ((122:Int) < (c:Int))) ∧ Ext w w') {l:Str} (w:World):
  Ret Tryz.prog qB #[sv l,fv] w (.int .i64 (nsIdx l)):=by
 apply HP;unfold qE
 exact iRet (WT hf w) fun w1 h1=>⟨rfl,h1⟩
theorem y4 {fv:Value} (hf:∀ (c:Nat) (w:World),c ≤ 2147483647 → callV Tryz.prog fv [.int .i32 (c:Int)] w fun v w'=>v = .bool (decide ((c:Int) < 97) || decide ((122:Int) < (c:Int))) ∧ Ext w w') {l:Str} (w:World):
  Ret Tryz.prog mY #[sv l,fv] w (.bool !(l.all small)):=by
 apply BM;unfold mI
 refine iRet (WY hf w) fun w1 h1=>?_
 ((with_reducible refine iLe ?_))
 refine ⟨?_,h1⟩
 unfold nsIdx
 cases l.all small
 ·rw [if_neg (by decide)];simp
 ·rw [if_pos rfl];rfl
theorem NK (c:Nat) (w:World) (_hc:c ≤ 2147483647):callV Tryz.prog (.func (.func oL) #[] #[]) [.int .i32 (c:Int)] w fun v w'=>v = .bool (decide ((c:Int) < 97) || decide ((122:Int) < (c:Int))) ∧ Ext w w':=by
 refine iCall ?_
 show Cal Tryz.prog oL #[.int .i32 (c:Int)] w _
 apply PP;unfold AN
 refine iJnB (decide ((c:Int) < 97) || decide ((122:Int) < (c:Int))) w (fun J hJ=>?_) (fun w2 h2=>?_)
 ·((with_reducible refine iLt ?_))
  refine iCndP (fun h=>?_) (fun h=>?_)
  ·rw [decide_eq_true h,Bool.true_or] at hJ
   exact hJ w (Ext.refl _)
  ·rw [decide_eq_false h,Bool.false_or] at hJ
   ((with_reducible refine iLt ?_))
   exact hJ w (Ext.refl _)
 ·intro _
  exact ⟨rfl,h2⟩
theorem EK {t:Str} (ht:t.length ≤ 1099511627776) (w:World):Ret Tryz.prog HE #[sv t] w (.bool (dI t)):=by
 apply U2;unfold G0
 refine iJnB (dI t) w (fun J hJ=>?_) (fun w2 h2=>fun _=>⟨rfl,h2⟩)
 unfold dI at hJ
 refine iLenT ?_
 ((with_reducible refine iLe ?_))
 refine iCndP (fun h1=>?_) (fun h1=>?_)
 ·refine iLenT ?_
  ((with_reducible refine iLe ?_))
  refine iCndP (fun h2=>?_) (fun h2=>?_)
  ·refine iRet (y4 NK w) fun w3 h3=>?_
   ((with_reducible refine iNot ?_))
   rw [decide_eq_true (show 1 ≤ t.length by omega),decide_eq_true (show t.length ≤ 8 by omega),Bool.and_true,Bool.and_true] at hJ
   rw [Bool.not_not]
   exact hJ w3 h3
  ·rw [decide_eq_false (show ¬ t.length ≤ 8 by omega),Bool.and_false,Bool.and_false] at hJ
   exact hJ w (Ext.refl _)
 ·rw [decide_eq_false (show ¬ 1 ≤ t.length by omega),Bool.false_and,Bool.and_false] at hJ
  exact hJ w (Ext.refl _)
theorem PZ {t:Str} (ht:t.length ≤ 1099511627776) (w:World):Ret Tryz.prog DS #[sv t] w (.bool (dI t)):=by
 apply RW;unfold CR
 refine iLp (fun i:Nat=>[.int .i64 (i:Int)]) (fun i w'=>i ≤ t.length ∧ Ext w w' ∧ ∀ k,k < i → small (t.getD k 0) = true) (fun i=>t.length - i) 0 rfl ⟨Nat.zero_le _,Ext.refl _,fun k hk=>by omega⟩ ?_
 rintro i w2 Kn ⟨hi,h2,hs⟩ hKn
 (intro _;(try simp only [gx]))
 refine iLenT ?_
 ((with_reducible refine iLt ?_))
 refine iCndP (fun h3=>?_) (fun h3=>?_)
 ·have hlt:i < t.length:=by omega
  refine iJnB (!small (t.getD i 0)) w2 (fun J hJ=>?_) (fun w4 h4=>?_)
  ·rw [← T5] at hJ
   refine iIs hlt ?_
   ((with_reducible refine iLt ?_))
   refine iCndP (fun h=>?_) (fun h=>?_)
   ·rw [decide_eq_true h,Bool.true_or] at hJ
    exact hJ w2 (Ext.refl _)
   ·rw [decide_eq_false h,Bool.false_or] at hJ
    refine iIs hlt ?_
    ((with_reducible refine iLt ?_))
    exact hJ w2 (Ext.refl _)
  ·intro _
   cases hsm:small (t.getD i 0)
   ·refine iCndT rfl ⟨?_,h2.trans h4⟩
    unfold dI
    rw [(OQ hlt hs hsm).2,Bool.false_and]
   ·refine iCndF rfl ?_
    (refine iAdd (by omega) ?_)
    refine hKn (i + 1) _ ⟨by omega,h2.trans h4,fun k hk=>?_⟩ (by omega)
    by_cases hki:k = i
    ·rw [hki];exact hsm
    ·exact hs k (by omega)
 ·have e:i = t.length:=by omega
  subst e
  have hall:=(TQ hs).2
  refine iJnB (dI t) w2 (fun J hJ=>?_) (fun w4 h4=>fun _=>⟨rfl,h2.trans h4⟩)
  unfold dI at hJ
  rw [hall,Bool.true_and] at hJ
  refine iLenT ?_
  ((with_reducible refine iLe ?_))
  refine iCndP (fun h=>?_) (fun h=>?_)
  ·rw [decide_eq_true (show 1 ≤ t.length by omega),Bool.true_and] at hJ
   refine iLenT ?_
   ((with_reducible refine iLe ?_))
   rw [show decide (((t.length:Nat):Int) ≤ 8) = decide (t.length ≤ 8) from decide_eq_decide.2 (by omega)]
   exact hJ w2 (Ext.refl _)
  ·rw [decide_eq_false (show ¬ 1 ≤ t.length by omega),Bool.false_and] at hJ
   exact hJ w2 (Ext.refl _)
end Go.Proofs.YteifjhpddhppcaaGreatDoor

namespace Go.Vc
/-! ### Rows of strings -/
def strs (L:List Str):List Value:=L.map sv
theorem bG (L:List Str):(strs L).length = L.length:=List.length_map _
theorem IE (L:List Str) (s:Str):strs L ++ [sv s] = strs (L ++ [s]):=by simp [strs]
abbrev SlT (w:World) (v:Value) (L:List Str):Prop:=Sl w v (strs L)
theorem iIaT {w:World} {v:Value} {L:List Str} {j:Nat} {k:IntKind} {K:Value → Prop} (hs:SlT w v L) (hj:j < L.length) (h:∀ p,w.cell? p = some (sv L[j]) → K (.pointer (some p))):xIa 1 v (.int k (j:Int)) K:=by
 refine iIa hs (by omega) (by rw [bG];omega) fun p hp=>h p (hp.trans ?_)
 rw [Int.toNat_natCast]
 simp [strs,hj]
theorem bO {w:World} {v:Value} {L:List Str} {K:Value → Prop} (hs:SlT w v L) (h:K (.int .i64 (L.length:Nat))):xLenS v K:=iLenS hs (by rw [bG];exact h)
theorem IC (L:List Str):∀ u ∈ strs L,aC u = true:=by
 intro u hu
 obtain ⟨s,_,rfl⟩:=List.mem_map.1 hu
 rfl
end Go.Vc
namespace Go.Proofs.YteifjhpddhppcaaGreatDoor
open Go.Vc
end Go.Proofs.YteifjhpddhppcaaGreatDoor

namespace Go.Vc
open Go.RowKit (Below)
end Go.Vc
namespace Go.Proofs.YteifjhpddhppcaaGreatDoor
open Go.Vc
end Go.Proofs.YteifjhpddhppcaaGreatDoor

namespace Go.Vc
universe u
section
variable {α:Type u} [Inhabited α]
def gt (L:List α) (k:Nat):α:=L.getD k default
theorem gt_eq {L:List α} {k:Nat} (h:k < L.length):gt L k = L[k]:=by unfold gt;simp [List.getD_eq_getElem?_getD,h]
theorem pH {L:List α} {i:Nat} (x:α) (hi:i < L.length) (k:Nat):gt (L.set i x) k = if k = i then x else gt L k:=by
 unfold gt
 simp only [List.getD_eq_getElem?_getD,List.getElem?_set]
 by_cases h:i = k
 ·subst h;simp [hi]
 ·simp [h,Ne.symm h]
def sw (L:List α) (i j:Nat):List α:=(L.set i (gt L j)).set j (gt L i)
theorem aE8 (L:List α) (i j:Nat):(sw L i j).length = L.length:=by simp [sw]
theorem gt_sw {L:List α} {i j:Nat} (hi:i < L.length) (hj:j < L.length) (k:Nat):gt (sw L i j) k = if k = j then gt L i else if k = i then gt L j else gt L k:=by
 unfold sw
 rw [pH _ (by simpa using hj),pH _ hi]
theorem aD6 {L:List α} {i j:Nat} (hi:i < L.length) (hj:j < L.length):List.Perm (sw L i j) L:=by
 unfold sw
 rw [gt_eq hi,gt_eq hj]
 exact List.set_set_perm hi hj
inductive SwR (a b:Nat) (L:List α):List α → Prop
 | refl:SwR a b L L
 | step {L':List α} {i j:Nat}:SwR a b L L' → a ≤ i → i < b → a ≤ j → j < b → b ≤ L.length → SwR a b L (sw L' i j)
theorem SwR.len {a b:Nat} {L L':List α} (h:SwR a b L L'):L'.length = L.length:=by
 induction h with
 | refl=>rfl
 | step _ _ _ _ _ _ ih=>rw [aE8,ih]
theorem SwR.perm {a b:Nat} {L L':List α} (h:SwR a b L L'):List.Perm L' L:=by
 induction h with
 | refl=>exact List.Perm.refl _
 | step hs _ _ _ _ _ ih=>exact (aD6 (by rw [hs.len];omega) (by rw [hs.len];omega)).trans ih
theorem SwR.trans {a b:Nat} {L L' L'':List α} (h:SwR a b L L') (k:SwR a b L' L''):SwR a b L L'':=by
 induction k with
 | refl=>exact h
 | step _ h1 h2 h3 h4 h5 ih=>exact .step ih h1 h2 h3 h4 (by rw [← h.len];exact h5)
theorem SwR.mono {a b a' b':Nat} {L L':List α} (h:SwR a b L L') (ha:a' ≤ a) (hb:b ≤ b') (hl:b' ≤ L.length):SwR a' b' L L':=by
 induction h with
 | refl=>exact .refl
 | step _ h1 h2 h3 h4 _ ih=>exact .step ih (by omega) (by omega) (by omega) (by omega) hl
theorem SwR.out {a b:Nat} {L L':List α} (h:SwR a b L L') {k:Nat} (hk:k < a ∨ b ≤ k):gt L' k = gt L k:=by
 induction h with
 | refl=>rfl
 | step hs h1 h2 h3 h4 h5 ih=>rw [gt_sw (by rw [hs.len];omega) (by rw [hs.len];omega),if_neg (by omega),if_neg (by omega),ih]
theorem SwR.all {a b:Nat} {L L':List α} (h:SwR a b L L') {p:α → Prop} (hp:∀ k,a ≤ k → k < b → p (gt L k)):∀ k,a ≤ k → k < b → p (gt L' k):=by
 induction h with
 | refl=>exact hp
 | step hs h1 h2 h3 h4 h5 ih=>
  intro k hk hk'
  rw [gt_sw (by rw [hs.len];omega) (by rw [hs.len];omega)]
  split
  ·exact ih _ h1 h2
  ·split
   ·exact ih _ h3 h4
   ·exact ih _ hk hk'
theorem SwR.one {a b i j:Nat} {L:List α} (h1:a ≤ i) (h2:i < b) (h3:a ≤ j) (h4:j < b) (h5:b ≤ L.length):SwR a b L (sw L i j):=.step .refl h1 h2 h3 h4 h5
structure Ordr (lt:α → α → Bool):Prop where
 asym:∀ {a b},lt a b = true → lt b a = false
 tr:∀ {a b c},lt b a = false → lt c b = false → lt c a = false
variable {lt:α → α → Bool}
 omit [Inhabited α] in
theorem Ordr.rfl (O:Ordr lt) (a:α):lt a a = false:=by
  cases h:lt a a
  ·exact Eq.refl _
  ·have:=O.asym h;rw [h] at this;exact this
 omit [Inhabited α] in
theorem Ordr.lt_le (O:Ordr lt) {a b c:α} (h:lt a b = true) (k:lt c b = false):lt a c = true:=by
  cases h':lt a c
  ·have:=O.tr (a:=b) (b:=c) (c:=a) k h';rw [h] at this;cases this
  ·exact Eq.refl _
 omit [Inhabited α] in
def Srt (lt:α → α → Bool) (a b:Nat) (L:List α):Prop:=∀ p q,a ≤ p → p < q → q < b → lt (gt L q) (gt L p) = false
theorem Srt.mono {a b a' b':Nat} {L:List α} (h:Srt lt a b L) (ha:a ≤ a') (hb:b' ≤ b):Srt lt a' b' L:=fun p q h1 h2 h3=>h p q (by omega) h2 (by omega)
theorem Srt.short {a b:Nat} {L:List α} (h:b ≤ a + 1):Srt lt a b L:=fun p q h1 h2 h3=>by omega
theorem Srt.out {a b c d:Nat} {L L':List α} (h:Srt lt a b L) (hs:SwR c d L L') (hd:d ≤ a ∨ b ≤ c):Srt lt a b L':=fun p q h1 h2 h3=>by
 rw [hs.out (by omega),hs.out (by omega)];exact h p q h1 h2 h3
/-! ### Insertion -/
def Ins (lt:α → α → Bool) (a i j:Nat) (L:List α):Prop:=∀ p q,a ≤ p → p < q → q ≤ i → q ≠ j → lt (gt L q) (gt L p) = false
theorem Ins.init {a i:Nat} {L:List α} (h:Srt lt a i L):Ins lt a i i L:=fun p q h1 h2 h3 h4=>h p q h1 h2 (by omega)
theorem Ins.done (O:Ordr lt) {a i j:Nat} {L:List α} (h:Ins lt a i j L) (hj:j ≤ a ∨ (a < j ∧ lt (gt L j) (gt L (j - 1)) = false)) (hji:j ≤ i):Srt lt a (i + 1) L:=fun p q h1 h2 h3=>by
 by_cases hq:q = j
 ·subst hq
  rcases hj with hj | ⟨h4,h5⟩
  ·omega
  ·by_cases hp:p = q - 1
   ·subst hp;exact h5
   ·exact O.tr (h p (q - 1) h1 (by omega) (by omega) (by omega)) h5
 ·exact h p q h1 h2 (by omega) hq
theorem Ins.swap (O:Ordr lt) {a i j:Nat} {L:List α} (h:Ins lt a i j L) (haj:a < j) (hji:j ≤ i) (hi:i < L.length) (hlt:lt (gt L j) (gt L (j - 1)) = true):Ins lt a i (j - 1) (sw L j (j - 1)):=fun p q h1 h2 h3 h4=>by
 rw [gt_sw (by omega) (by omega),gt_sw (by omega) (by omega)]
 rw [if_neg h4]
 by_cases hq:q = j
 ·subst hq
  rw [if_pos rfl]
  by_cases hp:p = q - 1
  ·rw [if_pos hp];exact O.asym hlt
  ·rw [if_neg hp,if_neg (by omega)];exact h p (q - 1) h1 (by omega) (by omega) (by omega)
 ·rw [if_neg hq]
  by_cases hp:p = j - 1
  ·rw [if_pos hp];exact h j q (by omega) (by omega) h3 hq
  ·rw [if_neg hp]
   by_cases hp2:p = j
   ·rw [if_pos hp2];exact h (j - 1) q (by omega) (by omega) h3 hq
   ·rw [if_neg hp2];exact h p q h1 h2 h3 hq
/-! ### Heaps -/
def Heap (lt:α → α → Bool) (first lo hi:Nat) (L:List α):Prop:=∀ p c,lo ≤ p → (c = 2 * p + 1 ∨ c = 2 * p + 2) → c < hi → lt (gt L (first + p)) (gt L (first + c)) = false
def Sift (lt:α → α → Bool) (first lo hi r:Nat) (L:List α):Prop:=
 (∀ p c,lo ≤ p → p ≠ r → (c = 2 * p + 1 ∨ c = 2 * p + 2) → c < hi → lt (gt L (first + p)) (gt L (first + c)) = false) ∧
 (∀ p c,lo ≤ p → (r = 2 * p + 1 ∨ r = 2 * p + 2) → (c = 2 * r + 1 ∨ c = 2 * r + 2) → c < hi → lt (gt L (first + p)) (gt L (first + c)) = false)
theorem Sift.init {first lo hi:Nat} {L:List α} (h:Heap lt first (lo + 1) hi L):Sift lt first lo hi lo L:=
 ⟨fun p c h1 h2 h3 h4=>h p c (by omega) h3 h4,fun p c h1 h2 h3 h4=>by omega⟩
theorem Sift.done {first lo hi r:Nat} {L:List α} (h:Sift lt first lo hi r L) (hr:∀ c,(c = 2 * r + 1 ∨ c = 2 * r + 2) → c < hi → lt (gt L (first + r)) (gt L (first + c)) = false):Heap lt first lo hi L:=fun p c h1 h2 h3=>by
 by_cases hp:p = r
 ·subst hp;exact hr c h2 h3
 ·exact h.1 p c h1 hp h2 h3
theorem Sift.swap (O:Ordr lt) {first lo hi r c:Nat} {L:List α} (h:Sift lt first lo hi r L) (hlo:lo ≤ r) (hc:c = 2 * r + 1 ∨ c = 2 * r + 2) (hch:c < hi) (hl:first + hi ≤ L.length)
  (hlt:lt (gt L (first + r)) (gt L (first + c)) = true) (hmax:∀ d,(d = 2 * r + 1 ∨ d = 2 * r + 2) → d < hi → lt (gt L (first + c)) (gt L (first + d)) = false):
  Sift lt first lo hi c (sw L (first + r) (first + c)):=by
 have e:∀ k,k < hi → gt (sw L (first + r) (first + c)) (first + k) = if k = c then gt L (first + r) else if k = r then gt L (first + c) else gt L (first + k):=fun k hk=>by
  rw [gt_sw (by omega) (by omega)]
  simp only [Nat.add_left_cancel_iff]
 constructor
 ·intro p d h1 h2 h3 h4
  rw [e p (by omega),e d h4,if_neg h2]
  by_cases hp:p = r
  ·subst hp
   rw [if_pos rfl]
   by_cases hd:d = c
   ·rw [if_pos hd];exact O.asym hlt
   ·rw [if_neg hd,if_neg (by omega)];exact hmax d h3 h4
  ·rw [if_neg hp]
   have hdc:d ≠ c:=by omega
   rw [if_neg hdc]
   by_cases hd:d = r
   ·rw [if_pos hd];subst hd;exact h.2 p c h1 h3 hc hch
   ·rw [if_neg hd];exact h.1 p d h1 hp h3 h4
 ·intro p d h1 h2 h3 h4
  have hp:p = r:=by omega
  subst hp
  rw [e p (by omega),e d h4,if_neg (by omega),if_pos rfl,if_neg (by omega),if_neg (by omega)]
  exact h.1 c d (by omega) (by omega) h3 h4
theorem Heap.top (O:Ordr lt) {first hi:Nat} {L:List α} (h:Heap lt first 0 hi L):∀ k,k < hi → lt (gt L first) (gt L (first + k)) = false:=by
 intro k
 induction k using Nat.strongRecOn with
 | ind k ih=>
  intro hk
  by_cases h0:k = 0
  ·subst h0;exact O.rfl _
  ·exact O.tr (h ((k - 1) / 2) k (Nat.zero_le _) (by omega) hk) (ih ((k - 1) / 2) (by omega) (by omega))
/-! ### Windows -/
def Crs (lt:α → α → Bool) (a0 b0 a b:Nat) (L:List α):Prop:=∀ p q,a0 ≤ p → p < q → q < b0 → ¬ (a ≤ p ∧ q < b) → lt (gt L q) (gt L p) = false
def Blw (lt:α → α → Bool) (a b:Nat) (L:List α):Prop:=∀ k,a ≤ k → k < b → 1 ≤ a → lt (gt L k) (gt L (a - 1)) = false
theorem Crs.all {a b:Nat} {L:List α}:Crs lt a b a b L:=fun _ _ h1 _ h3 h4=>(h4 ⟨h1,h3⟩).elim
theorem Crs.keep {a0 b0 a b:Nat} {L L':List α} (h:Crs lt a0 b0 a b L) (hs:SwR a b L L') (ha:a0 ≤ a) (hb:b ≤ b0):Crs lt a0 b0 a b L':=fun p q h1 h2 h3 h4=>by
 by_cases hp:a ≤ p ∧ p < b
 ·rw [hs.out (k:=q) (by omega)]
  exact hs.all (p:=fun x=>lt (gt L q) x = false) (fun k hk hk'=>h k q (by omega) (by omega) h3 (by omega)) p hp.1 hp.2
 ·rw [hs.out (k:=p) (by omega)]
  by_cases hq:a ≤ q ∧ q < b
  ·exact hs.all (p:=fun x=>lt x (gt L p) = false) (fun k hk hk'=>h p k h1 (by omega) (by omega) (by omega)) q hq.1 hq.2
  ·rw [hs.out (k:=q) (by omega)];exact h p q h1 h2 h3 h4
theorem Crs.done {a0 b0 a b:Nat} {L L':List α} (h:Crs lt a0 b0 a b L) (hs:SwR a b L L') (ha:a0 ≤ a) (hb:b ≤ b0) (k:Srt lt a b L'):Srt lt a0 b0 L':=fun p q h1 h2 h3=>by
 by_cases hw:a ≤ p ∧ q < b
 ·exact k p q hw.1 h2 hw.2
 ·exact h.keep hs ha hb p q h1 h2 h3 hw
theorem Blw.keep {a b a' b':Nat} {L L':List α} (h:Blw lt a b L) (hs:SwR a' b' L L') (ha:a ≤ a') (hb:b' ≤ b):Blw lt a b L':=fun k h1 h2 h3=>by
 rw [hs.out (k:=a - 1) (by omega)]
 by_cases hk:a' ≤ k ∧ k < b'
 ·exact hs.all (p:=fun x=>lt x (gt L (a - 1)) = false) (fun k hk hk'=>h k (by omega) (by omega) h3) k hk.1 hk.2
 ·rw [hs.out (k:=k) (by omega)];exact h k h1 h2 h3
theorem Blw.low {a b m:Nat} {L:List α} (h:Blw lt a b L) (hm:m ≤ b):Blw lt a m L:=fun k h1 h2 h3=>h k h1 (by omega) h3
def gK (lt:α → α → Bool) (a b m:Nat) (L:List α):Prop:=(∀ k,a ≤ k → k < m → lt (gt L k) (gt L m) = true) ∧ ∀ k,m < k → k < b → lt (gt L k) (gt L m) = false
theorem gK.lowS {a b m:Nat} {L L':List α} (h:gK lt a b m L) (hs:SwR a m L L'):gK lt a b m L':=
 ⟨fun k h1 h2=>by rw [hs.out (k:=m) (by omega)];exact hs.all (p:=fun x=>lt x (gt L m) = true) h.1 k h1 h2,
  fun k h1 h2=>by rw [hs.out (k:=m) (by omega),hs.out (k:=k) (by omega)];exact h.2 k h1 h2⟩
theorem gK.highS {a b m:Nat} {L L':List α} (h:gK lt a b m L) (hs:SwR (m + 1) b L L'):gK lt a b m L':=
 ⟨fun k h1 h2=>by rw [hs.out (k:=m) (by omega),hs.out (k:=k) (by omega)];exact h.1 k h1 h2,
  fun k h1 h2=>by rw [hs.out (k:=m) (by omega)];exact hs.all (p:=fun x=>lt x (gt L m) = false) (fun k h1 h2=>h.2 k (by omega) h2) k (by omega) h2⟩
theorem gK.blw {a b m:Nat} {L:List α} (h:gK lt a b m L):Blw lt (m + 1) b L:=fun k h1 h2 _=>h.2 k (by omega) h2
theorem gK.up (O:Ordr lt) {a0 b0 a b m:Nat} {L:List α} (h:gK lt a b m L) (hc:Crs lt a0 b0 a b L) (hs:Srt lt a m L):Crs lt a0 b0 (m + 1) b L:=fun p q h1 h2 h3 h4=>by
 by_cases hw:a ≤ p ∧ q < b
 ·rcases Nat.lt_trichotomy q m with hq | hq | hq
  ·exact hs p q hw.1 h2 hq
  ·subst hq;exact O.asym (h.1 p hw.1 h2)
  ·rcases Nat.lt_trichotomy p m with hp | hp | hp
   ·exact O.tr (O.asym (h.1 p hw.1 hp)) (h.2 q hq hw.2)
   ·subst hp;exact h.2 q hq hw.2
   ·omega
 ·exact hc p q h1 h2 h3 hw
theorem gK.down (O:Ordr lt) {a0 b0 a b m:Nat} {L:List α} (h:gK lt a b m L) (hc:Crs lt a0 b0 a b L) (hs:Srt lt (m + 1) b L):Crs lt a0 b0 a m L:=fun p q h1 h2 h3 h4=>by
 by_cases hw:a ≤ p ∧ q < b
 ·rcases Nat.lt_trichotomy p m with hp | hp | hp
  ·rcases Nat.lt_trichotomy q m with hq | hq | hq
   ·omega
   ·subst hq;exact O.asym (h.1 p hw.1 h2)
   ·exact O.tr (O.asym (h.1 p hw.1 hp)) (h.2 q hq hw.2)
  ·subst hp;exact h.2 q h2 hw.2
  ·exact hs p q hp h2 hw.2
 ·exact hc p q h1 h2 h3 hw
theorem aCY (O:Ordr lt) {a0 b0 a b m:Nat} {L:List α} {x:α} (hc:Crs lt a0 b0 a b L) (hx:∀ k,a ≤ k → k < b → lt (gt L k) x = false) (h1:∀ k,a ≤ k → k < m → lt x (gt L k) = false) (_:m ≤ b):Crs lt a0 b0 m b L:=fun p q g1 g2 g3 g4=>by
 by_cases hw:a ≤ p ∧ q < b
 ·exact O.tr (h1 p hw.1 (by omega)) (hx q (by omega) hw.2)
 ·exact hc p q g1 g2 g3 hw
theorem aCB (O:Ordr lt) {a b m:Nat} {L:List α} {x:α} (hx:∀ k,a ≤ k → k < b → lt (gt L k) x = false) (h1:∀ k,a ≤ k → k < m → lt x (gt L k) = false) (ham:a < m):Blw lt m b L:=fun k g1 g2 _=>
 O.tr (h1 (m - 1) (by omega) (by omega)) (hx k (by omega) g2)
theorem Srt.pairwise {L:List α} (h:Srt lt 0 L.length L):L.Pairwise fun x y=>lt y x = false:=by
 rw [List.pairwise_iff_getElem]
 intro i j hi hj hij
 rw [← gt_eq hi,← gt_eq hj]
 exact h i j (Nat.zero_le _) hij hj
theorem ordrS:Ordr ltS:=⟨IM,fun {a b c} h k=>by
 cases h':ltS c a
 ·rfl
 ·rcases tW b c with e | e | e
  ·have:=nU e h';rw [h] at this;cases this
  ·subst e;rw [h] at h';cases h'
  ·rw [k] at e;cases e⟩
end
end Go.Vc

namespace Go.Vc
section
universe u
variable {α:Type u} {enc:α → Value} {P:Program}
structure Turn (lo:Nat) (e:TypeId) (enc:α → Value) (v:Value) (w w':World) (L':List α):Prop where
 ow:Ow lo e w' v (L'.map enc)
 ch:Ch (fun c=>v.ownBlock = some c) w w'
theorem Turn.refl {lo:Nat} {e:TypeId} {v:Value} {w:World} {L:List α} (h:Ow lo e w v (L.map enc)):Turn lo e enc v w w L:=⟨h,(Ext.refl w).ch⟩
theorem Turn.ext {lo:Nat} {e:TypeId} {v:Value} {w w' w'':World} {L:List α} (h:Turn lo e enc v w w' L) (k:Ext w' w''):Turn lo e enc v w w'' L:=
 ⟨h.ow.ext k,h.ch.trans (k.ch (S:=fun _=>False)) fun _ e=>e.elim⟩
theorem Turn.trans {lo:Nat} {e:TypeId} {v:Value} {w w' w'':World} {L L':List α} (h:Turn lo e enc v w w' L) (k:Turn lo e enc v w' w'' L'):Turn lo e enc v w w'' L':=
 ⟨k.ow,h.ch.trans k.ch fun _ e=>.inl e⟩
theorem iRdO [Inhabited α] {lo:Nat} {e:TypeId} {w:World} {v:Value} {L:List α} {z:Int} {j:Nat} {k:IntKind} {K:Value → Prop} (hs:Ow lo e w v (L.map enc)) (hz:z = (j:Int)) (hj:j < L.length) (h:K (enc (gt L j))):xIa 1 v (.int k z) fun p=>xLd w p K:=by
 subst hz
 refine iIaOw hs (by omega) (by rw [List.length_map];omega) fun b o _ _ _ hc _ _=>iLd (hc.trans ?_) h
 rw [Int.toNat_natCast,gt_eq hj]
 simp [hj]
theorem iWr2 {lo:Nat} {e:TypeId} {w:World} {v:Value} {L:List α} {z z':Int} {i j:Nat} {k k':IntKind} {x y:α} {K:World → Prop} (hE:∀ x,aC (enc x) = true) (hs:Ow lo e w v (L.map enc)) (hz:z = (i:Int)) (hz':z' = (j:Int)) (hi:i < L.length) (hj:j < L.length)
  (h:∀ w',Turn lo e enc v w w' ((L.set i x).set j y) → K w'):
  xIa 1 v (.int k z) fun p=>∀ w1,Ext w w1 → xSt w1 p (enc x) fun w2=>xIa 1 v (.int k' z') fun q=>∀ w3,Ext w2 w3 → xSt w3 q (enc y) fun w4=>∀ w5,Ext w4 w5 → K w5:=by
 subst hz
 subst hz'
 refine PR hs (by rw [List.length_map];exact hi) fun b hb H=>?_
 intro w1 h1
 obtain ⟨hc,hf,hset⟩:=H w1 _ rfl (hs.ext h1)
 refine iSt (hc.trans (List.getElem?_eq_getElem (by rw [List.length_map];exact hi))) hf (hE x) ?_
 have hs2:=hset (enc x)
 have hc2:Ch (fun c=>v.ownBlock = some c) w (w1.setCell ⟨b,i,none⟩ (enc x)):=(h1.ch (S:=fun c=>v.ownBlock = some c)).trans ((Upd.setCell w1 b i _).ch (S:=fun c=>v.ownBlock = some c) hb) fun _ e=>.inl e
 refine PR hs2 (by rw [List.length_set,List.length_map];exact hj) fun b' hb' H'=>?_
 intro w3 h3
 obtain ⟨hc3,hf3,hset3⟩:=H' w3 _ rfl (hs2.ext h3)
 refine iSt (hc3.trans (List.getElem?_eq_getElem (by rw [List.length_set,List.length_map];exact hj))) hf3 (hE y) ?_
 intro w5 h5
 refine h w5 (Turn.ext ⟨?_,?_⟩ h5)
 ·have:=hset3 (enc y)
  rwa [← List.map_set,← List.map_set] at this
 ·exact (hc2.trans (h3.ch (S:=fun c=>v.ownBlock = some c)) fun _ e=>.inl e).trans ((Upd.setCell w3 b' j _).ch (S:=fun c=>v.ownBlock = some c) hb') fun _ e=>.inl e
end
section
variable {P:Program} {w:World} {lo:Nat} {e:TypeId}
theorem Ow.open {v:Value} {xs:List Value} (hs:Ow lo e w v xs) (hne:xs ≠ []):∃ g cap,v = .slice (some ⟨g,0,none⟩) xs.length cap ∧ xs.length ≤ cap ∧ cap ≤ 9223372036854775807:=by
 obtain ⟨_,⟨_,h0⟩ | ⟨g,cap,cur,hv,_,_,h1,h2,_⟩⟩:=hs
 ·exact absurd (List.length_eq_zero_iff.1 h0) hne
 ·exact ⟨g,cap,hv,h1,h2⟩
theorem Ow.at {g n cap:Nat} {xs:List Value} (hs:Ow lo e w (.slice (some ⟨g,0,none⟩) n cap) xs) (hn:xs.length = n) {j:Nat} (hj:j < n):w.cell? ⟨g,j,none⟩ = xs[j]?:=by
 have h:w.ownsRow lo e 1 (.slice (some ⟨g,0,none⟩) n cap) n xs:=by unfold Ow at hs;rw [hn] at hs;exact hs
 exact h.cellAt j (by omega)
theorem SJ {g n cap k:Nat} {ki:IntKind} {K:Value → Prop} (hk:k < n) (hc:n ≤ cap) (h:K (.slice (some ⟨g,k,none⟩) (n - k) (cap - k))):xSl 1 (.slice (some ⟨g,0,none⟩) n cap) (some (.int ki (k:Int))) none K:=by
 refine ⟨_,_,_,k,n,rfl,rfl,⟨ki,rfl⟩,by omega,hc,?_⟩
 rw [if_neg (by omega),Option.map_some,bE,Nat.zero_add,Nat.mul_one]
 exact h
theorem LD {g n cap k:Nat} {ki:IntKind} {K:Value → Prop} (hk:k ≤ n) (hc:n ≤ cap) (h:K (.slice (some ⟨g,0,none⟩) k cap)):xSl 1 (.slice (some ⟨g,0,none⟩) n cap) none (some (.int ki (k:Int))) K:=by
 refine ⟨_,_,_,0,k,rfl,⟨ki,rfl⟩,rfl,Nat.zero_le _,by omega,?_⟩
 have e:(if cap = 0 then some (⟨g,0,none⟩:Addr) else (some (⟨g,0,none⟩:Addr)).map (·.add (0 * 1))) = some ⟨g,0,none⟩:=by
  split
  ·rfl
  ·simp [Addr.add]
 rw [e,Nat.sub_zero,Nat.sub_zero]
 exact h
theorem iClr {t ty:TypeId} {z:Value} {bytes g n cap k:Nat} {xs:List Value} {K:Value → World → Prop} (ht:P.underlying t = some (.slice e)) (hi:(P.info? e).map (fun i=>(i.zero,i.size,i.bytes)) = some (some z,1,bytes)) (hz:aC z = true)
  (hs:Ow lo e w (.slice (some ⟨g,0,none⟩) n cap) xs) (hn:xs.length = n) (hk:k < n) (h:∀ w',Ow lo e w' (.slice (some ⟨g,0,none⟩) k cap) (xs.take k) → Ch (fun c=>c = g) w w' → K (.tuple #[]) w'):
  xOp P (Builtin.clear_ #[t] ty #[.slice (some ⟨g,k,none⟩) (n - k) (cap - k)]) w K:=by
 obtain ⟨i,hi,h3⟩:=Option.map_eq_some_iff.1 hi
 simp only [Prod.mk.injEq] at h3
 obtain ⟨hz0,-,-⟩:=h3
 obtain ⟨-,⟨hv,-⟩ | ⟨g',cap',cur,hv,hg,hh,h1,h2,h3,h4⟩⟩:=hs
 ·cases hv
 ·injection hv with e1 e2 e3
  injection e1 with e1
  injection e1 with e1
  subst e1
  subst e3
  rw [hn] at h1 h4
  rw [Nat.mul_one] at h3 h4
  have hzc:(Builtin.zeroCells z.cells (n - k)).toList = List.replicate (n - k) z:=by
   rw [aX hz]
   simp [Builtin.zeroCells]
   apply List.ext_getElem
   ·simp
   ·intro i h1 h2
    simp [Nat.mod_one]
  have hrun:=run_storeCells_at P g k e (List.replicate (n - k) z) 0 cur w hh (by rw [List.length_replicate];omega) (fun v hv=>eF (by rw [List.eq_of_mem_replicate hv];exact hz))
  refine ⟨_,_,?_,h (w.setRow g (cur.toList.take (k + 0) ++ List.replicate (n - k) z ++ cur.toList.drop (k + 0 + (List.replicate (n - k) z).length)).toArray) ?_ ?_⟩
  ·obtain ⟨m,hm⟩:∃ m,n - k = m + 1:=⟨n - k - 1,by omega⟩
   rw [hm] at hrun hzc ⊢
   simp [Builtin.clear_,run_underlying ht,zeroValue,iZ hi,hz0,hzc,hrun]
  ·refine ⟨by simp,.inr ⟨g,cap,_,?_,hg,setRow_heap w g cur _ e (0,0) hh,by rw [List.length_take];omega,h2,?_,?_⟩⟩
   ·rw [List.length_take,hn,Nat.min_eq_left (by omega)]
   ·simp;omega
   ·rw [List.length_take,hn,Nat.min_eq_left (by omega),Nat.mul_one,Nat.add_zero,List.take_append_of_le_length (by simp;omega),List.take_append_of_le_length (by simp;omega),List.take_take,Nat.min_self,← h4,List.take_take,Nat.min_eq_left (by omega)]
  ·exact ⟨rfl,rfl,rfl,by rw [setRow_size];exact Nat.le_refl _,fun c _ hc=>setRow_other w g c _ hc⟩
end
end Go.Vc

namespace Go.Proofs.YteifjhpddhppcaaGreatDoor
open Go.Vc
theorem HY (a:Str) (w:World):Ret Tryz.prog s7 #[sv a] w (.bool false):=by
 apply JQ;unfold tO
 refine iNeT ?_
 rw [show decide (¬ a = a) = false by simp]
 exact ⟨by first | trivial | rfl,Ext.refl _⟩
theorem aR (a b:Str) (w:World):Ret Tryz.prog uO #[sv a,sv b] w (.bool (ltS a b)):=by
 apply L8;unfold u9
 refine iJnB (ltS a b) w (fun J hJ=>?_) (fun w4 h4=>?_)
 ·refine iRet (HY a w) fun w3 h3=>?_
  refine iCndF rfl ?_
  refine iLtT ?_
  exact hJ w3 h3
 ·intro _
  simp only [gx]
  exact ⟨by first | trivial | rfl,h4⟩
theorem kA {lo:Nat} {w:World} {v:Value} {L:List Str} {a b:Nat} (hs:Ow lo aB w v (strs L)) (hab:a ≤ b) (hb:b ≤ L.length) (hL:L.length ≤ 1152921504606846976):
  Cal Tryz.prog eJ #[v,.int .i64 (a:Int),.int .i64 (b:Int)] w fun _ w'=>∃ L',Turn lo aB sv v w w' L' ∧ SwR a b L L' ∧ Srt ltS a b L':=by
 apply kV;unfold eH
 (refine iAdd (by omega) ?_)
 refine iLp (fun i:Nat=>[.int .i64 (i:Int)]) (fun i w'=>a + 1 ≤ i ∧ i ≤ b + 1 ∧ ∃ L',Turn lo aB sv v w w' L' ∧ SwR a b L L' ∧ Srt ltS a i L') (fun i=>b + 1 - i) (a + 1) (by simp) ⟨Nat.le_refl _,by omega,L,Turn.refl hs,.refl,Srt.short (Nat.le_refl _)⟩ ?_
 rintro i w2 Kn ⟨hi,hib,L1,ht1,hw1,hs1⟩ hKn
 intro _
 simp only [gx]
 refine iLt ?_
 refine iCndP (fun h=>?_) (fun h=>?_)
 ·have hl1:=hw1.len
  refine iLp (fun j:Nat=>[.int .i64 (j:Int)]) (fun j w'=>a ≤ j ∧ j ≤ i ∧ ∃ L',Turn lo aB sv v w w' L' ∧ SwR a b L L' ∧ Ins ltS a i j L') (fun j=>j) i rfl ⟨by omega,Nat.le_refl _,L1,ht1,hw1,Ins.init hs1⟩ ?_
  rintro j w4 Kn2 ⟨haj,hji,L2,ht2,hw2,hin⟩ hKn2
  have hl2:=hw2.len
  intro _
  simp only [gx]
  refine iJnB (decide (a < j) && ltS (gt L2 j) (gt L2 (j - 1))) w4 (fun J hJ=>?_) (fun w6 h6=>?_)
  ·refine iLt ?_
   refine iCndP (fun h5=>?_) (fun h5=>?_)
   ·rw [decide_eq_true (show a < j by omega),Bool.true_and] at hJ
    refine iRdO (j:=j) ht2.ow rfl (by omega) ?_
    (refine iSub (by omega) ?_)
    refine iRdO (j:=j - 1) ht2.ow (by omega) (by omega) ?_
    exact iRetQ (fun w' _=>aR _ _ w') hJ
   ·rw [decide_eq_false (show ¬ a < j by omega),Bool.false_and] at hJ
    exact hJ
  ·intro _
   simp only [gx]
   have ht6:=ht2.ext h6
   cases hc:decide (a < j) && ltS (gt L2 j) (gt L2 (j - 1))
   ·refine iCndF rfl ?_
    (refine iAdd (by omega) ?_)
    refine hKn (i + 1) _ ⟨by omega,by omega,L2,ht6,hw2,hin.done ordrS ?_ hji⟩ (by omega)
    rw [Bool.and_eq_false_iff,decide_eq_false_iff_not] at hc
    rcases hc with hc | hc
    ·exact .inl (by omega)
    ·rcases Nat.lt_or_ge a j with h' | h'
     ·exact .inr ⟨h',hc⟩
     ·exact .inl h'
   ·rw [Bool.and_eq_true,decide_eq_true_eq] at hc
    refine iCndT rfl ?_
    (refine iSub (by omega) ?_;refine iSub (by omega) ?_)
    refine iRdO (j:=j - 1) ht6.ow (by omega) (by omega) ?_
    refine iRdO (j:=j) ht6.ow rfl (by omega) ?_
    refine iWr2 (i:=j) (j:=j - 1) (fun _=>rfl) ht6.ow rfl (by omega) (by omega) (by omega) fun w13 h13=>?_
    (refine iSub (by omega) ?_)
    rw [show (j:Int) - 1 = ((j - 1:Nat):Int) by omega]
    exact hKn2 (j - 1) _ ⟨by omega,by omega,sw L2 j (j - 1),ht6.trans h13,.step hw2 (by omega) (by omega) (by omega) (by omega) hb,hin.swap ordrS hc.1 hji (by omega) hc.2⟩ (by omega)
 ·exact ⟨L1,ht1,hw1,hs1.mono (Nat.le_refl _) (by omega)⟩
theorem lB {lo:Nat} {w:World} {v:Value} {L:List Str} {a b:Nat} (hs:Ow lo aB w v (strs L)) (hab:a ≤ b) (hb:b ≤ L.length) (hL:L.length ≤ 1152921504606846976):
  Cal Tryz.prog eZ #[v,.int .i64 (a:Int),.int .i64 (b:Int)] w fun _ w'=>∃ L',Turn lo aB sv v w w' L' ∧ SwR a b L L':=by
 apply lR;unfold eY
 (refine iSub (by omega) ?_)
 refine iLp (fun s:Nat × Int=>[.int .i64 (s.1:Int),.int .i64 s.2]) (fun s w'=>a ≤ s.1 ∧ s.1 ≤ b ∧ -1 ≤ s.2 ∧ s.2 < b ∧ (b:Int) - s.2 ≤ s.1 - a + 1 ∧ ∃ L',Turn lo aB sv v w w' L' ∧ SwR a b L L') (fun s=>b - s.1) (a,(b:Int) - 1) rfl ⟨Nat.le_refl _,hab,by show -1 ≤ (b:Int) - 1;omega,by show (b:Int) - 1 < b;omega,by show (b:Int) - ((b:Int) - 1) ≤ a - a + 1;omega,L,Turn.refl hs,.refl⟩ ?_
 rintro ⟨i,j⟩ w2 Kn ⟨hi,hib,hj,hjb,hij,L1,ht1,hw1⟩ hKn
 have hi:a ≤ i:=hi
 have hib:i ≤ b:=hib
 have hj:-1 ≤ j:=hj
 have hjb:j < b:=hjb
 have hij:(b:Int) - j ≤ i - a + 1:=hij
 have hl1:=hw1.len
 intro _
 simp only [gx]
 refine iLt ?_
 refine iCndP (fun h=>?_) (fun h=>?_)
 ·refine iRdO (j:=j.toNat) ht1.ow (by omega) (by omega) ?_
  refine iRdO (j:=i) ht1.ow rfl (by omega) ?_
  refine iWr2 (i:=i) (j:=j.toNat) (fun _=>rfl) ht1.ow rfl (by omega) (by omega) (by omega) fun w7 h7=>?_
  (refine iAdd (by omega) ?_;refine iSub (by omega) ?_)
  exact hKn (i + 1,j - 1) _ ⟨by show a ≤ i + 1;omega,by show i + 1 ≤ b;omega,by show -1 ≤ j - 1;omega,by show j - 1 < b;omega,by show (b:Int) - (j - 1) ≤ ((i + 1:Nat):Int) - a + 1;omega,sw L1 i j.toNat,ht1.trans h7,.step hw1 hi (by omega) (by omega) (by omega) hb⟩ (by show b - (i + 1) < b - i;omega)
 ·exact ⟨L1,ht1,hw1⟩
theorem f5 {lo0:Nat} {w:World} {v:Value} {L:List Str} {lo hi first:Nat} (hs:Ow lo0 aB w v (strs L)) (hlo:lo ≤ hi) (hb:first + hi ≤ L.length) (hL:L.length ≤ 1152921504606846976) (hh:Heap ltS first (lo + 1) hi L):
  Cal Tryz.prog gF #[v,.int .i64 (lo:Int),.int .i64 (hi:Int),.int .i64 (first:Int)] w fun _ w'=>∃ L',Turn lo0 aB sv v w w' L' ∧ SwR (first + lo) (first + hi) L L' ∧ Heap ltS first lo hi L':=by
 apply oF;unfold gA
 refine iLp (fun r:Nat=>[.int .i64 (r:Int)]) (fun r w'=>lo ≤ r ∧ r ≤ hi ∧ ∃ L',Turn lo0 aB sv v w w' L' ∧ SwR (first + lo) (first + hi) L L' ∧ Sift ltS first lo hi r L') (fun r=>hi - r) lo rfl ⟨Nat.le_refl _,hlo,L,Turn.refl hs,.refl,Sift.init hh⟩ ?_
 rintro r w2 Kn ⟨hr,hrh,L1,ht1,hw1,hsf⟩ hKn
 have hl1:=hw1.len
 intro _
 simp only [gx]
 refine iMul (by omega) ?_
 (refine iAdd (by omega) ?_;(with_reducible refine iLe ?_))
 refine iCndP (fun h=>?_) (fun h=>?_)
 ·exact ⟨L1,ht1,hw1,hsf.done fun c hc hch=>by omega⟩
 ·have hlr:r < hi:=by omega
  refine iJnB (decide (2 * r + 2 < hi) && ltS (gt L1 (first + (2 * r + 1))) (gt L1 (first + (2 * r + 2)))) w2 (fun J hJ=>?_) (fun w4 h4=>?_)
  ·(refine iAdd (by omega) ?_;(with_reducible refine iLt ?_))
   refine iCndP (fun h5=>?_) (fun h5=>?_)
   ·rw [decide_eq_true (show 2 * r + 2 < hi by omega),Bool.true_and] at hJ
    (refine iAdd (by omega) ?_)
    refine iRdO (j:=first + (2 * r + 1)) ht1.ow (by omega) (by omega) ?_
    (refine iAdd (by omega) ?_;refine iAdd (by omega) ?_)
    refine iRdO (j:=first + (2 * r + 2)) ht1.ow (by omega) (by omega) ?_
    exact iRetQ (fun w' _=>aR _ _ w') hJ
   ·rw [decide_eq_false (show ¬ 2 * r + 2 < hi by omega),Bool.false_and] at hJ
    exact hJ
  ·intro _
   simp only [gx]
   have ht4:=ht1.ext h4
   refine iJnX (fun xs w8=>Ext w4 w8 ∧ ∃ c:Nat,xs = [.int .i64 (c:Int)] ∧ (c = 2 * r + 1 ∨ c = 2 * r + 2) ∧ c < hi ∧ ∀ d,(d = 2 * r + 1 ∨ d = 2 * r + 2) → d < hi → ltS (gt L1 (first + c)) (gt L1 (first + d)) = false) (fun J hJ=>?_) ?_
   ·cases hc:decide (2 * r + 2 < hi) && ltS (gt L1 (first + (2 * r + 1))) (gt L1 (first + (2 * r + 2)))
    ·refine iCndF rfl ?_
     refine hJ _ _ ⟨Ext.refl _,2 * r + 1,rfl,.inl rfl,by omega,fun d hd hdh=>?_⟩
     rcases hd with hd | hd
     ·subst hd;exact ordrS.rfl _
     ·subst hd;rw [decide_eq_true hdh,Bool.true_and] at hc;exact hc
    ·rw [Bool.and_eq_true,decide_eq_true_eq] at hc
     refine iCndT rfl ?_
     (refine iAdd (by omega) ?_)
     refine hJ _ _ ⟨Ext.refl _,2 * r + 2,rfl,.inr rfl,hc.1,fun d hd hdh=>?_⟩
     rcases hd with hd | hd
     ·subst hd;exact ordrS.asym hc.2
     ·subst hd;exact ordrS.rfl _
   ·rintro xs w8 ⟨h8,c,rfl,hc,hch,hmax⟩
    intro _
    simp only [gx]
    have ht8:=ht4.ext h8
    (refine iAdd (by omega) ?_)
    refine iRdO (j:=first + r) ht8.ow (by omega) (by omega) ?_
    (refine iAdd (by omega) ?_)
    refine iRdO (j:=first + c) ht8.ow (by omega) (by omega) ?_
    refine iRetQ (fun w' _=>aR _ _ w') ?_
    refine iNot ?_
    intro w9 h9
    have ht9:=ht8.ext h9
    refine iCnd (fun h5=>?_) (fun h5=>?_)
    ·refine ⟨L1,ht9,hw1,hsf.done fun d hd hdh=>?_⟩
     have h5:ltS (gt L1 (first + r)) (gt L1 (first + c)) = false:=by simpa using h5
     exact ordrS.tr (hmax d hd hdh) h5
    ·have h5:ltS (gt L1 (first + r)) (gt L1 (first + c)) = true:=by simpa using h5
     (refine iAdd (by omega) ?_;refine iAdd (by omega) ?_;refine iAdd (by omega) ?_)
     refine iRdO (j:=first + c) ht9.ow (by omega) (by omega) ?_
     (refine iAdd (by omega) ?_)
     refine iRdO (j:=first + r) ht9.ow (by omega) (by omega) ?_
     refine iWr2 (i:=first + r) (j:=first + c) (fun _=>rfl) ht9.ow (by omega) (by omega) (by omega) (by omega) fun w14 h14=>?_
     exact hKn c _ ⟨by omega,by omega,sw L1 (first + r) (first + c),ht9.trans h14,.step hw1 (by omega) (by omega) (by omega) (by omega) (by omega),hsf.swap ordrS hr hc hch (by omega) h5 hmax⟩ (by omega)
theorem nE {lo:Nat} {w:World} {v:Value} {L:List Str} {a b:Nat} (hs:Ow lo aB w v (strs L)) (hab:a < b) (hb:b ≤ L.length) (hL:L.length ≤ 1152921504606846976):
  Cal Tryz.prog gG #[v,.int .i64 (a:Int),.int .i64 (b:Int)] w fun _ w'=>∃ L',Turn lo aB sv v w w' L' ∧ SwR a b L L' ∧ Srt ltS a b L':=by
 apply oG;unfold gE
 obtain ⟨n,rfl⟩:∃ n,b = a + n:=⟨b - a,by omega⟩
 (refine iSub (by omega) ?_;refine iSub (by omega) ?_)
 refine iQuo (by omega) ?_
 refine iLp (fun s:Nat=>[.int .i64 ((s:Int) - 1)]) (fun s w'=>s ≤ n ∧ ∃ L',Turn lo aB sv v w w' L' ∧ SwR a (a + n) L L' ∧ Heap ltS a s n L') (fun s=>s) ((n - 1) / 2 + 1) (by congr 2;omega) ⟨by omega,L,Turn.refl hs,.refl,fun p c h1 h2 h3=>by omega⟩ ?_
 rintro s w2 Kn ⟨hsn,L1,ht1,hw1,hh⟩ hKn
 have hl1:=hw1.len
 intro _
 simp only [gx]
 refine iLe ?_
 refine iCndP (fun h=>?_) (fun h=>?_)
 ·rw [show (s:Int) - 1 = ((s - 1:Nat):Int) by omega,show ((a + n:Nat):Int) - a = (n:Int) by omega]
  refine iCall ?_
  refine (f5 (lo:=s - 1) (hi:=n) (first:=a) ht1.ow (by omega) (by omega) (by omega) (by rw [show s - 1 + 1 = s by omega];exact hh)).mono fun _ w3 h3=>?_
  obtain ⟨L2,ht2,hw2,hh2⟩:=h3
  (refine iSub (by omega) ?_)
  exact hKn (s - 1) _ ⟨by omega,L2,ht1.trans ht2,hw1.trans (hw2.mono (by omega) (Nat.le_refl _) (by omega)),hh2⟩ (by omega)
 ·(refine iSub (by omega) ?_)
  have hs0:s = 0:=by omega
  subst hs0
  refine iLp (fun s:Nat=>[.int .i64 ((s:Int) - 1)]) (fun s w'=>s ≤ n ∧ ∃ L',Turn lo aB sv v w w' L' ∧ SwR a (a + n) L L' ∧ Heap ltS a 0 s L' ∧ (∀ p q,a ≤ p → p < q → a + s ≤ q → q < a + n → ltS (gt L' q) (gt L' p) = false)) (fun s=>s) n (by congr 2;omega) ⟨Nat.le_refl _,L1,ht1,hw1,hh,fun p q h1 h2 h3 h4=>by omega⟩ ?_
  rintro s w5 Kn5 ⟨hsn,L2,ht2,hw2,hh2,hpr⟩ hKn5
  have hl2:=hw2.len
  intro _
  simp only [gx]
  refine iLe ?_
  refine iCndP (fun h5=>?_) (fun h5=>?_)
  ·(refine iAdd (by omega) ?_;refine iAdd (by omega) ?_)
   refine iRdO (j:=a + (s - 1)) ht2.ow (by omega) (by omega) ?_
   refine iRdO (j:=a) ht2.ow rfl (by omega) ?_
   refine iWr2 (i:=a) (j:=a + (s - 1)) (fun _=>rfl) ht2.ow rfl (by omega) (by omega) (by omega) fun w10 h10=>?_
   rw [show (s:Int) - 1 = ((s - 1:Nat):Int) by omega]
   have e:∀ k,gt (sw L2 a (a + (s - 1))) k = if k = a + (s - 1) then gt L2 a else if k = a then gt L2 (a + (s - 1)) else gt L2 k:=gt_sw (by omega) (by omega)
   have hw3:SwR a (a + n) L2 (sw L2 a (a + (s - 1))):=.one (by omega) (by omega) (by omega) (by omega) (by omega)
   have htop:=Heap.top ordrS hh2
   refine iCall ?_
   refine (f5 (L:=sw L2 a (a + (s - 1))) (lo:=0) (hi:=s - 1) (first:=a) h10.ow (by omega) (by rw [hw3.len];omega) (by rw [hw3.len];omega) (fun p c h1 h2 h3=>by
    rw [e,e,if_neg (by omega),if_neg (by omega),if_neg (by omega),if_neg (by omega)]
    exact hh2 p c (by omega) h2 (by omega))).mono fun _ w11 h11=>?_
   obtain ⟨L4,ht4,hw4,hh4⟩:=h11
   (refine iSub (by omega) ?_)
   refine hKn5 (s - 1) _ ⟨by omega,L4,(ht2.trans h10).trans ht4,(hw2.trans hw3).trans (hw4.mono (by omega) (by omega) (by rw [hw3.len];omega)),hh4,fun p q h1 h2 h3 h4=>?_⟩ (by omega)
   rw [hw4.out (k:=q) (by omega)]
   have main:∀ p,a ≤ p → p < q → ltS (gt (sw L2 a (a + (s - 1))) q) (gt (sw L2 a (a + (s - 1))) p) = false:=fun p h1 h2=>by
    rw [e,e]
    by_cases hq:q = a + (s - 1)
    ·rw [if_pos hq,if_neg (by omega)]
     split
     ·exact htop _ (by omega)
     ·obtain ⟨k,rfl⟩:∃ k,p = a + k:=⟨p - a,by omega⟩
      exact htop _ (by omega)
    ·rw [if_neg hq,if_neg (by omega)]
     split
     ·exact hpr a q (by omega) (by omega) (by omega) h4
     ·split
      ·exact hpr _ q (by omega) (by omega) (by omega) h4
      ·exact hpr p q h1 h2 (by omega) h4
   rcases Nat.lt_or_ge p (a + (s - 1)) with hp | hp
   ·exact hw4.all (p:=fun x=>ltS (gt (sw L2 a (a + (s - 1))) q) x = false) (fun k hk hk'=>main k (by omega) (by omega)) p (by omega) hp
   ·rw [hw4.out (k:=p) (by omega)];exact main p h1 h2
  ·exact ⟨L2,ht2,hw2,fun p q h1 h2 h3=>hpr p q h1 h2 (by omega) h3⟩
end Go.Proofs.YteifjhpddhppcaaGreatDoor

namespace Go.Vc
def len8T:Str:=[0,1,2,2,3,3,3,3,4,4,4,4,4,4,4,4,5,5,5,5,5,5,5,5,5,5,5,5,5,5,5,5,6,6,6,6,6,6,6,6,6,6,6,6,6,6,6,6,6,6,6,6,6,6,6,6,6,6,6,6,6,6,6,6,
 7,7,7,7,7,7,7,7,7,7,7,7,7,7,7,7,7,7,7,7,7,7,7,7,7,7,7,7,7,7,7,7,7,7,7,7,7,7,7,7,7,7,7,7,7,7,7,7,7,7,7,7,7,7,7,7,7,7,7,7,7,7,7,7,
 8,8,8,8,8,8,8,8,8,8,8,8,8,8,8,8,8,8,8,8,8,8,8,8,8,8,8,8,8,8,8,8,8,8,8,8,8,8,8,8,8,8,8,8,8,8,8,8,8,8,8,8,8,8,8,8,8,8,8,8,8,8,8,8,
 8,8,8,8,8,8,8,8,8,8,8,8,8,8,8,8,8,8,8,8,8,8,8,8,8,8,8,8,8,8,8,8,8,8,8,8,8,8,8,8,8,8,8,8,8,8,8,8,8,8,8,8,8,8,8,8,8,8,8,8,8,8,8,8]
theorem aC6:∀ x:Fin 256,x.val < 2 ^ (len8T.getD x.val 0).toNat ∧ (1 ≤ x.val → 2 ^ (len8T.getD x.val 0).toNat ≤ 2 * x.val) ∧ (len8T.getD x.val 0).toNat ≤ 8:=by decide +kernel
theorem aEO {a:Int} {m:Nat} {K:Value → Prop} (hm:m < 2 ^ 64) (h:∀ x:Nat,x ≤ m → K (.int .u64 (x:Int))):xBits iAnd .u64 (.int .u64 a) (.int .u64 (m:Int)) K:=by
 refine ⟨_,_,rfl,rfl,?_⟩
 have e:iAnd .u64 a (m:Int) = (((BitVec.ofInt 64 a &&& BitVec.ofInt 64 (m:Int)).toNat:Nat):Int):=by
  rw [show iAnd .u64 a (m:Int) = IntKind.u64.wrap ((BitVec.ofInt 64 a &&& BitVec.ofInt 64 (m:Int)).toNat:Nat) from rfl]
  exact IntWalk.u64_in _ (by have:=(BitVec.ofInt 64 a &&& BitVec.ofInt 64 (m:Int)).isLt;omega)
 rw [e]
 refine h _ ?_
 rw [BitVec.toNat_and,gP,BitVec.toNat_ofNat,Nat.mod_eq_of_lt (a:=m) (by omega)]
 exact Nat.and_le_right
theorem iStC {e:TypeId} {w:World} {b:Nat} {old v:Value} {K:World → Prop} (hb:Blk e w b [old]) (hv:aC v = true) (h:∀ w',Blk e w' b [v] → Ch (fun c=>c = b) w w' → K w'):xSt w (.pointer (some ⟨b,0,none⟩)) v K:=
 iStB hb (by simp) hv fun h2=>h _ h2 ((Upd.setCell w b 0 v).ch rfl)
theorem PC {a j:Nat} {K:Value → Prop} (hj:j ≤ 64) (h:K (.int .u64 ((a / 2 ^ j:Nat):Int))):xSh iShr .u64 (.int .u64 (a:Int)) (.int .u64 (j:Int)) K:=by
 refine ⟨_,_,_,rfl,rfl,by omega,?_⟩
 rw [show iShr .u64 (a:Int) (j:Int) = ((a / 2 ^ j:Nat):Int) by
  unfold iShr
  rw [Int.toNat_natCast,show IntKind.u64.bits = 64 from rfl,Nat.min_eq_left hj,Int.fdiv_eq_ediv_of_nonneg _ (Int.le_of_lt (Int.pow_pos (by omega)))]
  push_cast
  rfl]
 exact h
end Go.Vc
namespace Go.Proofs.YteifjhpddhppcaaGreatDoor
open Go.Vc
set_option maxRecDepth 20000 in
theorem H1 {n:Nat} (hn:n < 2 ^ 63) (w:World):Cal Tryz.prog uL #[.int .u64 (n:Int)] w fun r w'=>Ext w w' ∧ ∃ k:Nat,r = .int .i64 (k:Int) ∧ n < 2 ^ k ∧ (1 ≤ n → 2 ^ k ≤ 2 * n) ∧ k ≤ 64:=by
 apply MF;unfold vS
 -- at each join: what is left of n, and by how many bits it was shifted
 have stage:∀ {x m s:Nat},x = n / 2 ^ m → x / 2 ^ s = n / 2 ^ (m + s):=fun {x m s} h=>by rw [h,Nat.div_div_eq_div_mul,← Nat.pow_add]
 ((with_reducible refine iLe ?_))
 refine iJnX (fun xs w'=>Ext w w' ∧ ∃ x m:Nat,xs = [.int .u64 (x:Int),.int .i64 (m:Int)] ∧ x = n / 2 ^ m ∧ x < 2 ^ 32 ∧ (1 ≤ m → 1 ≤ x) ∧ m ≤ 32) (fun J hJ=>?_) ?_
 ·refine iCndP (fun h=>?_) (fun h=>?_)
  ·refine PC (j:=32) (by omega) ?_
   exact hJ _ _ ⟨Ext.refl _,_,32,rfl,rfl,by omega,by omega,by omega⟩
  ·exact hJ _ _ ⟨Ext.refl _,n,0,rfl,by simp,by omega,by omega,by omega⟩
 rintro xs w2 ⟨h2,x,m,rfl,hx,hx32,hm1,hm⟩
 intro _
 simp only [gx]
 ((with_reducible refine iLe ?_))
 refine iJnX (fun xs w'=>Ext w w' ∧ ∃ x m:Nat,xs = [.int .u64 (x:Int),.int .i64 (m:Int)] ∧ x = n / 2 ^ m ∧ x < 2 ^ 16 ∧ (1 ≤ m → 1 ≤ x) ∧ m ≤ 48) (fun J hJ=>?_) ?_
 ·refine iCndP (fun h=>?_) (fun h=>?_)
  ·refine PC (j:=16) (by omega) ?_
   (refine iAdd (by omega) ?_)
   exact hJ _ _ ⟨h2,_,m + 16,rfl,stage hx,by omega,by omega,by omega⟩
  ·exact hJ _ _ ⟨h2,x,m,rfl,hx,by omega,hm1,by omega⟩
 rintro xs w4 ⟨h4,x,m,rfl,hx,hx16,hm1,hm⟩
 intro _
 simp only [gx]
 ((with_reducible refine iLe ?_))
 refine iJnX (fun xs w'=>Ext w w' ∧ ∃ x m:Nat,xs = [.int .u64 (x:Int),.int .i64 (m:Int)] ∧ x = n / 2 ^ m ∧ x < 2 ^ 8 ∧ (1 ≤ m → 1 ≤ x) ∧ m ≤ 56) (fun J hJ=>?_) ?_
 ·refine iCndP (fun h=>?_) (fun h=>?_)
  ·refine PC (j:=8) (by omega) ?_
   (refine iAdd (by omega) ?_)
   exact hJ _ _ ⟨h4,_,m + 8,rfl,stage hx,by omega,by omega,by omega⟩
  ·exact hJ _ _ ⟨h4,x,m,rfl,hx,by omega,hm1,by omega⟩
 rintro xs w6 ⟨h6,x,m,rfl,hx,hx8,hm1,hm⟩
 intro _
 simp only [gx]
 obtain ⟨t1,t2,t3⟩:x < 2 ^ (len8T.getD x 0).toNat ∧ (1 ≤ x → 2 ^ (len8T.getD x 0).toNat ≤ 2 * x) ∧ (len8T.getD x 0).toNat ≤ 8:=aC6 ⟨x,hx8⟩
 refine ⟨_,_,rfl,?_⟩
 rw [IntWalk.u8_in _ (by omega)]
 refine iIs (l:=len8T) (j:=x) (by show x < 256;omega) ?_
 refine q8 (by omega) ?_
 refine iAdd (by omega) ?_
 refine ⟨h6,m + (len8T.getD x 0).toNat,by first | rfl | (push_cast;rfl),?_,fun h1=>?_,by omega⟩
 ·have:=Nat.lt_div_mul_add (a:=n) (b:=2 ^ m) (Nat.two_pow_pos m)
  rw [← hx] at this
  have h3:(x + 1) * 2 ^ m ≤ 2 ^ (len8T.getD x 0).toNat * 2 ^ m:=Nat.mul_le_mul_right _ t1
  rw [Nat.pow_add,Nat.mul_comm (2 ^ m)]
  rw [Nat.add_mul] at h3
  omega
 ·rcases Nat.eq_zero_or_pos x with h0 | h0
  ·have hm0:m = 0:=by omega
   subst hm0
   simp at hx
   omega
  ·have h3:=Nat.mul_le_mul_left (2 ^ m) (t2 h0)
   have h4:2 ^ m * x ≤ n:=by rw [hx];exact Nat.mul_div_le n (2 ^ m)
   rw [Nat.pow_add]
   rw [Nat.mul_left_comm] at h3
   omega
theorem uQ {n:Nat} (hn:n < 2 ^ 63) (w:World):Cal Tryz.prog AK #[.int .u64 (n:Int)] w fun r w'=>Ext w w' ∧ ∃ k:Nat,r = .int .i64 (k:Int) ∧ n < 2 ^ k ∧ (1 ≤ n → 2 ^ k ≤ 2 * n) ∧ k ≤ 64:=by
 apply Q5;unfold A1
 exact iCall (H1 hn w)
theorem xT {n:Nat} (h1:1 ≤ n) (hn:n ≤ 1152921504606846976) (w:World):Cal Tryz.prog lU #[.int .i64 (n:Int)] w fun r w'=>Ext w w' ∧ ∃ m:Nat,r = .int .u64 (m:Int) ∧ 1 ≤ m ∧ m ≤ 2 * n:=by
 apply yZ;unfold l5
 refine D4 (by omega) ?_
 refine iCall ?_
 refine (uQ (by omega) w).mono fun r w1 h=>?_
 obtain ⟨h1',k,rfl,hk1,hk2,hk3⟩:=h
 have hk:=hk2 h1
 refine ⟨_,_,_,rfl,rfl,by omega,?_⟩
 have e:iShl .u64 1 (k:Int) = ((2 ^ k:Nat):Int):=by
  rw [show iShl .u64 1 (k:Int) = IntKind.u64.wrap (1 * 2 ^ min (k:Int).toNat 64) from rfl,Int.toNat_natCast,Nat.min_eq_left hk3,Int.one_mul,show ((2:Int) ^ k) = ((2 ^ k:Nat):Int) by push_cast;rfl]
  exact IntWalk.u64_in _ (by omega)
 rw [e]
 exact ⟨h1',2 ^ k,rfl,Nat.two_pow_pos k,hk⟩
theorem zC {e:TypeId} {w:World} {b:Nat} {x:Int} (hb:Blk e w b [.int .u64 x]):Cal Tryz.prog mK #[.pointer (some ⟨b,0,none⟩)] w fun r w'=>∃ y:Int,r = .int .u64 y ∧ Blk e w' b [.int .u64 y] ∧ Ch (fun c=>c = b) w w':=by
 apply BJ;unfold mO
 ((with_reducible refine iNil ?_);refine iLdB (by assumption) (by first | rfl | simp) ?_;(with_reducible refine iNil ?_);refine iLdB (by assumption) (by first | rfl | simp) ?_)
 refine ⟨_,_,_,rfl,rfl,by omega,?_⟩
 refine ⟨_,_,rfl,rfl,?_⟩
 ((with_reducible refine iNil ?_))
 intro w1 h1
 refine iStC (hb.ext h1) rfl fun w2 hb2 h2=>?_
 intro w3 h3
 have hb3:=hb2.ext h3
 have c3:=aM ((h1.ch.trans h2 fun _ e=>.inl e)) h3
 clear hb2 h2
 ((with_reducible refine iNil ?_);refine iLdB (by assumption) (by first | rfl | simp) ?_;(with_reducible refine iNil ?_);refine iLdB (by assumption) (by first | rfl | simp) ?_)
 refine ⟨_,_,_,rfl,rfl,by omega,?_⟩
 refine ⟨_,_,rfl,rfl,?_⟩
 ((with_reducible refine iNil ?_))
 intro w4 h4
 refine iStC (hb3.ext h4) rfl fun w5 hb5 h5=>?_
 intro w6 h6
 have hb6:=hb5.ext h6
 have c6:=aM (aA (aM c3 h4) h5) h6
 clear hb5 hb3 hb c3
 ((with_reducible refine iNil ?_);refine iLdB (by assumption) (by first | rfl | simp) ?_;(with_reducible refine iNil ?_);refine iLdB (by assumption) (by first | rfl | simp) ?_)
 refine ⟨_,_,_,rfl,rfl,by omega,?_⟩
 refine ⟨_,_,rfl,rfl,?_⟩
 ((with_reducible refine iNil ?_))
 intro w7 h7
 refine iStC (hb6.ext h7) rfl fun w8 hb8 h8=>?_
 intro w9 h9
 have hb9:=hb8.ext h9
 have c9:=aM (aA (aM c6 h7) h8) h9
 clear hb8 hb6 c6
 ((with_reducible refine iNil ?_);refine iLdB (by assumption) (by first | rfl | simp) ?_)
 exact ⟨_,rfl,hb9,c9⟩
theorem kD {lo:Nat} {w:World} {v:Value} {L:List Str} {a b:Nat} (hs:Ow lo aB w v (strs L)) (hab:a ≤ b) (hb:b ≤ L.length) (hL:L.length ≤ 1152921504606846976):
  Cal Tryz.prog eQ #[v,.int .i64 (a:Int),.int .i64 (b:Int)] w fun _ w'=>∃ L',Turn lo aB sv v w w' L' ∧ SwR a b L L':=by
 apply lE;unfold eI
 obtain ⟨n,rfl⟩:∃ n,b = a + n:=⟨b - a,by omega⟩
 refine iSub (by omega) ?_
 rw [show ((a + n:Nat):Int) - a = (n:Int) by omega]
 refine iLe ?_
 refine iCndP (fun h=>?_) (fun h=>?_)
 ·refine D4 (by omega) ?_
  refine iNew fun c w1 hc1 h1 hb1=>?_
  refine iStB hb1 (by simp [Value.cells]) rfl fun hb2=>?_
  have x2:Ext w (w1.setCell ⟨c,0,none⟩ (.int .u64 (n:Int))):=YU h1 (by show w.heap.size ≤ c;omega) _
  refine iCall ?_
  refine (xT (by omega) (by omega) _).mono fun r w3 h3=>?_
  obtain ⟨h3,m,rfl,hm1,hm2⟩:=h3
  have hb3:=hb2.ext h3
  have hs3:=(hs.ext x2).ext h3
  have hne:v.ownBlock ≠ some c:=hs.lt (by omega)
  refine iQuo (by omega) ?_
  refine iMul (by omega) ?_
  refine iAdd (by omega) ?_
  refine iSub (by omega) ?_
  refine iLp (fun i:Nat=>[.int .i64 (i:Int)]) (fun i w'=>a + n / 4 * 2 - 1 ≤ i ∧ (∃ x,Blk 259 w' c [.int .u64 x]) ∧ ∃ L',Turn lo aB sv v w w' L' ∧ SwR a (a + n) L L') (fun i=>a + n - i) (a + n / 4 * 2 - 1) (by congr 2;omega)
   ⟨Nat.le_refl _,⟨_,hb3⟩,L,⟨hs3,((x2.trans h3).ch)⟩,.refl⟩ ?_
  rintro i w5 Kn ⟨hi,⟨x,hb5⟩,L1,ht1,hw1⟩ hKn
  have hl1:=hw1.len
  intro _
  simp only [gx]
  refine iQuo (by omega) ?_
  refine iMul (by omega) ?_
  refine iAdd (by omega) ?_
  refine iAdd (by omega) ?_
  refine iLe ?_
  refine iCndP (fun h5=>?_) (fun h5=>?_)
  ·refine iCall ?_
   refine (zC hb5).mono fun r w6 h6=>?_
   obtain ⟨y,rfl,hb6,hc6⟩:=h6
   have hs6:=ht1.ow.ch hc6 fun c' hc' e=>hne (e ▸ hc')
   refine ⟨_,_,rfl,rfl,?_⟩
   rw [show IntKind.u64.wrap ((m:Int) - 1) = ((m - 1:Nat):Int) by rw [IntWalk.u64_in _ (by omega)];omega]
   refine aEO (by omega) fun x hx=>?_
   refine q8 (by omega) ?_
   refine iLe ?_
   refine iJnX (fun xs w8=>Ext w6 w8 ∧ ∃ z:Nat,xs = [.int .i64 (z:Int)] ∧ z < n) (fun J hJ=>?_) ?_
   ·refine iCndP (fun h7=>?_) (fun h7=>?_)
    ·refine iSub (by omega) ?_
     rw [show (x:Int) - n = ((x - n:Nat):Int) by omega]
     exact hJ _ _ ⟨Ext.refl _,x - n,rfl,by omega⟩
    ·exact hJ _ _ ⟨Ext.refl _,x,rfl,by omega⟩
   rintro xs w8 ⟨h8,z,rfl,hz⟩
   intro _
   simp only [gx]
   have hs8:=hs6.ext h8
   have hb8:=hb6.ext h8
   have hc8:=aM hc6 h8
   refine iAdd (by omega) ?_
   refine iAdd (by omega) ?_
   refine iRdO (j:=a + z) hs8 (by omega) (by omega) ?_
   refine iRdO (j:=i) hs8 rfl (by omega) ?_
   refine iWr2 (i:=i) (j:=a + z) (fun _=>rfl) hs8 rfl (by omega) (by omega) (by omega) fun w13 h13=>?_
   refine iAdd (by omega) ?_
   refine hKn (i + 1) _ ⟨by omega,⟨_,hb8.ch h13.ch fun e=>hne e⟩,sw L1 i (a + z),⟨h13.ow,?_⟩,.step hw1 (by omega) (by omega) (by omega) (by omega) hb⟩ (by omega)
   refine (ht1.ch.trans hc8 fun c' e=>.inr ?_).trans h13.ch fun _ e=>.inl e
   omega
  ·exact ⟨L1,ht1,hw1⟩
 ·exact ⟨L,Turn.refl hs,.refl⟩
end Go.Proofs.YteifjhpddhppcaaGreatDoor

namespace Go.Proofs.YteifjhpddhppcaaGreatDoor
open Go.Vc
theorem dN {lo:Nat} {e:TypeId} {w:World} {v:Value} {L:List Str} {i j c n:Nat} (hs:Ow lo aB w v (strs L)) (hi:i < L.length) (hj:j < L.length) (hb:Blk e w c [.int .i64 (n:Int)]) (hn:n ≤ 1000):
  Cal Tryz.prog iC #[v,.int .i64 (i:Int),.int .i64 (j:Int),.pointer (some ⟨c,0,none⟩)] w fun r w'=>∃ i' j' m:Nat,r = .tuple #[.int .i64 (i':Int),.int .i64 (j':Int)] ∧ ((i' = i ∧ j' = j) ∨ (i' = j ∧ j' = i)) ∧ m ≤ n + 1 ∧ Blk e w' c [.int .i64 (m:Int)] ∧ Ch (fun d=>d = c) w w':=by
 apply pR;unfold g9
 refine iRdO (j:=j) hs rfl hj ?_
 refine iRdO (j:=i) hs rfl hi ?_
 refine iRetQ (fun w' _=>aR _ _ w') ?_
 intro w1 h1
 have hb1:=hb.ext h1
 refine iCnd (fun h=>?_) (fun h=>?_)
 ·((with_reducible refine iNil ?_);refine iLdB (by assumption) (by first | rfl | simp) ?_;refine iAdd (by omega) ?_;(with_reducible refine iNil ?_))
  refine iStC hb1 rfl fun w2 hb2 hc2=>?_
  exact ⟨j,i,n + 1,rfl,.inr ⟨rfl,rfl⟩,Nat.le_refl _,hb2,(h1.ch.trans hc2 fun _ e=>.inl e)⟩
 ·exact ⟨i,j,n,rfl,.inl ⟨rfl,rfl⟩,by omega,hb1,h1.ch⟩
theorem gU {lo:Nat} {e:TypeId} {w:World} {v:Value} {L:List Str} {i j k c n:Nat} (hs:Ow lo aB w v (strs L)) (hne:v.ownBlock ≠ some c) (hi:i < L.length) (hj:j < L.length) (hk:k < L.length) (hb:Blk e w c [.int .i64 (n:Int)]) (hn:n ≤ 900):
  Cal Tryz.prog g7 #[v,.int .i64 (i:Int),.int .i64 (j:Int),.int .i64 (k:Int),.pointer (some ⟨c,0,none⟩)] w fun r w'=>∃ t m:Nat,r = .int .i64 (t:Int) ∧ (t = i ∨ t = j ∨ t = k) ∧ m ≤ n + 3 ∧ Blk e w' c [.int .i64 (m:Int)] ∧ Ch (fun d=>d = c) w w':=by
 apply pZ;unfold hH
 refine iCall ?_
 refine (dN hs hi hj hb (by omega)).mono fun r w1 h1=>?_
 obtain ⟨i1,j1,n1,rfl,h1,hn1,hb1,hc1⟩:=h1
 have hs1:=hs.ch hc1 fun d hd e=>hne (e ▸ hd)
 ((with_reducible refine iE20 ?_;refine iE21 ?_))
 refine iCall ?_
 refine (dN (i:=j1) hs1 (by rcases h1 with h | h <;> omega) hk hb1 (by omega)).mono fun r w2 h2=>?_
 obtain ⟨j2,k2,n2,rfl,h2,hn2,hb2,hc2⟩:=h2
 have hs2:=hs1.ch hc2 fun d hd e=>hne (e ▸ hd)
 ((with_reducible refine iE20 ?_;refine iE21 ?_))
 refine iCall ?_
 refine (dN (i:=i1) (j:=j2) hs2 (by rcases h1 with h | h <;> omega) (by rcases h1 with h | h <;> rcases h2 with h' | h' <;> omega) hb2 (by omega)).mono fun r w3 h3=>?_
 obtain ⟨i3,j3,n3,rfl,h3,hn3,hb3,hc3⟩:=h3
 ((with_reducible refine iE20 ?_;refine iE21 ?_))
 exact ⟨j3,n3,rfl,by rcases h1 with h | h <;> rcases h2 with h' | h' <;> rcases h3 with h'' | h'' <;> omega,by omega,hb3,aA (aA hc1 hc2) hc3⟩
theorem cI {lo:Nat} {e:TypeId} {w:World} {v:Value} {L:List Str} {i c n:Nat} (hs:Ow lo aB w v (strs L)) (hne:v.ownBlock ≠ some c) (h1:1 ≤ i) (hi:i + 1 < L.length) (hL:L.length ≤ 1152921504606846976) (hb:Blk e w c [.int .i64 (n:Int)]) (hn:n ≤ 900):
  Cal Tryz.prog eB #[v,.int .i64 (i:Int),.pointer (some ⟨c,0,none⟩)] w fun r w'=>∃ t m:Nat,r = .int .i64 (t:Int) ∧ (t = i - 1 ∨ t = i ∨ t = i + 1) ∧ m ≤ n + 3 ∧ Blk e w' c [.int .i64 (m:Int)] ∧ Ch (fun d=>d = c) w w':=by
 apply kC;unfold eD
 (refine iSub (by omega) ?_;refine iAdd (by omega) ?_)
 rw [show (i:Int) - 1 = ((i - 1:Nat):Int) by omega]
 refine iCall ?_
 exact gU (i:=i - 1) (j:=i) (k:=i + 1) hs hne (by omega) (by omega) hi hb hn
theorem lK {lo:Nat} {w:World} {v:Value} {L:List Str} {a b:Nat} (hs:Ow lo aB w v (strs L)) (hab:a + 8 ≤ b) (hb:b ≤ L.length) (hL:L.length ≤ 1152921504606846976):
  Cal Tryz.prog fJ #[v,.int .i64 (a:Int),.int .i64 (b:Int)] w fun r w'=>Ext w w' ∧ ∃ t:Nat,∃ x:Int,r = .tuple #[.int .i64 (t:Int),.int .i64 x] ∧ a ≤ t ∧ t < b:=by
 apply mA;unfold fH
 obtain ⟨n,rfl⟩:∃ n,b = a + n:=⟨b - a,by omega⟩
 refine iSub (by omega) ?_
 rw [show ((a + n:Nat):Int) - a = (n:Int) by omega]
 refine iNew fun c w1 hc1 h1 hb1=>?_
 have hne:v.ownBlock ≠ some c:=hs.lt (by omega)
 have hs1:=hs.ext h1
 have new:∀ {w':World},Ch (fun d=>d = c) w1 w' → Ext w w':=fun {w'} h=>h1.thenCh h fun d e=>by omega
 refine iQuo (by omega) ?_
 refine iMul (by omega) ?_
 refine iAdd (by omega) ?_
 refine iQuo (by omega) ?_
 refine iMul (by omega) ?_
 refine iAdd (by omega) ?_
 refine iQuo (by omega) ?_
 refine iMul (by omega) ?_
 refine iAdd (by omega) ?_
 refine iLe ?_
 rw [show (a:Int) + (n:Int) / 4 * 1 = ((a + n / 4 * 1:Nat):Int) by omega,show (a:Int) + (n:Int) / 4 * 2 = ((a + n / 4 * 2:Nat):Int) by omega,show (a:Int) + (n:Int) / 4 * 3 = ((a + n / 4 * 3:Nat):Int) by omega]
 refine iJnX (fun xs w'=>∃ t m:Nat,xs = [.int .i64 (t:Int)] ∧ a ≤ t ∧ t < a + n ∧ Blk 3 w' c [.int .i64 (m:Int)] ∧ Ch (fun d=>d = c) w1 w') (fun J hJ=>?_) ?_
 ·refine iCndP (fun h=>?_) (fun h=>?_)
  ·refine iLe ?_
   refine iJnX (fun xs w'=>∃ i j k m:Nat,xs = [.int .i64 (i:Int),.int .i64 (j:Int),.int .i64 (k:Int)] ∧ a ≤ i ∧ i < a + n ∧ a ≤ j ∧ j < a + n ∧ a ≤ k ∧ k < a + n ∧ m ≤ 9 ∧ Blk 3 w' c [.int .i64 (m:Int)] ∧ Ch (fun d=>d = c) w1 w') (fun J' hJ'=>?_) ?_
   ·refine iCndP (fun h5=>?_) (fun h5=>?_)
    ·refine iCall ?_
     refine (cI (n:=0) hs1 hne (by omega) (by omega) hL hb1 (by omega)).mono fun r w2 h2=>?_
     obtain ⟨i,m1,rfl,hi,hm1,hb2,hc2⟩:=h2
     have hs2:=hs1.ch hc2 fun d hd e=>hne (e ▸ hd)
     refine iCall ?_
     refine (cI hs2 hne (by omega) (by omega) hL hb2 (by omega)).mono fun r w3 h3=>?_
     obtain ⟨j,m2,rfl,hj,hm2,hb3,hc3⟩:=h3
     have hs3:=hs2.ch hc3 fun d hd e=>hne (e ▸ hd)
     refine iCall ?_
     refine (cI hs3 hne (by omega) (by omega) hL hb3 (by omega)).mono fun r w4 h4=>?_
     obtain ⟨k,m3,rfl,hk,hm3,hb4,hc4⟩:=h4
     exact hJ' _ _ ⟨i,j,k,m3,rfl,by omega,by omega,by omega,by omega,by omega,by omega,by omega,hb4,aA (aA hc2 hc3) hc4⟩
    ·exact hJ' _ _ ⟨_,_,_,0,rfl,by omega,by omega,by omega,by omega,by omega,by omega,by omega,hb1,(Ext.refl _).ch⟩
   rintro xs w5 ⟨i,j,k,m,rfl,h11,h12,h21,h22,h31,h32,hm,hb5,hc5⟩
   intro _
   simp only [gx]
   have hs5:=hs1.ch hc5 fun d hd e=>hne (e ▸ hd)
   refine iCall ?_
   refine (gU hs5 hne (i:=i) (j:=j) (k:=k) (by omega) (by omega) (by omega) hb5 (by omega)).mono fun r w6 h6=>?_
   obtain ⟨t,m',rfl,ht,hm',hb6,hc6⟩:=h6
   exact hJ _ _ ⟨t,m',rfl,by omega,by omega,hb6,aA hc5 hc6⟩
  ·omega
 rintro xs w3 ⟨t,m,rfl,ht1,ht2,hb3,hc3⟩
 intro _
 simp only [gx]
 (refine iLdB (by assumption) (by first | rfl | simp) ?_;(with_reducible refine iEq ?_))
 refine iCndP (fun h=>?_) (fun h=>?_)
 ·exact ⟨new hc3,t,1,rfl,ht1,ht2⟩
 ·((with_reducible refine iEq ?_))
  refine iCndP (fun h=>?_) (fun h=>?_)
  ·exact ⟨new hc3,t,2,rfl,ht1,ht2⟩
  ·exact ⟨new hc3,t,0,rfl,ht1,ht2⟩
theorem jV {lo:Nat} {w:World} {v:Value} {L:List Str} {a b t:Nat} (hs:Ow lo aB w v (strs L)) (hat:a ≤ t) (htb:t < b) (hb:b ≤ L.length) (hL:L.length ≤ 1152921504606846976):
  Cal Tryz.prog eE #[v,.int .i64 (a:Int),.int .i64 (b:Int),.int .i64 (t:Int)] w fun r w'=>∃ L':List Str,∃ m:Nat,r = .int .i64 (m:Int) ∧ Turn lo aB sv v w w' L' ∧ SwR a b L L' ∧ a < m ∧ m ≤ b ∧ (∀ k,a ≤ k → k < m → ltS (gt L t) (gt L' k) = false):=by
 apply kB;unfold eC
 refine iRdO (j:=t) hs rfl (by omega) ?_
 refine iRdO (j:=a) hs rfl (by omega) ?_
 refine iWr2 (i:=a) (j:=t) (fun _=>rfl) hs rfl rfl (by omega) (by omega) fun w5 h5=>?_
 have e0:gt (sw L a t) a = gt L t:=by rw [gt_sw (by omega) (by omega)];split <;> simp_all
 (refine iAdd (by omega) ?_;refine iSub (by omega) ?_)
 refine iLp (fun s:Nat × Int=>[.int .i64 (s.1:Int),.int .i64 s.2]) (fun s w'=>a + 1 ≤ s.1 ∧ s.1 ≤ b ∧ (s.1:Int) - 1 ≤ s.2 + 1 ∧ s.2 < b ∧ ∃ L',Turn lo aB sv v w w' L' ∧ SwR a b L L' ∧ gt L' a = gt L t ∧ ∀ k,a ≤ k → k < s.1 → ltS (gt L t) (gt L' k) = false) (fun s=>b - s.1) (a + 1,(b:Int) - 1) rfl
  ⟨Nat.le_refl _,by show a + 1 ≤ b;omega,by show ((a + 1:Nat):Int) - 1 ≤ (b:Int) - 1 + 1;omega,by show (b:Int) - 1 < b;omega,sw L a t,h5,.one (Nat.le_refl _) (by omega) hat htb hb,e0,fun k h1 h2=>by have h2:k < a + 1:=h2;rw [show k = a by omega,e0];exact ordrS.rfl _⟩ ?_
 rintro ⟨i0,j0⟩ w7 Kn ⟨hi0,hib0,hij0,hjb0,L1,ht1,hw1,he1,hq1⟩ hKn
 have hi0:a + 1 ≤ i0:=hi0
 have hib0:i0 ≤ b:=hib0
 have hij0:(i0:Int) - 1 ≤ j0 + 1:=hij0
 have hjb0:j0 < b:=hjb0
 have hq1:∀ k,a ≤ k → k < i0 → ltS (gt L t) (gt L1 k) = false:=hq1
 have hl1:=hw1.len
 intro _
 simp only [gx]
 refine iLp (fun i:Nat=>[.int .i64 (i:Int)]) (fun i w'=>i0 ≤ i ∧ i ≤ b ∧ (i:Int) - 1 ≤ j0 + 1 ∧ Ext w7 w' ∧ ∀ k,a ≤ k → k < i → ltS (gt L t) (gt L1 k) = false) (fun i=>b - i) i0 rfl ⟨Nat.le_refl _,hib0,hij0,Ext.refl _,hq1⟩ ?_
 rintro i w9 Kn9 ⟨hi,hib,hij,h9,hq⟩ hKn9
 intro _
 simp only [gx]
 have ht9:=ht1.ext h9
 refine iJnB (decide ((i:Int) ≤ j0) && !ltS (gt L1 a) (gt L1 i)) w9 (fun J hJ=>?_) (fun w11 h11=>?_)
 ·refine iLe ?_
  refine iCndP (fun h=>?_) (fun h=>?_)
  ·rw [decide_eq_true h,Bool.true_and] at hJ
   refine iRdO (j:=a) ht9.ow rfl (by omega) ?_
   refine iRdO (j:=i) ht9.ow rfl (by omega) ?_
   exact iRetQ (fun w' _=>aR _ _ w') (iNot hJ)
  ·rw [decide_eq_false h,Bool.false_and] at hJ
   exact hJ
 intro _
 simp only [gx]
 have h9':=h9.trans h11
 cases hc:decide ((i:Int) ≤ j0) && !ltS (gt L1 a) (gt L1 i)
 rotate_left
 ·rw [Bool.and_eq_true,decide_eq_true_eq,Bool.not_eq_true'] at hc
  refine iCndT rfl ?_
  (refine iAdd (by omega) ?_)
  refine hKn9 (i + 1) _ ⟨by omega,by omega,by omega,h9',fun k h1 h2=>?_⟩ (by omega)
  by_cases hk:k = i
  ·rw [hk,← he1];exact hc.2
  ·exact hq k h1 (by omega)
 refine iCndF rfl ?_
 refine iLp (fun j:Int=>[.int .i64 j]) (fun j w'=>j ≤ j0 ∧ (i:Int) - 1 ≤ j + 1 ∧ Ext w7 w' ∧ (j < j0 → (i:Int) - 1 ≤ j)) (fun j=>(j + 2).toNat) j0 rfl ⟨Int.le_refl _,hij,h9',fun h=>by omega⟩ ?_
 rintro j w15 Kn15 ⟨hjj,hij2,h15,hij3⟩ hKn15
 intro _
 simp only [gx]
 have ht15:=ht1.ext h15
 refine iJnB (decide ((i:Int) ≤ j) && ltS (gt L1 a) (gt L1 j.toNat)) w15 (fun J hJ=>?_) (fun w17 h17=>?_)
 ·refine iLe ?_
  refine iCndP (fun h=>?_) (fun h=>?_)
  ·rw [decide_eq_true h,Bool.true_and] at hJ
   refine iRdO (j:=a) ht15.ow rfl (by omega) ?_
   refine iRdO (j:=j.toNat) ht15.ow (by omega) (by omega) ?_
   exact iRetQ (fun w' _=>aR _ _ w') hJ
  ·rw [decide_eq_false h,Bool.false_and] at hJ
   exact hJ
 intro _
 simp only [gx]
 have ht17:=ht15.ext h17
 cases hc2:decide ((i:Int) ≤ j) && ltS (gt L1 a) (gt L1 j.toNat)
 rotate_left
 ·rw [Bool.and_eq_true,decide_eq_true_eq] at hc2
  refine iCndT rfl ?_
  refine iSub (by omega) ?_
  exact hKn15 (j - 1) _ ⟨by omega,by omega,h15.trans h17,fun _=>by omega⟩ (by omega)
 refine iCndF rfl ?_
 refine iLt ?_
 refine iCndP (fun h=>?_) (fun h=>?_)
 ·exact ⟨L1,i,rfl,ht17,hw1,by omega,hib,hq⟩
 ·have hlt:ltS (gt L1 a) (gt L1 j.toNat) = false:=by
   rw [decide_eq_true (show (i:Int) ≤ j by omega),Bool.true_and] at hc2;exact hc2
  refine iRdO (j:=j.toNat) ht17.ow (by omega) (by omega) ?_
  refine iRdO (j:=i) ht17.ow rfl (by omega) ?_
  refine iWr2 (i:=i) (j:=j.toNat) (fun _=>rfl) ht17.ow rfl (by omega) (by omega) (by omega) fun w24 h24=>?_
  refine iAdd (by omega) ?_
  refine iSub (by omega) ?_
  have eS:∀ k,gt (sw L1 i j.toNat) k = if k = j.toNat then gt L1 i else if k = i then gt L1 j.toNat else gt L1 k:=gt_sw (by omega) (by omega)
  refine hKn (i + 1,j - 1) _ ⟨by show a + 1 ≤ i + 1;omega,by show i + 1 ≤ b;omega,by show ((i + 1:Nat):Int) - 1 ≤ j - 1 + 1;omega,by show j - 1 < b;omega,sw L1 i j.toNat,ht17.trans h24,.step hw1 (by omega) (by omega) (by omega) (by omega) hb,by rw [eS,if_neg (by omega),if_neg (by omega)];exact he1,fun k h1 h2=>?_⟩ (by show b - (i + 1) < b - i0;omega)
  have h2:k < i + 1:=h2
  rw [eS]
  by_cases hk:k = i
  ·subst hk
   split
   ·rename_i hkj;rw [← hkj,he1] at hlt;exact hlt
   ·rw [if_pos rfl,← he1];exact hlt
  ·rw [if_neg (by omega),if_neg hk];exact hq k h1 (by omega)
end Go.Proofs.YteifjhpddhppcaaGreatDoor
